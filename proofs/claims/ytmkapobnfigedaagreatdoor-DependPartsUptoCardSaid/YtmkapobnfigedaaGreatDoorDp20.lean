/- A part of a proof of a law. Conditions: none. -/
import Derived.Test.YtmkapobnfigedaaGreatDoorDp15
import Derived.Test.YtmkapobnfigedaaGreatDoorDp18
set_option linter.unusedVariables false
set_option linter.unusedSimpArgs false
set_option maxRecDepth 100000
set_option maxHeartbeats 40000000
namespace Go.Proofs.YtmkapobnfigedaaGreatDoor
open Go.Proofs.Tryz List Go.RowKit
theorem tI (B d b:Nat) (S:PSt) (c:PCall) (r:PRes) (w:World) (h:DoAt B w d b S c r) (hk:c.kind=4\/c.kind=5\/c.kind=7) (R:Except Int (PSt × PRes)) (ht:Calls prog 146 #[.pointer d] w (bL B w d b c R)):
 Calls prog 108 #[.pointer d] w (bL B w d b c R):=by
 obtain⟨iD,d1⟩:=h.kind;clear h;rcases hk with hk|hk|hk<;>rw[hk]at d1<;>rcases R with k|⟨S',r'⟩
 all_goals(go_in)
 all_goals first
  | (go_wp2_with(go_at_call 146;refine ht.mono ?_;rintro e w1 ⟨hb1,hr1⟩;obtain rfl:e=bR k:=hr1)
     exact⟨rfl,hb1,rfl⟩)
  | (go_wp2_with(go_at_call 146;refine ht.mono ?_;rintro e w1 ⟨hb1,hr1⟩;have a0:e=.returned (.tuple #[])/\DoAt B w1 d b S' c r':=hr1;clear hr1;obtain⟨rfl,hd1⟩:=a0;have HD:=aC hd1;clear hd1)
     exact xE (v:=.tuple #[]) (by simp[results,go_sem]) rfl ⟨hb1,rfl,HD.out⟩)
theorem aRG (B d b:Nat) (S:PSt) (c:PCall) (r:PRes) (w:World) (h:DoAt B w d b S c r) (hk:c.kind=2) (R:Except Int (PSt × PRes)) (ht:Calls prog 142 #[.pointer d] w (bL B w d b c R)):
 Calls prog 108 #[.pointer d] w (bL B w d b c R):=by
 obtain⟨iD,d1⟩:=h.kind;rw[hk]at d1;clear h;rcases R with k|⟨S',r'⟩
 all_goals(go_in)
 .go_wp2_with(go_at_call 142;refine ht.mono ?_;rintro e w1 ⟨hb1,hr1⟩;obtain rfl:e=bR k:=hr1)
  exact⟨rfl,hb1,rfl⟩
 go_wp2_with(go_at_call 142;refine ht.mono ?_;rintro e w1 ⟨hb1,hr1⟩;have a0:e=.returned (.tuple #[])/\DoAt B w1 d b S' c r':=hr1;clear hr1;obtain⟨rfl,hd1⟩:=a0;have HD:=aC hd1;clear hd1);exact xE (v:=.tuple #[]) (by simp[results,go_sem]) rfl ⟨hb1,rfl,HD.out⟩
theorem aRK (B d b:Nat) (S:PSt) (c:PCall) (r:PRes) (w:World) (h:DoAt B w d b S c r) (hk:c.kind=12\/c.kind=13\/c.kind=14) (R:Except Int (PSt × PRes)) (ht:Calls prog 150 #[.pointer d] w (bL B w d b c R)):
 Calls prog 108 #[.pointer d] w (bL B w d b c R):=by
 obtain⟨iD,d1⟩:=h.kind;rcases hk with hk|hk|hk
 all_goals
  rw[hk]at d1;clear h;rcases R with k|⟨S',r'⟩
  all_goals(go_in)
  .go_wp2_with(go_at_call 150;refine ht.mono ?_;rintro e w1 ⟨hb1,hr1⟩;obtain rfl:e=bR k:=hr1)
   exact⟨rfl,hb1,rfl⟩
  go_wp2_with(go_at_call 150;refine ht.mono ?_;rintro e w1 ⟨hb1,hr1⟩;have a0:e=.returned (.tuple #[])/\DoAt B w1 d b S' c r':=hr1;clear hr1;obtain⟨rfl,hd1⟩:=a0;have HD:=aC hd1;clear hd1);exact xE (v:=.tuple #[]) (by simp[results,go_sem]) rfl ⟨hb1,rfl,HD.out⟩
def mS (S:PSt) (c:PCall):Except Int (PSt × PRes):=
 if c.kind=4 then rU S c PRes.zero else if c.kind=7 then rV S c PRes.zero else
 if(aA c.path).1≠0 then .error (eE (aA c.path).1)else
 if c.kind=12 then aCP S c PRes.zero else if c.kind=13 then aIA S c PRes.zero else uJ S c PRes.zero
def aRL (c:PCall):Prop:=c.kind=4\/c.kind=7\/c.kind=12\/c.kind=13\/c.kind=14
theorem aFU {S:PSt} (h:cO S=true):∀x∈S.ins,x.data.size<=256:=by
 intro x hx;unfold cO at h;split at h
 .rename_i h1
  simp only[zE]at h1;have h2:=h1.1.2;unfold dW at h2;split at h2
  .rename_i e
   rw[e]at hx;cases hx
  rename_i y r e;split at h2
  .split at h2
   .rw [zE]at h2;have h3:=all_eq_true.1 h2.2 x hx;unfold inB at h3
    split at h3
    .rw[zE]at h3;have h4:=h3.1;rw[zW]at h4;have:x.data.size=0:=by
      have h5:=isEmpty_iff.1 h4;have:=congrArg List.length h5;simpa using this
     omega
    simp only[zE,zI]at h3;exact h3.2
   cases h2
  cases h2
 cases h
section
def cY (f:Nat->Nat):Nat->Nat
 |0=>0
 |n+1=>cY f n+f n
theorem aAT {f:Nat->Nat}:∀{n:Nat},cY f n=1->∃p,p<n/\f p=1/\∀k,k<n->k≠p->f k=0
 |0,h=>by cases h
 | n+1,h=>by
   unfold cY at h;have hz:∀{m:Nat},cY f m=0->∀k,k<m->f k=0:=by
    intro m
    induction m with
    |zero=>intro _ k hk;omega
    | succ m ih=>
      intro h k hk;unfold cY at h;by_cases e:k=m
      .subst e;omega
      exact ih (by omega) k (by omega)
   by_cases e:f n=1
   .exact⟨n,by omega,e,λk hk hne=>hz (m:=n) (by omega) k (by omega)⟩
   obtain⟨p,h1,h2,h3⟩:=aAT (f:=f) (n:=n) (by omega);exact⟨p,by omega,h2,λk hk hne=>by
    by_cases e2:k=n
    .subst e2;omega
    exact h3 k (by omega) hne⟩
theorem qL {f g:Nat->Nat}:∀{n:Nat},(∀k,k<n->f k<=g k)->cY f n<=cY g n
 |0,_=>zC _
 | n+1,h=>by unfold cY;have h1:=qL (f:=f) (g:=g) (n:=n) λk hk=>h k (by omega);have h2:=h n (by omega);omega
theorem fF (c n:Nat):cY (λ_=>c) n=n*c:=by
 induction n with
 |zero=>simp[cY]
 |succ n ih=>unfold cY;rw[ih,Nat.succ_mul]
theorem aIC (f g:Nat->Nat) (n:Nat):cY (λk=>f k+g k) n=cY f n+cY g n:=by
 induction n with
 |zero=>rfl
 |succ n ih=>unfold cY;rw[ih];omega
def bD (S:PSt) (k:Nat):List Nat:=match S.ins[k]? with
 |some x=>if x.dir=true then x.ents.map λe=>(bP S e.num).toNat else[]
 |none=>[]
def bV (S:PSt):Nat->List Nat->List Nat
 |0,ns=>ns
 |i+1,ns=>bV S i (ns.flatMap (bD S))
theorem sY (S:PSt):∀i,bV S i []=[]
 |0=>rfl
 |i+1=>by unfold bV;exact sY S i
theorem lN (S:PSt):∀i (as_ bs:List Nat),bV S i (as_++bs)=bV S i as_++bV S i bs
 |0,_,_=>rfl
 | i+1,as_,bs=>by unfold bV;rw[flatMap_append];exact lN S i _ _
theorem gZ (S:PSt):∀i ns,bV S (i+1) ns=(bV S i ns).flatMap (bD S)
 |0,_=>rfl
 | i+1,ns=>by show bV S (i+1) (ns.flatMap (bD S))=_;rw[gZ S i];rfl
def aQR (S:PSt):Nat->Nat->Nat
 |0,_=>0
 |f+1,k=>1+((bD S k).map (aQR S f)).sum
theorem aLB (g:Nat->Nat) (n:Nat):cY g (n+1)=g 0+cY (λi=>g (i+1)) n:=by
 induction n with
 |zero=>simp[cY]
 | succ n ih=>rw[cY,ih];simp only[cY];omega
structure Tree (S:PSt):Prop where
 rise:Rise S.nums
 pos:0<S.ins.length
 small:S.ins.length<=257
 found:∀x∈S.ins,∀e∈x.ents,0<=bP S e.num/\bP S e.num<S.ins.length
 root:∀k,0∉bD S k
 once:∀j x,S.ins[j]? =some x->x.dir=true->j≠0->cY (λk=>(bD S k).count j) S.ins.length<=1
 many:∀x∈S.ins,x.ents.length<=32
 name:∀x∈S.ins,∀e∈x.ents,e.name.size<=12
 data:∀x∈S.ins,x.data.size<=256
section
variable {S:PSt}
theorem Tree.kid_lt (h:Tree S) {k j:Nat} (hj:j∈bD S k):j<S.ins.length:=by
 unfold bD at hj;split at hj
 .rename_i x hx
  split at hj
  .obtain⟨e,he,rfl⟩:=mem_map.1 hj;have:=h.found x (mG hx) e he;omega
  cases hj
 cases hj
def eP (S:PSt) (k:Nat):Bool:=match S.ins[k]? with|some x=>x.dir|none=>false
theorem aAU {k:Nat} (h:bD S k≠[]):eP S k=true:=by
 unfold bD at h;unfold eP;split at h
 .rename_i x hx
  rcases hd:x.dir with _|_
  .rw[hd]at h;simp at h
  rfl
 exact absurd rfl h
theorem Tree.lev_lt (h:Tree S):∀i j,j∈bV S i [0]->j<S.ins.length
 | 0,j,hj=>by have:j=0:=mem_singleton.1 hj;have:=h.pos;omega
 | i+1,j,hj=>by rw[gZ]at hj;obtain⟨k,_,hk⟩:=mem_flatMap.1 hj;exact h.kid_lt hk
theorem aAV (f:Nat->List Nat) (j:Nat):∀l:List Nat,(l.flatMap f).count j=(l.map λk=>(f k).count j).sum
 |[]=>rfl
 | k::r=>by rw[flatMap_cons,count_append,aAV f j r];rfl
theorem aAW {c:Nat->Nat} {p:Nat} (hp:c p=1):∀l:List Nat,(∀k∈l,k≠p->c k=0)->(l.map c).sum=l.count p
 |[],_=>rfl
 | k::r,h=>by
   rw[xB,sum_cons,aAW hp r λk hk=>h k (zL _ hk),count_cons];by_cases e:k=p
   .subst e;rw[hp];simp;omega
   rw[h k zQ e];simp[e]
theorem pP {c:Nat->Nat}:∀l:List Nat,(∀k∈l,c k=0)->(l.map c).sum=0
 |[],_=>rfl
 | k::r,h=>by rw[xB,sum_cons,pP r λk hk=>h k (zL _ hk),h k zQ]
theorem Tree.visit (h:Tree S):∀(l j:Nat),eP S j=true->cY (λi=>(bV S i [0]).count j) (l+1)<=1
 | 0,j,_=>by
   simp only[cY,bV];rw[count_singleton];split<;>omega
 | l + 1,j,hj=>by
   rw[aLB];have a0:∀i,(bV S (i+1) [0]).count j=((bV S i [0]).map λk=>(bD S k).count j).sum:=λi=>by rw[gZ,aAV]
   simp only[a0];by_cases j0:j=0
   .subst j0;have hz:∀i,((bV S i [0]).map λk=>(bD S k).count 0).sum=0:=λi=>pP _ λk _=>count_eq_zero.2 (h.root k)
    simp only[hz];rw[fF];simp[bV]
   have h0:(bV S 0 [0]).count j=0:=count_eq_zero.2 (by simp[bV];exact j0);rw[h0,zM];have hx:∃x,S.ins[j]? =some x/\x.dir=true:=by
    unfold eP at hj;split at hj
    .rename_i x hx;exact⟨x,hx,hj⟩
    cases hj
   obtain⟨x,hx1,hx2⟩:=hx;have ho:=h.once j x hx1 hx2 j0;rcases Nat.lt_or_ge 0 (cY (λk=>(bD S k).count j) S.ins.length)with hp|hp
   .obtain⟨p,p1,p2,p3⟩:=aAT (f:=λk=>(bD S k).count j) (n:=S.ins.length) (by omega);have a1:eP S p=true:=aAU (λe=>by simp only[e]at p2;simp at p2);have hi:∀i,((bV S i [0]).map λk=>(bD S k).count j).sum=(bV S i [0]).count p:=λi=>aAW (c:=λk=>(bD S k).count j) (p:=p) p2 _ λk hk hne=>p3 k (h.lev_lt i k hk) hne
    simp only[hi];exact h.visit l p a1
   have hz:∀k,k<S.ins.length->(bD S k).count j=0:=by
    have key:∀(n:Nat),cY (λk=>(bD S k).count j) n=0->∀k,k<n->(bD S k).count j=0:=by
     intro n
     induction n with
     |zero=>intro _ k hk;omega
     | succ n ih=>
       intro e k hk;unfold cY at e;by_cases e2:k=n
       .subst e2;omega
       exact ih (by omega) k (by omega)
    exact key _ (by omega)
   have hi:∀i,((bV S i [0]).map λk=>(bD S k).count j).sum=0:=λi=>pP _ λk hk=>hz k (h.lev_lt i k hk);simp only[hi];rw[fF];omega
theorem aLC (S:PSt) (n:Nat):∀l:List Nat,(∀k∈l,k<n)->l.countP (eP S)=cY (λj=>if eP S j=true then l.count j else 0) n:=by
 intro l
 induction l with
 | nil=>
   intro _;have:(λj=>if eP S j=true then([]:List Nat).count j else 0)=λ_=>0:=by funext j;simp
   rw[this,fF];simp
 | cons k r ih=>
   intro hl;have hk:=hl k zQ;rw[countP_cons,ih λk hk=>hl k (zL _ hk)];have e:(λj=>if eP S j=true then(k::r).count j else 0)=λj=>(if eP S j=true then r.count j else 0)+(if j=k then(if eP S k=true then 1 else 0)else 0):=by
    funext j;rw[count_cons];by_cases e1:j=k
    .subst e1;simp
     split<;>rfl
    have:(k==j)=false:=by rw[yF];exact λh=>e1 h.symm
    simp[this,e1]
   rw[e,aIC];congr 1;have a0:∀(n k v:Nat),k<n->cY (λj=>if j=k then v else 0) n=v:=by
    intro n
    induction n with
    |zero=>intro k v hk;omega
    | succ n ihn=>
      intro k v hk;unfold cY;by_cases e2:k=n
      .subst e2;have:cY (λj=>if j=k then v else 0) k=0:=by
        have hm:cY (λj=>if j=k then v else 0) k<=cY (λ_=>0) k:=qL λj hj=>by rw[zA (by omega)];exact zC _
        rw[fF]at hm;omega
       rw[this,zB rfl];omega
      rw[ihn k v (by omega),zA (λh=>e2 h.symm),zN]
   rw[a0 n k _ hk]
theorem aDP (g:Nat->Nat->Nat) (n:Nat):∀m,cY (λi=>cY (λj=>g i j) n) m=cY (λj=>cY (λi=>g i j) m) n
 | 0=>by simp only[cY];rw[fF];rfl
 | m+1=>by rw[cY,aDP g n m];rw[<-aIC];rfl
theorem Tree.dirs (h:Tree S) (l:Nat):cY (λi=>(bV S i [0]).countP (eP S)) (l+1)<=S.ins.length:=by
 have e:∀i,(bV S i [0]).countP (eP S)=cY (λj=>if eP S j=true then(bV S i [0]).count j else 0) S.ins.length:=λi=>aLC S S.ins.length _ λk hk=>h.lev_lt i k hk;simp only[e];rw[aDP];have hb:cY (λj=>cY (λi=>if eP S j=true then(bV S i [0]).count j else 0) (l+1)) S.ins.length<=cY (λ_=>1) S.ins.length:=qL λj hj=>by
  by_cases hd:eP S j=true
  .simp only[hd,if_true];exact h.visit l j hd
  simp only[hd,zA (Bool.false_ne_true)];have:cY (λ_=>0) (l+1)=0:=by rw[fF];rfl
  simp[this]
 rw[fF]at hb;omega
theorem aNA {f:Nat->Nat}:∀{n i:Nat},i<n->f i<=cY f n
 |0,_,h=>by omega
 | n+1,i,h=>by
   unfold cY;by_cases e:i=n
   .subst e;omega
   have:=aNA (f:=f) (n:=n) (i:=i) (by omega);omega
theorem Tree.ends (h:Tree S):bV S 258 [0]=[]:=by
 have a0:∃i,i<258/\(bV S i [0]).countP (eP S)=0:=by
  apply Classical.byContradiction;intro hn;have h1:cY (λ_=>1) 258<=cY (λi=>(bV S i [0]).countP (eP S)) 258:=qL λi hi=>by
   rcases Nat.lt_or_ge 0 ((bV S i [0]).countP (eP S))with h2|h2
   .exact h2
   exact absurd ⟨i,hi,by omega⟩ hn
  rw[fF]at h1;have h2:cY (λi=>(bV S i [0]).countP (eP S)) 258<=S.ins.length:=h.dirs 257;have h4:=h.small;omega
 obtain⟨i,hi,hz⟩:=a0;have h1:bV S (i+1) [0]=[]:=by rw[gZ];rw[flatMap_eq_nil_iff];intro k hk;apply Classical.byContradiction;intro hne;have:=countP_eq_zero.1 hz k hk;exact this (aAU hne)
 have key:∀m,bV S (i+1+m) [0]=[]:=by
  intro m
  induction m with
  |zero=>exact h1
  |succ m ih=>rw[<-Nat.add_assoc,gZ,ih];rfl
 have:=key (258-(i+1));rw[show i+1+(258-(i+1))=258 by omega]at this;exact this
theorem aZU {k:Nat} {n:Int} (h0:0<=bP S n) (hk:(bP S n).toNat=k):cV (nL n) S.ins=(k:Int):=by show bP S n=_;omega
theorem Tree.ok (h:Tree S):∀(f:Nat) (n:Int),0<=bP S n->bP S n<S.ins.length->bV S f [(bP S n).toNat]=[]->aUT S f n=true
 |0,n,h0,h1,hl=>by cases hl
 | f +1,n,h0,h1,hl=>by
   unfold aUT;rw[aZU h0 rfl,zJ];have hx:S.ins[(bP S n).toNat]? =some (S.ins[(bP S n).toNat]'(by omega)):=gE (by omega);rw[hx];simp only[zE,zI];refine⟨by omega,?_⟩;rcases hd:(S.ins[(bP S n).toNat]'(by omega)).dir with _|_
   .rfl
   simp only[Bool.not_true,Bool.false_or,yY];intro e he;have hf:=h.found _ (getElem_mem (by omega)) e he;refine h.ok f e.num hf.1 hf.2 ?_;have a0:bV S f (bD S (bP S n).toNat)=[]:=by have:bV S (f+1) [(bP S n).toNat]=bV S f ([(bP S n).toNat].flatMap (bD S)):=rfl;rw[this]at hl;simpa using hl
   have hm:(bP S e.num).toNat∈bD S (bP S n).toNat:=by unfold bD;rw[hx];simp only;rw[zB hd];exact mem_map_of_mem he
   obtain⟨as_,bs,e2⟩:=append_of_mem hm;rw[e2,show(bP S e.num).toNat::bs=[(bP S e.num).toNat]++bs from rfl,lN,lN]at a0;exact(append_eq_nil_iff.1 (append_eq_nil_iff.1 a0).2).1
theorem Tree.len (h:Tree S):∀(f:Nat) (n:Int) (p:Nat),aXA S f n p<=aQR S f (bP S n).toNat*(p+13*f+552)
 |0,n,p=>Nat.zero_le _
 | f + 1,n,p=>by
   unfold aXA aQR;have ei:(cV (nL n) S.ins).toNat=(bP S n).toNat:=rfl;rw[ei];rcases hx:S.ins[(bP S n).toNat]? with _|x
   .exact Nat.zero_le _
   simp only;have hk:bD S (bP S n).toNat=if x.dir=true then x.ents.map λe=>(bP S e.num).toNat else[]:=by unfold bD;rw[hx]
   have a0:=mG hx;by_cases hd:x.dir=true
   .rw[zB hd];rw[zB hd]at hk;rw[hk,map_map];have h1:=aUS (λe:PEnt=>aXA S f e.num (p+1+e.name.size)) (λe=>aQR S f (bP S e.num).toNat*(p+13*(f+1)+552)) x.ents λe he=>by
     have h2:=h.len f e.num (p+1+e.name.size);have h3:=h.name x a0 e he;exact zD h2 (Nat.mul_le_mul_left _ (by omega))
    have h4:(x.ents.map λe=>aQR S f (bP S e.num).toNat*(p+13*(f+1)+552)).sum=(x.ents.map (aQR S f∘λe=>(bP S e.num).toNat)).sum*(p+13*(f+1)+552):=by
     generalize p+13*(f+1)+552=c
     induction x.ents with
     |nil=>simp
     |cons e r ih=>simp only[xB,sum_cons,Function.comp];rw[ih,Nat.add_mul]
    rw[h4]at h1;rw[Nat.add_mul,Nat.one_mul];omega
   rw[zA hd];have h5:=h.data x a0;rw[Nat.add_mul,Nat.one_mul];have:p+2*x.data.size+40<=p+13*(f+1)+552:=by omega
   omega
end
end
section
theorem aAX {made:List Int}:∀(l:List Int) (p:Int),nZ made p l=true->(∀(i:Nat) (x:Int),l[i]? =some x->p<x/\dL made x=true)/\Rise l
 |[],p,_=>⟨λi x h=>by simp at h,λi j x y h=>by simp at h⟩
 | n :: r, p,h=>by
   unfold nZ at h;split at h
   .cases h
   rename_i h1;split at h
   .cases h
   rename_i h2;obtain⟨h3,h4⟩:=aAX r n h;refine⟨λi x hx=>?_,λi j x y hx hy hij=>?_⟩
   .rcases i with _|i
    .simp at hx;subst hx;exact⟨by omega,by simpa using h2⟩
    have:=h3 i x (by simpa using hx);exact⟨by omega,this.2⟩
   rcases j with _|j
   .omega
   rcases i with _|i
   .simp at hx;subst hx;exact(h3 j y (by simpa using hy)).1
   exact h4 i j x y (by simpa using hx) (by simpa using hy) (by omega)
variable {S:PSt} {j:Nat} {ns:List Int} {y:PIn}
theorem vX (h:Rise ns):∀(i:Nat) (x y:Int),ns[0]? =some x->ns[i]? =some y->x+i<=y
 |0,x,y,hx,hy=>by rw[hx]at hy;have:=Option.some.inj hy;omega
 | i+1,x,y,hx,hy=>by obtain⟨hl,_⟩:=gI.1 hy;have hz:ns[i]? =some ns[i]:=gE (by omega);have h1:=vX h i x _ hx hz;have h2:=h i (i+1) _ _ hz hy (by omega);omega
theorem aAY {s:ByteArray} (h:dP s=true):s.size<=12:=by
 unfold dP cU at h;by_cases e:12<s.size
 .rw[zB e]at h;cases h
 omega
theorem aNB:∀(sl:List Int) (k:Nat) (x:Int),sl[k]? =some x->(sl.set k (x+1)).sum=sl.sum+1
 |[],k,x,h=>by simp at h
 | y::r,0,x,h=>by simp at h;subst h;simp only[sZ,sum_cons];omega
 | y::r,k+1,x,h=>by simp only[sS,sum_cons];rw[aNB r k x (by simpa using h)];omega
theorem aNC:∀(sl:List Int),(∀x∈sl,x<=4)->sl.sum<=4*sl.length
 |[],_=>by simp
 | x::r,h=>by have h1:=aNC r λy hy=>h y (zL _ hy);have h2:=h x zQ;simp only[sum_cons,zK];omega
theorem aDQ:∀(es:List PEnt) (prev:Option ByteArray) (sl:List Int),fA ns prev sl es=true->(∀x∈sl,x<=4)->(∀e∈es,e.name.size<=12/\e.num≠1/\0<=aK ns e.num)/\es.length+sl.sum<=4*sl.length
 |[],_,sl,_,h4=>⟨λe he=>(by cases he),by have:=aNC sl h4;simp;omega⟩
 | e :: r,prev,sl,h,h4=>by
   unfold fA at h;split at h
   .cases h
   rename_i h1;split at h
   .cases h
   split at h
   .cases h
   rename_i h3;split at h
   .cases h
   rename_i h5;rcases hs:sl[(aV e.name).toNat]? with _|x
   .rw[hs]at h;cases h
   rw [hs]at h;simp only at h;split at h
   .cases h
   rename_i h6;obtain⟨a1,a2⟩:=aDQ r _ _ h (λy hy=>by
    rcases mem_or_eq_of_mem_set hy with hy|hy
    .exact h4 y hy
    omega)
   rw[aNB sl _ x hs,yB]at a2;refine⟨λe' he=>?_,by simp only[zK];omega⟩;rcases mem_cons.1 he with rfl|he
   .exact⟨aAY (by simpa using h1),h3,by omega⟩
   exact a1 e' he
theorem aAZ (n:Int):∀(xs ys:List PIn) (a:Int),lkI n (xs++ys) a=lkI n ys (lkI n xs a)
 |[],_,_=>rfl
 | x::r,ys,a=>by show lkI n (r++ys) _=_;rw[aAZ n r ys];rfl
theorem aDR (hr:Rise S.nums) (hj:S.ins[j]? =some y):∀(es:List PEnt) (a:Int),(∀e∈es,0<=bP S e.num)->vU y.num es a=a+(((es.map λe=>(bP S e.num).toNat).count j:Nat):Int)
 |[],a,_=>by simp[vU]
 | e :: r,a,h=>by
   unfold vU;rw[aDR hr hj r _ λe' he=>h e' (zL _ he),xB,count_cons];have he:=h e zQ;by_cases e1:e.num=y.num
   .rw[zB (by simpa using e1)];have:(bP S e.num).toNat=j:=by rw[e1,cS hr hj];simp
    rw[this];simp;omega
   rw [zA (by simpa using e1)];have:((bP S e.num).toNat==j)=false:=by
    rw[yF];intro e2;rcases gC S e.num with⟨k,x,hk,e3⟩|⟨_,e3⟩
    .rw[<-e3,cS hr hk]at e2;have:k=j:=by omega
     subst this;rw[hk]at hj;cases hj;exact e1 e3.symm
    omega
   rw[this];simp
theorem aND (hr:Rise S.nums) (hf:∀x∈S.ins,∀e∈x.ents,0<=bP S e.num) (hj:S.ins[j]? =some y):∀m,m<=S.ins.length->lkI y.num (S.ins.take m) 0=((cY (λk=>(bD S k).count j) m:Nat):Int)
 |0,_=>rfl
 | m+1,hm=>by
   have hx:S.ins[m]? =some (S.ins[m]'(by omega)):=gE (by omega);rw[take_add_one,hx];simp only[Option.toList_some];rw[aAZ,aND hr hf hj m (by omega)];rw[show cY (λk=>(bD S k).count j) (m+1)=cY (λk=>(bD S k).count j) m+(bD S m).count j from rfl];show(if (S.ins[m]'(by omega)).dir=true then vU y.num (S.ins[m]'(by omega)).ents _ else _)=_;have hk:bD S m=if(S.ins[m]'(by omega)).dir=true then(S.ins[m]'(by omega)).ents.map λe=>(bP S e.num).toNat else[]:=by unfold bD;rw[hx]
   rw[hk];split
   .rw[aDR hr hj _ _ (hf _ (getElem_mem (by omega)))];omega
   simp
theorem aBA {many:List Int} {found:List Bool} {op:List PDesc}:∀(xs:List PIn) (i j:Nat) (x:PIn),eJ many found op i xs=true->xs[j]? =some x->x.dir=true->i+j≠0->many.getD (i+j) 0=1
 |[],_,_,_,_,h,_,_=>by simp at h
 | y ::r,i,0,x,h,hx,hd,hn=>by
   simp at hx;subst hx;unfold eJ at h;rw[zA (by omega)]at h;split at h
   .cases h
   rename_i h1;rw[hd]at h1;simp only[xC,yI,yL,not_or,yF]at h1;have:=h1.1;exact Classical.not_not.1 this
 | y :: r,i,j+1,x,h,hx,hd,hn=>by
   have hr:eJ many found op (i+1) r=true:=by
    unfold eJ at h;split at h
    .exact h
    split at h
    .cases h
    split at h
    .cases h
    exact h
   have:=aBA r (i+1) j x hr (by simpa using hx) hd (by omega);rw[show i+(j+1)=i+1+j by omega];exact this
theorem pQ (hwf:S.wf) (hm:cO S=true):Tree S:=by
 have a5:=aFU hm;unfold cO at hm;split at hm;rotate_left
 .cases hm
 rename_i h1;simp only[zE]at h1;obtain⟨⟨hmade,hins⟩,hop⟩:=h1;unfold dW at hins;rcases e:S.ins with _|⟨x0,r⟩
 .rw[e]at hins;cases hins
 rw[e]at hins;simp only at hins;split at hins;rotate_left
 .cases hins
 rename_i hn0;split at hins;rotate_left
 .cases hins
 rename_i hd0;rw[<-e,zE,yY]at hins;obtain⟨hnb,hall⟩:=hins;obtain⟨n1,n2⟩:=aAX _ _ hnb;have a4:S.nums=1::r.map PIn.num:=by unfold PSt.nums;rw[e,xB,hn0]
 have hr:Rise S.nums:=by
  rw[a4];intro i j x y hx hy hij;rcases j with _|j
  .omega
  rcases i with _|i
  .simp at hx;subst hx;exact(n1 j y (by simpa using hy)).1
  exact n2 i j x y (by simpa using hx) (by simpa using hy) (by omega)
 have a8:S.ins[0]? =some x0:=by rw[e];rfl
 have a0:∀x∈S.ins,(∀e∈x.ents,e.name.size<=12/\e.num≠1/\0<=aK S.nums e.num)/\x.ents.length<=32/\(x.dir=false->x.ents=[]):=λx hx=>by
  have:=hall x hx;unfold inB at this;split at this
  .rename_i hd
   rw[zE]at this;obtain⟨a1,a2⟩:=aDQ x.ents none [0,0,0,0,0,0,0,0] this.2 (λy hy=>by simp at hy;omega);refine⟨a1,by simp at a2;omega,λh=>by rw[hd]at h;cases h⟩
  simp only[zE,zI]at this;have h0:=zT this.1;rw[h0];exact⟨λe he=>(by cases he),by simp,λ_=>rfl⟩
 have a3:∀x∈S.ins,∀e∈x.ents,0<=bP S e.num/\bP S e.num<S.ins.length:=λx hx e' he=>by have h2:=((a0 x hx).1 e' he).2.2;rw[bG hr]at h2;have:=fE S e'.num;omega
 have a6:S.ins.length<=257:=by
  apply Classical.byContradiction;intro hl;obtain⟨v,hy⟩:∃v,S.nums[257]? =some v:=⟨_,gE (by unfold PSt.nums;rw[lM];omega)⟩;have h2:=vX hr 257 1 _ (by rw[a4];rfl) hy;have h3:(r.map PIn.num)[256]? =some v:=by rw[a4]at hy;simpa using hy
  have h4:=(n1 256 _ h3).2;unfold dL at h4;rw[zA (by omega)]at h4;split at h4
  .rename_i m hmk
   simp only[zI]at h4;unfold dS at hmade;simp only[zE,yL,any_eq_false]at hmade;have h5:=hmade.2 m (mG hmk);unfold eC at h5;simp only[yI,zI,not_or]at h5;omega
  cases h4
 refine⟨hr,by rw[e];simp,a6,a3,λk hk=>?_,λj x hx hd hj=>?_,λx hx=>(a0 x hx).2.1,λx hx e' he=>((a0 x hx).1 e' he).1,a5⟩
 .unfold bD at hk
  split at hk
  .rename_i x hx
   split at hk
   .obtain⟨e',he,h0⟩:=mem_map.1 hk;have a7:=mG hx;have hf:=a3 x a7 e' he;rcases gC S e'.num with⟨k2,y,hk2,e3⟩|⟨_,e3⟩
    .rw[<-e3,cS hr hk2]at h0;have:k2=0:=by omega
     subst this;rw[a8]at hk2;cases hk2;exact((a0 x a7).1 e' he).2.1 (by rw[<-e3];exact hn0)
    omega
   cases hk
  cases hk
 have h2:=aBA S.ins 0 j x hm hx hd (by omega);rw[zM]at h2;have h0:(List.replicate S.ins.length (0:Int)).getD j 0=0:=by
  rw[zG,yQ];split<;>rfl
 have a9:dK S.ins<9000000000000000000:=by
  have key:∀(xs:List PIn),(∀x∈xs,x.ents.length<=32)->dK xs<=xs.length*32:=by
   intro xs
   induction xs with
   |nil=>intro _;simp[dK]
   | cons x r ih=>intro hx;have h1:=ih λy hy=>hx y (zL _ hy);have h2:=hx x zQ;simp only[dK,xB,sum_cons,zK]at h1 |-;omega
  have:=key S.ins λx hx=>(a0 x hx).2.1;omega
 have h3:=pF hr (cC hx) S.ins (List.replicate S.ins.length 0) (by simp[PSt.nums]) (λx hx e' he=>((a0 x hx).1 e' he).2.2) (λx hx=>(a0 x hx).2.2) (by rw[h0];omega) (by rw[h0];omega);unfold fD at h2;rw[h3,h0]at h2;have h4:=aND hr (λx hx e' he=>(a3 x hx e' he).1) hx S.ins.length (zC _);rw[take_length,h2]at h4;omega
end
end Go.Proofs.YtmkapobnfigedaaGreatDoor
