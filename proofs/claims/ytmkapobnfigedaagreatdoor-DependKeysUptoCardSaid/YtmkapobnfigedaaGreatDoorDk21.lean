/- A part of a proof of a law. Conditions: none. -/
import Derived.Test.YtmkapobnfigedaaGreatDoorDk18
import Derived.Test.YtmkapobnfigedaaGreatDoorDk19
set_option linter.unusedVariables false
set_option linter.unusedSimpArgs false
set_option maxRecDepth 100000
set_option maxHeartbeats 8000000
namespace Go.Proofs.YtmkapobnfigedaaGreatDoor
open Go.Proofs.Tryz List Go.RowKit
theorem tA (B d b:Nat) (S:PSt) (c:PCall) (r:PRes) (w:World) (h:DoAt B w d b S c r) (hk:c.kind=4\/c.kind=5\/c.kind=7) (R:Except Int (PSt × PRes)) (ht:Calls prog 146 #[.pointer d] w (bJ B w d b c R)):
 Calls prog 108 #[.pointer d] w (bJ B w d b c R):=by
 obtain⟨iD,d1⟩:=h.kind;clear h;rcases hk with hk|hk|hk<;>rw[hk]at d1<;>rcases R with k|⟨S',r'⟩
 all_goals(go_in)
 all_goals first
  | (go_wp2_with(go_at_call 146;refine ht.mono ?_;rintro e w1 ⟨hb1,hr1⟩;obtain rfl:e=bP k:=hr1)
     exact⟨rfl,hb1,rfl⟩)
  | (go_wp2_with(go_at_call 146;refine ht.mono ?_;rintro e w1 ⟨hb1,hr1⟩;have a0:e=.returned (.tuple #[])/\DoAt B w1 d b S' c r':=hr1;clear hr1;obtain⟨rfl,hd1⟩:=a0;have HD:=aC hd1;clear hd1)
     exact xE (v:=.tuple #[]) (by simp[results,go_sem]) rfl ⟨hb1,rfl,HD.out⟩)
theorem aQJ (B d b:Nat) (S:PSt) (c:PCall) (r:PRes) (w:World) (h:DoAt B w d b S c r) (hk:c.kind=2) (R:Except Int (PSt × PRes)) (ht:Calls prog 142 #[.pointer d] w (bJ B w d b c R)):
 Calls prog 108 #[.pointer d] w (bJ B w d b c R):=by
 obtain⟨iD,d1⟩:=h.kind;rw[hk]at d1;clear h;rcases R with k|⟨S',r'⟩
 all_goals(go_in)
 .go_wp2_with(go_at_call 142;refine ht.mono ?_;rintro e w1 ⟨hb1,hr1⟩;obtain rfl:e=bP k:=hr1)
  exact⟨rfl,hb1,rfl⟩
 go_wp2_with(go_at_call 142;refine ht.mono ?_;rintro e w1 ⟨hb1,hr1⟩;have a0:e=.returned (.tuple #[])/\DoAt B w1 d b S' c r':=hr1;clear hr1;obtain⟨rfl,hd1⟩:=a0;have HD:=aC hd1;clear hd1);exact xE (v:=.tuple #[]) (by simp[results,go_sem]) rfl ⟨hb1,rfl,HD.out⟩
theorem aQQ (B d b:Nat) (S:PSt) (c:PCall) (r:PRes) (w:World) (h:DoAt B w d b S c r) (hk:c.kind=12\/c.kind=13\/c.kind=14) (R:Except Int (PSt × PRes)) (ht:Calls prog 150 #[.pointer d] w (bJ B w d b c R)):
 Calls prog 108 #[.pointer d] w (bJ B w d b c R):=by
 obtain⟨iD,d1⟩:=h.kind;rcases hk with hk|hk|hk
 all_goals
  rw[hk]at d1;clear h;rcases R with k|⟨S',r'⟩
  all_goals(go_in)
  .go_wp2_with(go_at_call 150;refine ht.mono ?_;rintro e w1 ⟨hb1,hr1⟩;obtain rfl:e=bP k:=hr1)
   exact⟨rfl,hb1,rfl⟩
  go_wp2_with(go_at_call 150;refine ht.mono ?_;rintro e w1 ⟨hb1,hr1⟩;have a0:e=.returned (.tuple #[])/\DoAt B w1 d b S' c r':=hr1;clear hr1;obtain⟨rfl,hd1⟩:=a0;have HD:=aC hd1;clear hd1);exact xE (v:=.tuple #[]) (by simp[results,go_sem]) rfl ⟨hb1,rfl,HD.out⟩
def mA (S:PSt) (c:PCall):Except Int (PSt × PRes):=
 if c.kind=4 then rL S c PRes.zero else if c.kind=7 then rM S c PRes.zero else
 if(aA c.path).1≠0 then .error (eC (aA c.path).1)else
 if c.kind=12 then aBW S c PRes.zero else if c.kind=13 then aHA S c PRes.zero else uA S c PRes.zero
def aQR (c:PCall):Prop:=c.kind=4\/c.kind=7\/c.kind=12\/c.kind=13\/c.kind=14
theorem aFB {S:PSt} (h:cS S=true):∀x∈S.ins,x.data.size<=256:=by
 intro x hx;unfold cS at h;split at h
 .rename_i h1
  simp only[zE]at h1;have h2:=h1.1.2;unfold dR at h2;split at h2
  .rename_i e
   rw[e]at hx;cases hx
  rename_i y r e;split at h2
  .split at h2
   .rw [zE]at h2;have h3:=all_eq_true.1 h2.2 x hx;unfold inB at h3
    split at h3
    .rw[zE]at h3;have h4:=h3.1;rw[zW]at h4;have:x.data.size=0:=by
      have h5:=isEmpty_iff.1 h4;have:=congrArg List.length h5;simpa using this
     omega
    simp only[zE,zI]at h3;exact h3.2
   cases h2
  cases h2
 cases h
section
theorem aAG {made:List Int}:∀(l:List Int) (p:Int),nN made p l=true->(∀(i:Nat) (x:Int),l[i]? =some x->p<x/\dH made x=true)/\Rise l
 |[],p,_=>⟨λi x h=>by simp at h,λi j x y h=>by simp at h⟩
 | n :: r, p,h=>by
   unfold nN at h;split at h
   .cases h
   rename_i h1;split at h
   .cases h
   rename_i h2;obtain⟨h3,h4⟩:=aAG r n h;refine⟨λi x hx=>?_,λi j x y hx hy hij=>?_⟩
   .rcases i with _|i
    .simp at hx;subst hx;exact⟨by omega,by simpa using h2⟩
    have:=h3 i x (by simpa using hx);exact⟨by omega,this.2⟩
   rcases j with _|j
   .omega
   rcases i with _|i
   .simp at hx;subst hx;exact(h3 j y (by simpa using hy)).1
   exact h4 i j x y (by simpa using hx) (by simpa using hy) (by omega)
variable {S:PSt} {j:Nat} {ns:List Int} {y:PIn}
theorem vI (h:Rise ns):∀(i:Nat) (x y:Int),ns[0]? =some x->ns[i]? =some y->x+i<=y
 |0,x,y,hx,hy=>by rw[hx]at hy;have:=Option.some.inj hy;omega
 | i+1,x,y,hx,hy=>by obtain⟨hl,_⟩:=gI.1 hy;have hz:ns[i]? =some ns[i]:=gE (by omega);have h1:=vI h i x _ hx hz;have h2:=h i (i+1) _ _ hz hy (by omega);omega
theorem aAH {s:ByteArray} (h:dM s=true):s.size<=12:=by
 unfold dM cT at h;by_cases e:12<s.size
 .rw[zB e]at h;cases h
 omega
theorem aMD:∀(sl:List Int) (k:Nat) (x:Int),sl[k]? =some x->(sl.set k (x+1)).sum=sl.sum+1
 |[],k,x,h=>by simp at h
 | y::r,0,x,h=>by simp at h;subst h;simp only[sZ,sum_cons];omega
 | y::r,k+1,x,h=>by simp only[sS,sum_cons];rw[aMD r k x (by simpa using h)];omega
theorem aME:∀(sl:List Int),(∀x∈sl,x<=4)->sl.sum<=4*sl.length
 |[],_=>by simp
 | x::r,h=>by have h1:=aME r λy hy=>h y (zL _ hy);have h2:=h x zQ;simp only[sum_cons,zK];omega
theorem aCZ:∀(es:List PEnt) (prev:Option ByteArray) (sl:List Int),eY ns prev sl es=true->(∀x∈sl,x<=4)->(∀e∈es,e.name.size<=12/\e.num≠1/\0<=aJ ns e.num)/\es.length+sl.sum<=4*sl.length
 |[],_,sl,_,h4=>⟨λe he=>(by cases he),by have:=aME sl h4;simp;omega⟩
 | e :: r,prev,sl,h,h4=>by
   unfold eY at h;split at h
   .cases h
   rename_i h1;split at h
   .cases h
   split at h
   .cases h
   rename_i h3;split at h
   .cases h
   rename_i h5;rcases hs:sl[(aU e.name).toNat]? with _|x
   .rw[hs]at h;cases h
   rw [hs]at h;simp only at h;split at h
   .cases h
   rename_i h6;obtain⟨a1,a2⟩:=aCZ r _ _ h (λy hy=>by
    rcases mem_or_eq_of_mem_set hy with hy|hy
    .exact h4 y hy
    omega)
   rw[aMD sl _ x hs,yB]at a2;refine⟨λe' he=>?_,by simp only[zK];omega⟩;rcases mem_cons.1 he with rfl|he
   .exact⟨aAH (by simpa using h1),h3,by omega⟩
   exact a1 e' he
theorem aAI (n:Int):∀(xs ys:List PIn) (a:Int),lkI n (xs++ys) a=lkI n ys (lkI n xs a)
 |[],_,_=>rfl
 | x::r,ys,a=>by show lkI n (r++ys) _=_;rw[aAI n r ys];rfl
theorem aDA (hr:Rise S.nums) (hj:S.ins[j]? =some y):∀(es:List PEnt) (a:Int),(∀e∈es,0<=bM S e.num)->vG y.num es a=a+(((es.map λe=>(bM S e.num).toNat).count j:Nat):Int)
 |[],a,_=>by simp[vG]
 | e :: r,a,h=>by
   unfold vG;rw[aDA hr hj r _ λe' he=>h e' (zL _ he),xB,count_cons];have he:=h e zQ;by_cases e1:e.num=y.num
   .rw[zB (by simpa using e1)];have:(bM S e.num).toNat=j:=by rw[e1,cP hr hj];simp
    rw[this];simp;omega
   rw [zA (by simpa using e1)];have:((bM S e.num).toNat==j)=false:=by
    rw[yF];intro e2;rcases fW S e.num with⟨k,x,hk,e3⟩|⟨_,e3⟩
    .rw[<-e3,cP hr hk]at e2;have:k=j:=by omega
     subst this;rw[hk]at hj;cases hj;exact e1 e3.symm
    omega
   rw[this];simp
theorem aMF (hr:Rise S.nums) (hf:∀x∈S.ins,∀e∈x.ents,0<=bM S e.num) (hj:S.ins[j]? =some y):∀m,m<=S.ins.length->lkI y.num (S.ins.take m) 0=((cX (λk=>(bC S k).count j) m:Nat):Int)
 |0,_=>rfl
 | m+1,hm=>by
   have hx:S.ins[m]? =some (S.ins[m]'(by omega)):=gE (by omega);rw[take_add_one,hx];simp only[Option.toList_some];rw[aAI,aMF hr hf hj m (by omega)];rw[show cX (λk=>(bC S k).count j) (m+1)=cX (λk=>(bC S k).count j) m+(bC S m).count j from rfl];show(if (S.ins[m]'(by omega)).dir=true then vG y.num (S.ins[m]'(by omega)).ents _ else _)=_;have hk:bC S m=if(S.ins[m]'(by omega)).dir=true then(S.ins[m]'(by omega)).ents.map λe=>(bM S e.num).toNat else[]:=by unfold bC;rw[hx]
   rw[hk];split
   .rw[aDA hr hj _ _ (hf _ (getElem_mem (by omega)))];omega
   simp
theorem aAJ {many:List Int} {found:List Bool} {op:List PDesc}:∀(xs:List PIn) (i j:Nat) (x:PIn),eE many found op i xs=true->xs[j]? =some x->x.dir=true->i+j≠0->many.getD (i+j) 0=1
 |[],_,_,_,_,h,_,_=>by simp at h
 | y ::r,i,0,x,h,hx,hd,hn=>by
   simp at hx;subst hx;unfold eE at h;rw[zA (by omega)]at h;split at h
   .cases h
   rename_i h1;rw[hd]at h1;simp only[xC,yI,yL,not_or,yF]at h1;have:=h1.1;exact Classical.not_not.1 this
 | y :: r,i,j+1,x,h,hx,hd,hn=>by
   have hr:eE many found op (i+1) r=true:=by
    unfold eE at h;split at h
    .exact h
    split at h
    .cases h
    split at h
    .cases h
    exact h
   have:=aAJ r (i+1) j x hr (by simpa using hx) hd (by omega);rw[show i+(j+1)=i+1+j by omega];exact this
theorem pK (hwf:S.wf) (hm:cS S=true):Tree S:=by
 have a5:=aFB hm;unfold cS at hm;split at hm;rotate_left
 .cases hm
 rename_i h1;simp only[zE]at h1;obtain⟨⟨hmade,hins⟩,hop⟩:=h1;unfold dR at hins;rcases e:S.ins with _|⟨x0,r⟩
 .rw[e]at hins;cases hins
 rw[e]at hins;simp only at hins;split at hins;rotate_left
 .cases hins
 rename_i hn0;split at hins;rotate_left
 .cases hins
 rename_i hd0;rw[<-e,zE,yY]at hins;obtain⟨hnb,hall⟩:=hins;obtain⟨n1,n2⟩:=aAG _ _ hnb;have a4:S.nums=1::r.map PIn.num:=by unfold PSt.nums;rw[e,xB,hn0]
 have hr:Rise S.nums:=by
  rw[a4];intro i j x y hx hy hij;rcases j with _|j
  .omega
  rcases i with _|i
  .simp at hx;subst hx;exact(n1 j y (by simpa using hy)).1
  exact n2 i j x y (by simpa using hx) (by simpa using hy) (by omega)
 have a8:S.ins[0]? =some x0:=by rw[e];rfl
 have a0:∀x∈S.ins,(∀e∈x.ents,e.name.size<=12/\e.num≠1/\0<=aJ S.nums e.num)/\x.ents.length<=32/\(x.dir=false->x.ents=[]):=λx hx=>by
  have:=hall x hx;unfold inB at this;split at this
  .rename_i hd
   rw[zE]at this;obtain⟨a1,a2⟩:=aCZ x.ents none [0,0,0,0,0,0,0,0] this.2 (λy hy=>by simp at hy;omega);refine⟨a1,by simp at a2;omega,λh=>by rw[hd]at h;cases h⟩
  simp only[zE,zI]at this;have h0:=zT this.1;rw[h0];exact⟨λe he=>(by cases he),by simp,λ_=>rfl⟩
 have a3:∀x∈S.ins,∀e∈x.ents,0<=bM S e.num/\bM S e.num<S.ins.length:=λx hx e' he=>by have h2:=((a0 x hx).1 e' he).2.2;rw[bE hr]at h2;have:=fC S e'.num;omega
 have a6:S.ins.length<=257:=by
  apply Classical.byContradiction;intro hl;obtain⟨v,hy⟩:∃v,S.nums[257]? =some v:=⟨_,gE (by unfold PSt.nums;rw[lM];omega)⟩;have h2:=vI hr 257 1 _ (by rw[a4];rfl) hy;have h3:(r.map PIn.num)[256]? =some v:=by rw[a4]at hy;simpa using hy
  have h4:=(n1 256 _ h3).2;unfold dH at h4;rw[zA (by omega)]at h4;split at h4
  .rename_i m hmk
   simp only[zI]at h4;unfold dP at hmade;simp only[zE,yL,any_eq_false]at hmade;have h5:=hmade.2 m (mG hmk);unfold eA at h5;simp only[yI,zI,not_or]at h5;omega
  cases h4
 refine⟨hr,by rw[e];simp,a6,a3,λk hk=>?_,λj x hx hd hj=>?_,λx hx=>(a0 x hx).2.1,λx hx e' he=>((a0 x hx).1 e' he).1,a5⟩
 .unfold bC at hk
  split at hk
  .rename_i x hx
   split at hk
   .obtain⟨e',he,h0⟩:=mem_map.1 hk;have a7:=mG hx;have hf:=a3 x a7 e' he;rcases fW S e'.num with⟨k2,y,hk2,e3⟩|⟨_,e3⟩
    .rw[<-e3,cP hr hk2]at h0;have:k2=0:=by omega
     subst this;rw[a8]at hk2;cases hk2;exact((a0 x a7).1 e' he).2.1 (by rw[<-e3];exact hn0)
    omega
   cases hk
  cases hk
 have h2:=aAJ S.ins 0 j x hm hx hd (by omega);rw[zM]at h2;have h0:(List.replicate S.ins.length (0:Int)).getD j 0=0:=by
  rw[zG,yQ];split<;>rfl
 have a9:dG S.ins<9000000000000000000:=by
  have key:∀(xs:List PIn),(∀x∈xs,x.ents.length<=32)->dG xs<=xs.length*32:=by
   intro xs
   induction xs with
   |nil=>intro _;simp[dG]
   | cons x r ih=>intro hx;have h1:=ih λy hy=>hx y (zL _ hy);have h2:=hx x zQ;simp only[dG,xB,sum_cons,zK]at h1 |-;omega
  have:=key S.ins λx hx=>(a0 x hx).2.1;omega
 have h3:=oX hr (cC hx) S.ins (List.replicate S.ins.length 0) (by simp[PSt.nums]) (λx hx e' he=>((a0 x hx).1 e' he).2.2) (λx hx=>(a0 x hx).2.2) (by rw[h0];omega) (by rw[h0];omega);unfold fB at h2;rw[h3,h0]at h2;have h4:=aMF hr (λx hx e' he=>(a3 x hx e' he).1) hx S.ins.length (zC _);rw[take_length,h2]at h4;omega
end
end Go.Proofs.YtmkapobnfigedaaGreatDoor
