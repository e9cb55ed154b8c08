/- A part of a proof of a law. Conditions: none. -/
import Derived.Test.YtmkapobnfigedaaGreatDoorDp12
import Derived.Test.YtmkapobnfigedaaGreatDoorDp17
import Derived.Test.YtmkapobnfigedaaGreatDoorDp11
set_option linter.unusedVariables false
set_option linter.unusedSimpArgs false
set_option maxRecDepth 100000
set_option maxHeartbeats 40000000
namespace Go.Proofs.YtmkapobnfigedaaGreatDoor
open Go.Proofs.Tryz List Go.RowKit
def gP (S:PSt) (k:Nat):Int:=match S.ins[k]? with|some x=>x.num|none=>0
section
theorem jL (f:Nat->Int):∀(b lo hi:Nat),lo<=hi->hi-lo<=b->(∀i j,lo<=i->i<=j->j<hi->f j<0->f i<0)->
 lo<=dO f b lo hi/\dO f b lo hi<=hi/\(∀i,lo<=i->i<dO f b lo hi->f i<0)/\(∀i,dO f b lo hi<=i->i<hi->¬f i<0)
 | 0,lo,hi,h,hb,_=>by
   have:hi=lo:=by omega
   subst this;exact⟨zC _,zC _,λi h1 h2=>absurd h2 (by show ¬i<hi;omega),λi h1 h2=>absurd h2 (by have:hi<=i:=h1;omega)⟩
 | b + 1,lo,hi,h,hb,hm=>by
   unfold dO;by_cases hl:lo<hi
   .rw[zB hl];by_cases hf:f ((lo+hi)/2)<0
    .rw[zB hf];obtain⟨h1,h2,h3,h4⟩:=jL f b ((lo+hi)/2+1) hi (by omega) (by omega) (λi j a c d e=>hm i j (by omega) c d e);refine⟨by omega,h2,λi a c=>?_,h4⟩;by_cases hi':i<=(lo+hi)/2
     .exact hm i ((lo+hi)/2) a hi' (by omega) hf
     exact h3 i (by omega) c
    rw[zA hf];obtain⟨h1,h2,h3,h4⟩:=jL f b lo ((lo+hi)/2) (by omega) (by omega) (λi j a c d e=>hm i j a c (by omega) e);refine⟨h1,by omega,h3,λi a c=>?_⟩;by_cases hi':i<(lo+hi)/2
    .exact h4 i a hi'
    exact λhn=>hf (hm ((lo+hi)/2) i (by omega) (by omega) c hn)
   rw[zA hl];exact⟨zC _,h,λi h1 h2=>absurd h2 (by omega),λi h1 h2=>absurd h2 (by omega)⟩
def Rise (ns:List Int):Prop:=∀(i j:Nat) (x y:Int),ns[i]? =some x->ns[j]? =some y->i<j->x<y
variable {S:PSt} {k:Nat} {n x:Int} {ns:List Int}
theorem Rise.inj (h:Rise ns) {i j:Nat} (hi:ns[i]? =some x) (hj:ns[j]? =some x):i=j:=by
 rcases Nat.lt_trichotomy i j with h1|h1|h1
 .have:=h i j _ _ hi hj h1;omega
 .exact h1
 have:=h j i _ _ hj hi h1;omega
theorem nA (h:Rise ns) (hk:ns[k]? =some n):aK ns n=k:=by
 obtain⟨hl,_⟩:=gI.1 hk;have hc:∀j (hj:j<ns.length),tK ns n j=jS ns[j] n:=λj hj=>by unfold tK;rw[gE hj]
 obtain⟨h1,h2,h3,h4⟩:=jL (tK ns n) ns.length 0 ns.length (by omega) (by omega) (λi j a c d e=>by
  rw[hc j d]at e;rw[hc i (by omega)];unfold jS at e |-;by_cases hij:i=j
  .subst hij;exact e
  have:=h i j _ _ (gE (by omega)) (gE d) (by omega);split at e
  .rw[zB (by omega)];omega
  split at e<;>omega)
 have hz:tK ns n k=0:=by
  rw[hc k hl];have:ns[k]=n:=by have:=gE hl;rw[hk]at this;exact(Option.some.inj this).symm
  rw[this];simp[jS]
 have e:bsN ns n=k:=by
  unfold bsN;generalize dO (tK ns n) ns.length 0 ns.length=r at *;rcases Nat.lt_trichotomy r k with hrk|hrk|hrk
  .have:=h4 r (zC _) (by omega);rw[hc r (by omega)]at this;have h5:=h r k _ _ (gE (by omega)) hk hrk;unfold jS at this;rw[zB h5]at this;omega
  .exact hrk
  have:=h3 k (Nat.zero_le _) hrk;omega
 unfold aK;rw[e,hz];rw[zB (by simp[hl])]
theorem aJK (hn:∀x∈ns,x≠n):aK ns n=-1:=by
 unfold aK;rw[zA];intro h;simp only[zE,zI,beq_iff_eq]at h;obtain⟨h1,h2⟩:=h;unfold tK at h2;rw[gE h1]at h2;simp only at h2;have:=hn _ (getElem_mem h1);unfold jS at h2;split at h2
 .omega
 split at h2<;>omega
theorem aGR {α:Type} (p:α->Bool):∀(zs:List α) (q k:Nat) (z:α),zs[k]? =some z->p z=true->(∀j y,j<k->zs[j]? =some y->p y=false)->bQ p zs q=((q+k:Nat):Int)
 |[],_,_,_,h,_,_=>by simp at h
 | x::r,q,0,z,h,hp,_=>by simp at h;subst h;unfold bQ;rw[zB hp];simp
 | x::r,q,k+1,z,h,hp,hl=>by unfold bQ;rw[zA (by rw[hl 0 x (by omega) rfl];simp),aGR p r (q+1) k z (by simpa using h) hp (λj y hj hy=>hl (j+1) y (by omega) (by simpa using hy))];omega
theorem aCM {α:Type} (p:α->Bool):∀(zs:List α) (q:Nat),(∀z∈zs,p z=false)->bQ p zs q=-1
 |[],_,_=>rfl
 | x::r,q,h=>by unfold bQ;rw[zA (by rw[h x zQ];simp)];exact aCM p r (q+1) λz hz=>h z (zL _ hz)
theorem cS (h:Rise S.nums) {x:PIn} (hk:S.ins[k]? =some x):bP S x.num=k:=by
 unfold bP cV;rw[aGR (nL x.num) S.ins 0 k x hk (by simp[nL]) (λj y hj hy=>by
  unfold nL;rw[yF];intro e;have:=h j k y.num x.num (by unfold PSt.nums;rw[gM,hy];rfl) (by unfold PSt.nums;rw[gM,hk];rfl) hj;omega)]
 simp
theorem gC (S:PSt) (n:Int):(∃(k:Nat) (x:PIn),S.ins[k]? =some x/\x.num=n)\/((∀x∈S.ins,x.num≠n)/\bP S n=-1):=by
 by_cases h:∃x∈S.ins,x.num=n
 .obtain⟨x,hx,e⟩:=h;obtain⟨k,hk⟩:=mem_iff_getElem?.1 hx;exact .inl ⟨k,x,hk,e⟩
 have h':∀x∈S.ins,x.num≠n:=λx hx e=>h ⟨x,hx,e⟩;refine .inr ⟨h',?_⟩;unfold bP cV;exact aCM _ _ _ λz hz=>by unfold nL;rw[yF];exact h' z hz
theorem bG (h:Rise S.nums) (n:Int):aK S.nums n=bP S n:=by
 rcases gC S n with⟨k,x,hk,rfl⟩|⟨h1,h2⟩
 .rw[cS h hk];exact nA h (by unfold PSt.nums;rw[gM,hk];rfl)
 rw[h2];exact aJK λy hy=>by obtain⟨x,hx,rfl⟩:=mem_map.1 hy;exact h1 x hx
theorem pD {s:ByteArray} {p:Nat} (h:p<s.size):∃b,s.toList.drop p=b::s.toList.drop (p+1)/\dQ s p=(b.toNat:Int):=by
 have hl:p<s.data.toList.length:=by simpa using h
 refine⟨s.data.toList[p],?_,?_⟩
 .rw[zW];exact yH hl
 unfold dQ;rw[dif_pos h];rfl
theorem aJL (x y:ByteArray):∀m p,x.size<=p+m->p<=x.size->p<=y.size->lH x y m p=Op.bytesLess (x.toList.drop p) (y.toList.drop p):=by
 have a0:∀p,p<=x.size->p<=y.size->¬(p<x.size/\p<y.size)->decide (x.size<y.size)=Op.bytesLess (x.toList.drop p) (y.toList.drop p):=by
  intro p h1 h2 h;have lx:x.toList.length=x.size:=by rw[zW];simp
  have ly:y.toList.length=y.size:=by rw[zW];simp
  by_cases hy:p<y.size
  .obtain⟨b,hb,_⟩:=pD hy;have:x.toList.drop p=[]:=zS (by omega);rw[this,hb];rw[decide_eq_true (by omega)];rfl
  have:y.toList.drop p=[]:=zS (by omega);rw[this,yM (by omega)];cases x.toList.drop p<;>rfl
 intro m
 induction m with
 | zero=>intro p h h1 h2;exact a0 p h1 h2 (by omega)
 | succ m ih=>
   intro p h h1 h2;unfold lH;by_cases hp:p<x.size/\p<y.size
   .rw[zB hp];obtain⟨a,ha,ea⟩:=pD hp.1;obtain⟨b,hb,eb⟩:=pD hp.2;rw[ha,hb,ea,eb];unfold Op.bytesLess;by_cases e:a=b
    .subst e;rw[zB rfl,ih (p+1) (by omega) (by omega) (by omega)];simp
    have a1:¬(a.toNat:Int)=b.toNat:=λh=>e (UInt8.toNat_inj.1 (by omega));rw[zA a1];have:(a==b)=false:=by simpa using e
    rw[this,yJ,Bool.or_false];congr 1;rw[UInt8.lt_iff_toNat_lt];exact propext ⟨λh=>by omega,λh=>by omega⟩
   rw[zA hp];exact a0 p h1 h2 hp
theorem pE (x y:ByteArray):eA x y=Op.bytesLess x.toList y.toList:=by unfold eA;rw[aJL x y x.size 0 (by omega) (by omega) (by omega)];rfl
end
section
def fI (S:PSt) (n:Int):Bool:=S.op.any λd=>d.num==n
def inR (S:PSt) (q:Nat) (x:PIn):Bool:=(q==0||(decide (gP S (q-1)<x.num)&&rP S x.num))&&(decide (x.data.size<=256)&&((if x.dir=true then x.data.size==0 else x.ents.isEmpty)&&(aAI S x.ents&&
 (if x.dir=true then q==0||(bX S x.num==1&&(eT S).getD q false)else(eT S).getD q false||fI S x.num))))
def aGS (S:PSt):Bool:=(List.range S.ins.length).all λq=>match S.ins[q]? with|some x=>inR S q x|none=>false
def lU (S:PSt):Bool:=decide (1<=S.made.length/\S.made.length<=8/\1<=S.ins.length/\S.ins.length<=257)&&((match S.ins[0]? with|some x=>x.num==1&&x.dir|none=>false)&&(vG S&&((S.made.all λm=>decide (0<=m/\m<=32))&&aGS S)))
variable {S:PSt} {i k:Nat} {n:Int} {ns:List Int} {x:PIn}
theorem vO (h:aGS S=true) {q:Nat} (hx:S.ins[q]? =some x):inR S q x=true:=by unfold aGS at h;rw[yY]at h;obtain⟨hl,_⟩:=gI.1 hx;have:=h q (mem_range.2 hl);rw[hx]at this;exact this
theorem cC (h:S.ins[k]? =some x):S.nums[k]? =some x.num:=by unfold PSt.nums;rw[gM,h];rfl
theorem sF (h:S.nums[k]? =some n):∃x,S.ins[k]? =some x/\x.num=n:=by
 unfold PSt.nums at h;rw[gM]at h;rcases e:S.ins[k]? with _|x
 .rw[e]at h;cases h
 rw[e]at h;exact⟨x,rfl,Option.some.inj h⟩
theorem aWF (h:aGS S=true):Rise S.nums:=by
 have a0:∀(k:Nat) (x y:Int),S.nums[k]? =some x->S.nums[k+1]? =some y->x<y:=by
  intro k x y hx hy;obtain⟨a,ha,rfl⟩:=sF hx;obtain⟨b,hb,rfl⟩:=sF hy;have:=vO h hb;unfold inR at this;simp only[zE,yI,zI]at this;have h1:=this.1;rcases h1 with h1|h1
  .simp at h1
  have h2:=h1.1;unfold gP at h2;rw[Nat.add_sub_cancel,ha]at h2;exact h2
 intro i j
 induction j with
 |zero=>intro x y _ _ h;omega
 | succ j ih=>
   intro x y hx hy hij;obtain⟨hl,_⟩:=gI.1 hy;have hz:S.nums[j]? =some S.nums[j]:=gE (by omega);have h1:=a0 j _ y hz hy;by_cases e:i=j
   .subst e;rw[hx]at hz;rw[Option.some.inj hz];exact h1
   have:=ih x _ hx hz (by omega);omega
theorem aMB (hr:Rise S.nums):∀(es:List PEnt) (prev:Option ByteArray) (sl:List Int),gY S prev sl es=true->fA S.nums prev sl es=true
 |[],_,_,_=>rfl
 | e ::r,prev,sl,h=>by
   unfold gY at h;unfold fA;split at h
   .cases h
   rename_i h1;split at h
   .cases h
   rename_i h2;split at h
   .cases h
   rename_i h3;split at h
   .cases h
   rename_i h4;have c:bK e.name=0:=by simpa using h1
   have p:hY prev e.name=kQ prev e.name:=by
    unfold hY kQ;cases prev with
    |none=>rfl
    |some q=>simp only[pE]
   rw[zA (by rw[aLG c];simp),p,zA h2,zA h3,bG hr,zA h4,<-nN];rcases hs:sl[(bA e.name).toNat]? with _|x
   .rw[hs]at h;cases h
   rw[hs]at h;simp only at h |-;split at h
   .cases h
   rename_i h5;rw[zA h5];exact aMB hr r _ _ h
theorem xH:∀(es:List PEnt) (prev:Option ByteArray) (sl:List Int),gY S prev sl es=true->∀e∈es,0<=bP S e.num
 |[],_,_,_,e,he=>by cases he
 | e ::r,prev,sl,h,e',he=>by
   unfold gY at h;split at h
   .cases h
   split at h
   .cases h
   split at h
   .cases h
   split at h
   .cases h
   rename_i h4;split at h
   .split at h
    .cases h
    rcases mem_cons.1 he with rfl|he
    .omega
    exact xH r _ _ h e' he
   cases h
theorem aMC (hr:Rise S.nums):∀(ds:List PDesc) (o:Option PDesc),pN S o ds=true->fL S o ds=true
 |[],_,_=>rfl
 | d::r,o,h=>by
   unfold pN at h;unfold fL;split at h
   .cases h
   rename_i h1;split at h
   .cases h
   rename_i h2;unfold aUP at h1;simp only[yI,zI,not_or]at h1;obtain⟨a1,a2,a3,a4,a5,a6⟩:=h1;have p:kN o d=pM o d:=by
    unfold kN pM;cases o with
    |none=>rfl
    |some q=>simp only;congr 2
   rw[zA a1,zA a2,zA a3,zA a4,p,zA h2,bG hr,zA a5];unfold aDL at a6;have hb:0<=bP S d.num/\bP S d.num<S.ins.length:=by
    rcases gC S d.num with⟨k,x,hk,e⟩|⟨_,e⟩
    .rw[<-e,cS hr hk];obtain⟨hl,_⟩:=gI.1 hk;omega
    omega
   rw[gE (by omega)]at a6 |-;simp only at a6 |-;rw[zA a6];exact aMC hr r _ h
theorem aMD (h:aGS S=true):∀(m k:Nat) (p:Int),m+k=S.ins.length->1<=k->gP S (k-1)=p->nZ S.made p ((S.ins.drop k).map PIn.num)=true
 |0,k,p,hk,_,_=>by rw[zS (by omega)];rfl
 | m+1,k,p,hk,h1,hp=>by
   rw[yH (by omega)];have hx:S.ins[k]? =some S.ins[k]:=gE (by omega);have:=vO h hx;unfold inR at this;simp only[zE,yI,zI]at this;have h2:=this.1;rcases h2 with h2|⟨h2,h3⟩
   .simp at h2;omega
   rw[hp]at h2;show nZ S.made p (S.ins[k].num::(S.ins.drop (k+1)).map PIn.num)=true;unfold nZ;rw[zA (by omega),zA (by rw[show dL S.made S.ins[k].num=rP S S.ins[k].num from rfl,h3];simp)];exact aMD h m (k+1) _ (by omega) (by omega) (by unfold gP;rw[Nat.add_sub_cancel,hx])
theorem aSV (n:Int):∀(es:List PEnt) (a:Int),a<=vU n es a/\vU n es a<=a+es.length
 |[],a=>⟨Int.le_refl _,by simp[vU]⟩
 | e::r,a=>by
   unfold vU;have:=aSV n r (if (e.num==n)=true then a+1 else a);simp only[zK];split at this<;>rename_i h
   .rw[zB h];omega
   rw[zA h];omega
theorem aWG (hr:Rise ns) {m:List Int} (hl:m.length=ns.length) (hi:ns[i]? =some n) {k:Int} (hk:0<=aK ns k) (hb:0<=m.getD i 0/\m.getD i 0<9000000000000000000):
 (lX m (aK ns k)).getD i 0=if(k==n)=true then m.getD i 0+1 else m.getD i 0:=by
 obtain⟨hil,_⟩:=gI.1 hi;have a0:i<m.length:=by omega
 unfold lX;by_cases e:k=n
 .subst e;rw[nA hr hi];simp only[beq_self_eq_true,if_true,zJ];rw[zG,zY a0];simp only[Option.getD_some];unfold wrap64;omega
 rw [zA (by simpa using e)];have a1:(aK ns k).toNat≠i:=by
  intro h;have hf:aK ns k=i:=by omega
  by_cases hx:∃j:Nat,ns[j]? =some k
  .obtain⟨j,hj⟩:=hx;rw[nA hr hj]at hf;have:j=i:=by omega
   subst this;rw[hj]at hi;exact e (Option.some.inj hi)
  unfold aK at hf;split at hf
  .rename_i hc
   simp only[zE,zI,beq_iff_eq]at hc;have a2:bsN ns k=i:=by omega
   rw[a2]at hc;unfold tK at hc;rw[hi]at hc;have h2:=hc.2;simp only at h2;unfold jS at h2;rcases Int.lt_trichotomy n k with h|h|h
   .rw[zB h]at h2;exact absurd h2 (by decide)
   .exact e h.symm
   rw[zA (by omega),zB h]at h2;exact absurd h2 (by decide)
  omega
 rw[zG,zX a1,<-zG]
theorem aGT (hr:Rise ns) (hi:ns[i]? =some n):∀(es:List PEnt) (m:List Int),m.length=ns.length->(∀e∈es,0<=aK ns e.num)->0<=m.getD i 0->m.getD i 0+es.length<9000000000000000000->(nH ns m es).getD i 0=vU n es (m.getD i 0)
 |[],_,_,_,_,_=>rfl
 | e::r,m,hl,hf,h0,hb=>by simp only[zK]at hb;have h1:=aWG hr hl hi (hf e zQ) ⟨h0,by omega⟩;show(nH ns (lX m (aK ns e.num)) r).getD i 0=vU n r (if (e.num==n)=true then m.getD i 0+1 else m.getD i 0);rw[aGT hr hi r _ (by rw[aAC,hl]) (λe he=>hf e (zL _ he)) (by rw[h1];split<;>omega) (by rw[h1];split<;>omega),h1]
def dK (xs:List PIn):Nat:=(xs.map λx=>x.ents.length).sum
theorem pF (hr:Rise ns) (hi:ns[i]? =some n):∀(xs:List PIn) (m:List Int),m.length=ns.length->(∀x∈xs,∀e∈x.ents,0<=aK ns e.num)->(∀x∈xs,x.dir=false->x.ents=[])->0<=m.getD i 0->m.getD i 0+dK xs<9000000000000000000->(vD ns m xs).getD i 0=lkI n xs (m.getD i 0)
 |[],_,_,_,_,_,_=>rfl
 | x::r,m,hl,hf,hd,h0,hb=>by
   simp only[dK,xB,sum_cons]at hb;have h1:=aGT hr hi x.ents m hl (hf x zQ) h0 (by omega);have h2:=aSV n x.ents (m.getD i 0);show(vD ns (nH ns m x.ents) r).getD i 0=lkI n r (if x.dir=true then vU n x.ents (m.getD i 0)else m.getD i 0);have h3:(if x.dir=true then vU n x.ents (m.getD i 0)else m.getD i 0)=vU n x.ents (m.getD i 0):=by
    split
    .rfl
    rename_i h;rw[hd x zQ (by simpa using h)];rfl
   rw[pF hr hi r _ (by rw[aDE,hl]) (λy hy=>hf y (zL _ hy)) (λy hy=>hd y (zL _ hy)) (by rw[h1];omega) (by rw[h1];unfold dK;omega),h1,h3]
def rH (S:PSt) (C:Nat->Prop):Prop:=∀(k:Nat) (x:PIn),C k->S.ins[k]? =some x->∀e∈x.ents,C (aK S.nums e.num).toNat
theorem pY (hr:Rise S.nums) {C:Nat->Prop} (hC:rH S C):∀(g:Nat) (st:List Int) (fd:List Bool),(∀n∈st,0<=bP S n->C (bP S n).toNat)->(∀k,fd.getD k false=true->C k)->∀k,(fZ S g st fd).getD k false=true->C k
 |0,_,_,_,h,k,hk=>h k hk
 |_+1,[],_,_,h,k,hk=>h k hk
 | g + 1,n::st,fd,h1,h2,k,hk=>by
   unfold fZ at hk;split at hk
   .exact pY hr hC g st fd (λm hm=>h1 m (zL _ hm)) h2 k hk
   rename_i ha;split at hk
   .exact pY hr hC g st fd (λm hm=>h1 m (zL _ hm)) h2 k hk
   split at hk
   .rename_i x hx
    have hc:=h1 n zQ (by omega);refine pY hr hC g _ _ (λm hm hm0=>?_) (λj hj=>?_) k hk
    .rcases mem_append.1 hm with hm|hm
     .rw[mem_reverse]at hm;unfold kR at hm
      split at hm
      .obtain⟨e,he,rfl⟩:=mem_map.1 hm;have:=hC _ x hc hx e he;rw[bG hr]at this;exact this
      cases hm
     exact h1 m (zL _ hm) hm0
    by_cases e:(bP S n).toNat=j
    .subst e;exact hc
    rw[zG,zX e,<-zG]at hj;exact h2 j hj
   exact h2 k hk
def aGU (fd:List Bool):Nat:=fd.count false
theorem aCN {fd:List Bool} (h:k<fd.length) (hf:fd.getD k false=false):(fd.set k true).count false+1=fd.count false:=by
 rw[zG,gE h]at hf;simp only[Option.getD_some]at hf;rw[List.count_set h,hf]
 have:0<fd.count false:=count_pos_iff.2 (by rw[<-hf];exact getElem_mem h);simp;omega
theorem getD_set_true {fd:List Bool} {j:Nat} (h:fd.getD j false=true):(fd.set k true).getD j false=true:=by
 by_cases e:k=j
 .subst e;have hl:k<fd.length:=by
   rcases Nat.lt_or_ge k fd.length with h1|h1
   .exact h1
   rw[zG,getElem?_eq_none h1]at h;cases h
  rw[zG,zY hl];rfl
 rw[zG,zX e,<-zG];exact h
theorem rI (ns:List Int) (hfl:Nat):∀(es:List PEnt) (td:List Nat) (fd:List Bool),fd.length=hfl->(∀e∈es,0<=aK ns e.num/\aK ns e.num<hfl)->
 (∀j,fd.getD j false=true->(dA ns (td,fd) es).2.getD j false=true)/\(∀e∈es,(dA ns (td,fd) es).2.getD (aK ns e.num).toNat false=true)/\
 (∀j,(dA ns (td,fd) es).2.getD j false=true->fd.getD j false=true\/j∈(dA ns (td,fd) es).1)/\(∀j∈td,j∈(dA ns (td,fd) es).1)/\(∀j∈(dA ns (td,fd) es).1,j∈td\/(dA ns (td,fd) es).2.getD j false=true)/\
 (dA ns (td,fd) es).1.length+aGU (dA ns (td,fd) es).2=td.length+aGU fd
 |[],td,fd,_,_=>⟨λ_ h=>h,λ_ h=>(by cases h),λ_ h=>.inl h,λ_ h=>h,λ_ h=>.inl h,rfl⟩
 | e ::r,td,fd,hl,hf=>by
   obtain⟨f0,f1⟩:=hf e zQ;show _/\_/\_/\_/\_/\_;have a0:dA ns (td,fd) (e::r)=dA ns (nI ns (td,fd) e) r:=rfl;rw[a0];by_cases hd:fd.getD (aK ns e.num).toNat false=true
   .have hs:nI ns (td,fd) e=(td,fd):=by unfold nI;rw[zB hd]
    rw[hs];obtain⟨a,b,c,d,g,i⟩:=rI ns hfl r td fd hl (λe he=>hf e (zL _ he));refine⟨a,λe' he=>?_,c,d,g,i⟩;rcases mem_cons.1 he with rfl|he
    .exact a _ hd
    exact b e' he
   have hs:nI ns (td,fd) e=(td++[(aK ns e.num).toNat],fd.set (aK ns e.num).toNat true):=by unfold nI;rw[zA hd]
   rw[hs];have a2:(aK ns e.num).toNat<fd.length:=by omega
   obtain⟨a,b,c,d,g,i⟩:=rI ns hfl r (td++[(aK ns e.num).toNat]) (fd.set (aK ns e.num).toNat true) (by simpa using hl) (λe he=>hf e (zL _ he));have a1:(fd.set (aK ns e.num).toNat true).getD (aK ns e.num).toNat false=true:=by rw[zG,zY a2];rfl
   refine⟨λj hj=>a j (getD_set_true hj),λe' he=>?_,λj hj=>?_,λj hj=>d j (mem_append_left _ hj),λj hj=>?_,?_⟩
   .rcases mem_cons.1 he with rfl|he
    .exact a _ a1
    exact b e' he
   .rcases c j hj with h|h
    .by_cases e2:(aK ns e.num).toNat=j
     .right;exact d j (by rw[<-e2];simp)
     left;rw[zG,zX e2,<-zG]at h;exact h
    exact .inr h
   .rcases g j hj with h|h
    .rcases mem_append.1 h with h|h
     .exact .inl h
     rw[mem_singleton.1 h];exact .inr (a _ a1)
    exact .inr h
   rw[i];have:=aCN a2 (by simpa using hd);simp only[lP,length_singleton];unfold aGU;omega
theorem xI (hfound:∀x∈S.ins,∀e∈x.ents,0<=aK S.nums e.num/\aK S.nums e.num<S.ins.length):∀(b:Nat) (td:List Nat) (fd:List Bool),fd.length=S.ins.length->td.length+aGU fd<=b->(∀j∈td,fd.getD j false=true)->
 (∀k x,fd.getD k false=true->k∉td->S.ins[k]? =some x->∀e∈x.ents,fd.getD (aK S.nums e.num).toNat false=true)->
 (∀j,fd.getD j false=true->(bfs S.nums S.ins b td fd).getD j false=true)/\rH S λk=>(bfs S.nums S.ins b td fd).getD k false=true
 | 0,td,fd,hl,hb,ht,hi=>by have:td=[]:=zT (by omega);subst this;exact⟨λ_ h=>h,λk x hk hx e he=>hi k x hk (by simp) hx e he⟩
 |b+1,[],fd,hl,hb,ht,hi=>⟨λ_ h=>h,λk x hk hx e he=>hi k x hk (by simp) hx e he⟩
 | b+1,k::td,fd,hl,hb,ht,hi=>by
   have hk:=ht k zQ;have a0:k<S.ins.length:=by
    rcases Nat.lt_or_ge k fd.length with h1|h1
    .omega
    rw[zG,getElem?_eq_none h1]at hk;cases hk
   have hx:S.ins[k]? =some S.ins[k]:=gE a0;have hf:=hfound _ (getElem_mem a0);obtain⟨a,b1,c,d,g,i⟩:=rI S.nums S.ins.length S.ins[k].ents td fd hl hf;show(∀j,fd.getD j false=true->(bfs S.nums S.ins b (dA S.nums (td,fd) (match S.ins[k]? with|some x=>x.ents|none=>[])).1 (dA S.nums (td,fd) (match S.ins[k]? with|some x=>x.ents|none=>[])).2).getD j false=true)/\rH S λq=>(bfs S.nums S.ins b (dA S.nums (td,fd) (match S.ins[k]? with|some x=>x.ents|none=>[])).1 (dA S.nums (td,fd) (match S.ins[k]? with|some x=>x.ents|none=>[])).2).getD q false=true;rw [hx];simp only;simp only[zK]at hb;obtain⟨r1,r2⟩:=xI hfound b (dA S.nums (td,fd) S.ins[k].ents).1 (dA S.nums (td,fd) S.ins[k].ents).2 (by rw[aDF];exact hl) (by omega) (λj hj=>by
    rcases g j hj with h|h
    .exact a j (ht j (zL _ h))
    .exact h) (λq x hq hnq hqx e he=>by
    rcases c q hq with h|h
    .by_cases e2:q=k
     .subst e2;rw[hx]at hqx;cases hqx;exact b1 e he
     refine a _ (hi q x h (λhm=>?_) hqx e he);rcases mem_cons.1 hm with h3|h3
     .exact e2 h3
     exact hnq (d q h3)
    exact absurd h hnq)
   exact⟨λj hj=>r1 j (a j hj),r2⟩
theorem aOP (hwf :S.wf) (h:lU S=true):cO S=true:=by
 unfold lU at h;simp only[zE,zI,yY]at h;obtain⟨⟨m1,m8,i1,i257⟩,hroot,hop,hmade,hins⟩:=h;have hr:=aWF hins;have x0:S.ins[0]? =some S.ins[0]:=gE (by omega);rw[x0]at hroot;simp only[zE,beq_iff_eq]at hroot;obtain⟨hn0,hd0⟩:=hroot;have a6:∀{q:Nat} {x:PIn},S.ins[q]? =some x->aAI S x.ents=true/\x.data.size<=256/\(if x.dir=true then x.data.size==0 else x.ents.isEmpty)=true/\(if x.dir=true then q==0||(bX S x.num==1&&(eT S).getD q false)else(eT S).getD q false||fI S x.num)=true:=λhx=>by have:=vO hins hx;unfold inR at this;simp only[zE,zI]at this;exact⟨this.2.2.2.1,this.2.1,this.2.2.1,this.2.2.2.2⟩
 have a0:∀x∈S.ins,∀e∈x.ents,0<=aK S.nums e.num/\aK S.nums e.num<S.ins.length:=λx hx e he=>by
  obtain⟨q,hq⟩:=mem_iff_getElem?.1 hx;have h1:=xH _ _ _ (a6 hq).1 e he;rw[bG hr];refine⟨h1,?_⟩;rcases gC S e.num with⟨k,y,hk,e2⟩|⟨_,e2⟩
  .rw[<-e2,cS hr hk];obtain⟨hl,_⟩:=gI.1 hk;omega
  omega
 have a7:∀x∈S.ins,x.dir=false->x.ents=[]:=λx hx hd=>by obtain⟨q,hq⟩:=mem_iff_getElem?.1 hx;have:=(a6 hq).2.2.1;rw[hd]at this;simpa using this
 have b5:dK S.ins<9000000000000000000:=by
  have key:∀(xs:List PIn),(∀x∈xs,x.ents.length<=1000000000)->dK xs<=xs.length*1000000000:=by
   intro xs
   induction xs with
   |nil=>intro _;simp[dK]
   | cons x r ih=>intro hx;have h1:=ih λy hy=>hx y (zL _ hy);have h2:=hx x zQ;simp only[dK,xB,sum_cons,zK]at h1 |-;omega
  have:=key S.ins λx hx=>(hwf.2.2.2.1 x hx).2.1;omega
 have a8:((List.replicate S.ins.length false).set 0 true).getD 0 false=true:=by rw[zG,zY (by simp;omega)];rfl
 have a9:∀k,((List.replicate S.ins.length false).set 0 true).getD k false=true->k=0:=λk hk=>by
  by_cases e:0=k
  .exact e.symm
  rw[zG,zX e,yQ]at hk;split at hk<;>cases hk
 obtain⟨c1,c2⟩:=xI a0 S.ins.length [0] ((List.replicate S.ins.length false).set 0 true) (by simp) (by
  have:=aCN (fd:=List.replicate S.ins.length false) (k:=0) (by simp;omega) (by rw[zG,yQ];split<;>rfl);rw[count_replicate_self]at this;unfold aGU;simp only[length_singleton];omega) (λj hj=>by rw[mem_singleton.1 hj];exact a8) (λk x hk hn _ e he=>absurd (mem_singleton.2 (a9 k hk)) hn)
 have a4:(eK S).getD 0 false=true:=c1 0 a8;have b4:rH S λk=>(eK S).getD k false=true:=c2;have b1:∀k,(eT S).getD k false=true->(eK S).getD k false=true:=λk hk=>pY hr b4 _ _ _ (λn hn _=>by
  rw[mem_singleton.1 hn,<-hn0,cS hr x0];exact a4) (λk hk=>by
  rw[zG,yQ]at hk;split at hk<;>cases hk) k hk
 have a5:∀{q:Nat} {x:PIn},S.ins[q]? =some x->(fD S).getD q 0=bX S x.num:=fun{q x} hq=>by
  unfold fD bX;have h0:(List.replicate S.ins.length (0:Int)).getD q 0=0:=by
   rw[zG,yQ];split<;>rfl
  have:=pF hr (cC hq) S.ins (List.replicate S.ins.length 0) (by simp[PSt.nums]) (λx hx e he=>(a0 x hx e he).1) a7 (by rw[h0];omega) (by rw[h0];omega);rw[this,h0]
 have b0 : ∀ (m k:Nat),m+k=S.ins.length->eJ (fD S) (eK S) S.op k (S.ins.drop k)=true:=by
  intro m
  induction m with
  |zero=>intro k hk;rw[zS (by omega)];rfl
  | succ m ih =>
    intro k hk;rw[yH (by omega)];have hx:S.ins[k]? =some S.ins[k]:=gE (by omega);obtain⟨-,-,-,h4⟩:=a6 hx;unfold eJ;rw[ih (k+1) (by omega)];by_cases k0:k=0
    .rw[zB k0]
    rw[zA k0];by_cases hd:S.ins[k].dir=true
    .rw[zB hd]at h4;simp only[yI,zE,beq_iff_eq]at h4;rcases h4 with h4|⟨h4,h5⟩
     .omega
     rw[a5 hx,h4,b1 k h5,hd];rfl
    rw [zA hd] at h4;have b6:S.ins[k].dir=false:=by simpa using hd
    rw[b6];simp only[yJ,Bool.not_false,xC,zA (Bool.false_ne_true)];rw[zA];intro hb;simp only[zE,yL,yI,zI]at hb;obtain⟨hb1,hb2⟩:=hb;simp only[yI]at h4;rcases h4 with h4|h4
    .rw[b1 k h4]at hb1;cases hb1
    rcases hb2 with hb2|hb2
    ·
      rw [a5 hx]at hb2;have b7:∃y∈S.ins,y.dir=true/\∃e∈y.ents,e.num=S.ins[k].num:=by
       apply Classical.byContradiction;intro hno;have b2:∀(es:List PEnt) (a:Int),(∀e∈es,e.num≠S.ins[k].num)->vU S.ins[k].num es a=a:=by
        intro es
        induction es with
        |nil=>intro a _;rfl
        | cons e r ihe=>intro a he;unfold vU;rw[zA (by simpa using he e zQ)];exact ihe a λe' h'=>he e' (zL _ h')
       have b3:∀(xs:List PIn) (a:Int),(∀y∈xs,y.dir=true->∀e∈y.ents,e.num≠S.ins[k].num)->lkI S.ins[k].num xs a=a:=by
        intro xs
        induction xs with
        |nil=>intro a _;rfl
        | cons y r ihx=>
          intro a hy;unfold lkI;have:(if y.dir=true then vU S.ins[k].num y.ents a else a)=a:=by
           split
           .rename_i hyd
            exact b2 _ _ (hy y zQ hyd)
           rfl
          rw[this];exact ihx a λz hz=>hy z (zL _ hz)
       have h0:bX S S.ins[k].num=0:=b3 S.ins 0 λy hy hyd e he h=>hno ⟨y,hy,hyd,e,he,h⟩;omega
      obtain⟨y,hy,hyd,e,he,hen⟩:=b7;obtain⟨q,hq⟩:=mem_iff_getElem?.1 hy;have b8:(eK S).getD q false=true:=by
       by_cases q0:q=0
       .rw[q0];exact a4
       obtain⟨-,-,-,h5⟩:=a6 hq;rw[zB hyd]at h5;simp only[yI,zE,beq_iff_eq]at h5;rcases h5 with h5|h5
       .omega
       exact b1 q h5.2
      have:=b4 q y b8 hq e he;rw[hen,nA hr (cC hx),zJ]at this;rw[this]at hb1;cases hb1
    rw[show nC S.op S.ins[k].num=fI S S.ins[k].num from rfl,h4]at hb2;cases hb2
 unfold cO;have h1:dS S.made=true:=by unfold dS;rw[yM (by omega),yM (by omega)];simp only[Bool.or_false,Bool.not_false,xC,yL];rw[any_eq_false];intro m hm;have:=hmade m hm;unfold eC;simp only[yI,zI];omega
 have h2:dW S=true:=by
  have hN:=aMD hins (S.ins.length-1) 1 1 (by omega) (by omega) (by unfold gP;rw[x0];exact hn0);have hI:S.ins.all (inB S.nums)=true:=by
   rw[yY];intro x hx;obtain⟨q,hq⟩:=mem_iff_getElem?.1 hx;obtain⟨a1,a2,a3,-⟩:=a6 hq;unfold inB;split
   .rename_i hd
    rw[zB hd]at a3;have:x.data.size=0:=by simpa using a3
    rw[aMB hr _ _ _ a1 |> (λh=>(h:kK S.nums x.ents=true)),Bool.and_true,zW];have:x.data.data.toList.length=0:=by simpa using this
    rw[zT this];rfl
   rename_i hd;rw[zA hd]at a3;have:x.ents=[]:=by simpa using a3
   rw[this];simp[a2]
  unfold dW;rcases e:S.ins with _|⟨x,r⟩
  .rw[e]at i1;simp at i1
  simp only[e]at hn0 hd0 hN hI |-;simp only[getElem_cons_zero]at hn0 hd0;rw[zB hn0,zB hd0];simp only[drop_succ_cons,drop_zero]at hN;rw[hN,xC];exact hI
 have h3:pI S=true:=aMC hr _ _ hop;rw[h1,h2,h3];simp only[Bool.and_self,if_true];have:=b0 S.ins.length 0 (by omega);simpa using this
end
end Go.Proofs.YtmkapobnfigedaaGreatDoor
