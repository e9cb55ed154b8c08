/- A part of a proof of a law. Conditions: none. -/
import Derived.Test.YtmkapobnfigedaaGreatDoorDp10
import Derived.Lib.ItoaLen
import Derived.ProofKit
import Derived.Deep.Slices
import Derived.Deep.Strs
import Derived.Lib.SmallJoins
import Derived.Shelf.SlSortCmp.NoneTotal
import Derived.Shelf.SlGeneric
import Derived.Laws.StructEq
set_option linter.unusedVariables false
set_option linter.unusedSimpArgs false
set_option maxRecDepth 100000
set_option maxHeartbeats 40000000
namespace Go.Proofs.YtmkapobnfigedaaGreatDoor
open Go.Proofs.Tryz List Go.RowKit
def bBY:ByteArray:=⟨(List.replicate 200 (0:UInt8)).toArray⟩
def s6:PSt:=⟨[⟨1,true,[⟨⟨#[100]⟩,10⟩,⟨⟨#[101]⟩,3⟩,⟨⟨#[120]⟩,2⟩],⟨#[]⟩⟩,⟨2,false,[],bBY⟩,⟨3,true,[],⟨#[]⟩⟩,⟨10,true,[],⟨#[]⟩⟩],[⟨0,0,2⟩,⟨1,0,2⟩],[2,1]⟩
end Go.Proofs.YtmkapobnfigedaaGreatDoor
namespace Go
def dM (σ:Nat->Value):Nat->List Oper->Act->Act
 |_,[],a=>a
 |i,o::r,a=>dM σ (i+1) r (a.put o.dst (σ i))
def eN (l:List Oper):List Tmp:=l.filterMap (·.dst)
def jH (σ:Nat->Value) (i:Nat) (v:Value):Nat->Value:=λj=>if j=i then v else σ j
theorem Act.put_put (a:Act) (x:Option Tmp) (v u:Value):(a.put x v).put x u=a.put x u:=by
 cases x with
 |none=>rfl
 |some d=>simp[Act.put,Array.setIfInBounds_setIfInBounds]
theorem wV (σ:Nat->Value) (x:Option Tmp) (v:Value):∀(l:List Oper) (i:Nat) (a:Act),(∀d,x=some d->d∉eN l)->(dM σ i l a).put x v=dM σ i l (a.put x v)
 |[],_,_,_=>rfl
 | o::r,i,a,h=>by
   simp only[dM];rw[wV σ x v r (i+1) _ (λd hd hm=>h d hd (by
    unfold eN at hm |-;rw[List.filterMap_cons];split
    .exact hm
    exact zL _ hm))]
   congr 1;refine Act.put_comm a _ _ (λd hd hx=>h d hx ?_);unfold eN;rw[List.filterMap_cons,hd];exact zQ
theorem uR {σ τ:Nat->Value}:∀(l:List Oper) (i:Nat) (a:Act),(∀j,i<=j->σ j=τ j)->dM σ i l a=dM τ i l a
 |[],_,_,_=>rfl
 | o::r,i,a,h=>by simp only[dM];rw[h i (zC _),uR r (i+1) _ (λj hj=>h j (by omega))]
theorem fX (o:Oper) (r:List Oper):eN (o::r)=match o.dst with|none=>eN r|some d=>d::eN r:=by
 unfold eN;rw[List.filterMap_cons];cases o.dst<;>rfl
theorem aCG {l:List Oper} {j:Nat} {o:Oper} {d:Tmp} (ho:l[j]? =some o) (hd:o.dst=some d):d∈eN l:=List.mem_filterMap.2 ⟨o,mG ho,hd⟩
theorem aCH (σ:Nat->Value) (v:Value):∀(l:List Oper) (i j:Nat) (a:Act) (o:Oper),(eN l).Nodup->l[j]? =some o->(dM σ i l a).put o.dst v=dM (jH σ (i+j) v) i l a
 |[],_,_,_,_,_,h=>by simp at h
 | q::r,i,0,a,o,hn,h=>by
   simp only[zH,zF]at h;subst h;simp only[dM];have a0:∀d,q.dst=some d->d∉eN r:=λd hd hm=>by rw[fX,hd]at hn;exact(List.nodup_cons.1 hn).1 hm
   rw[wV σ q.dst v r (i+1) _ a0,Act.put_put];have e:jH σ (i+0) v i=v:=by simp[jH]
   rw[e];exact uR r (i+1) _ (λj hj=>by unfold jH;rw[zA (by omega)])
 | q::r,i,j+1,a,o,hn,h=>by
   simp only[zV]at h;simp only[dM];have a1:(eN r).Nodup:=by
    rw[fX]at hn;split at hn
    .exact hn
    exact(List.nodup_cons.1 hn).2
   rw[aCH σ v r (i+1) j _ o a1 h];have e:jH σ (i+(j+1)) v i=σ i:=by unfold jH;rw[zA (by omega)]
   rw[e,show i+1+j=i+(j+1) by omega]
theorem tN (σ:Nat->Value) (x:Tmp):∀(l:List Oper) (i:Nat) (a:Act),x∉eN l->(dM σ i l a).eval (.tmp x)=a.eval (.tmp x)
 |[],_,_,_=>rfl
 | o::r,i,a,h=>by
   simp only[dM];rw[tN σ x r (i+1) _ (λhm=>h (by rw[fX];split;exact hm;exact zL _ hm))];exact Act.eval_put λd hd hx=>h (by
    cases hx;rw[fX,hd];exact zQ)
theorem aSL (a:Act) (x:Option Tmp) (v:Value):(a.put x v).tmps.size=a.tmps.size:=by
 cases x<;>simp[Act.put]
theorem aBG (a:Act) (d:Tmp) (v:Value) (h:d<a.tmps.size):(a.put (some d) v).eval (.tmp d)=v:=by simp[Act.put,Act.eval,h]
theorem aGB (σ:Nat->Value):∀(l:List Oper) (i j:Nat) (a:Act) (o:Oper) (d:Tmp),(eN l).Nodup->l[j]? =some o->o.dst=some d->d<a.tmps.size->(dM σ i l a).eval (.tmp d)=σ (i+j)
 |[],_,_,_,_,_,_,h,_,_=>by simp at h
 | q::r,i,0,a,o,d,hn,h,hd,hl=>by
   simp only[zH,zF]at h;subst h;simp only[dM];rw[tN σ d r (i+1) _ (λhm=>by
    rw[fX,hd]at hn;exact(List.nodup_cons.1 hn).1 hm),hd]
   exact aBG a d _ hl
 | q::r,i,j+1,a,o,d,hn,h,hd,hl=>by
   simp only[zV]at h;simp only[dM];have a0:(eN r).Nodup:=by
    rw[fX]at hn;split at hn
    .exact hn
    exact(List.nodup_cons.1 hn).2
   rw[aGB σ r (i+1) j _ o d a0 h hd (by rw[aSL];exact hl),show i+1+j=i+(j+1) by omega]
def Region.invB (l:List Oper):Bool:=
 Region.noSelect l.toArray&&decide ((eN l).Nodup)&&(List.range l.length).all λi=>match l[i]? with
  |some o=>o.after.toList.all λe=>!Region.binds .any e||decide (e.on<i)
  |none=>true
def Oper.waits (o:Oper):List Nat:=(o.after.toList.filter λe=>Region.binds .any e).map (·.on)
def EachOp (p:Nat->Oper->Prop):Nat->List Oper->Prop
 |_,[]=>True
 |i,o::r=>p i o/\EachOp p (i+1) r
theorem EachOp.at_ {p:Nat->Oper->Prop}:∀{l:List Oper} {i j:Nat} {o:Oper},EachOp p i l->l[j]? =some o->p (i+j) o
 |[],_,_,_,_,h=>by simp at h
 | q::r,i,0,o,h,ho=>by simp only[zH,zF]at ho;subst ho;exact h.1
 | q::r,i,j+1,o,h,ho=>by simp only[zV]at ho;have:=EachOp.at_ h.2 ho;rw[show i+1+j=i+(j+1) by omega]at this;exact this
section
variable {P:Program} {l:List Oper} {Q:Exit->Act->World->Prop}
theorem EachOp.imp {p q:Nat->Oper->Prop}:∀{l:List Oper} {i:Nat},(∀j o,l[j]? =some o->p (i+j) o->q (i+j) o)->EachOp p i l->EachOp q i l
 |[],_,_,_=>trivial
 |o::r,i,h,hp=>⟨h 0 o rfl hp.1,EachOp.imp (λj o' ho h1=>by
  have:=h (j+1) o' (by simpa using ho);rw[show i+1+j=i+(j+1) by omega]at h1 |-;exact this h1) hp.2⟩
end
end Go
namespace Go.Proofs.YtmkapobnfigedaaGreatDoor
open Go.Proofs.Tryz List Go.RowKit
def aXA (S:PSt):Nat->Int->Nat->Nat
 |0,_,_=>0
 | f+1,n,p=>match S.ins[(cV (nL n) S.ins).toNat]? with
   |none=>0
   |some x=>if x.dir=true then p+40+(x.ents.map λe=>aXA S f e.num (p+1+e.name.size)).sum else p+2*x.data.size+40
theorem aUS {α:Type} (f g:α->Nat):∀(l:List α),(∀x∈l,f x<=g x)->(l.map f).sum<=(l.map g).sum
 |[],_=>zC _
 | x::r,h=>by have h1:=h x (zQ);have h2:=aUS f g r (λy hy=>h y (zL _ hy));simp only[xB,sum_cons];omega
section
theorem dU (s:ByteArray) (p:Nat) (h:p<s.size):s.get! p=s[p]'h:=by have h':p<s.data.size:=h;show s.data[p]! =_;rw[getElem!_pos s.data p h'];rfl
variable {p:Nat} {s:ByteArray}
theorem aBB (h:p<s.size):dQ s p=(s.get! p).toNat:=by unfold dQ;rw[dif_pos h,dU s p h]
theorem rR (s:ByteArray) (p:Nat):fS s p=if(decide (p<s.size)&&(s.get! p).toNat/64==2)=true then(((s.get! p).toNat%64:Nat):Int)else -1:=by
 have hb:=(s.get! p).toNat_lt;unfold fS;by_cases h:p<s.size
 .rw[zB h,aBB h];generalize(s.get! p).toNat=b at hb |-;have e:(decide (p<s.size)&&b/64==2)=decide (b/64=2):=by simp[h];rfl
  rw[e];simp only[zI];by_cases h2:b/64=2
  .rw[zB h2,zA (show ¬(b:Int)<128 by omega),zA (show ¬191<(b:Int) by omega)];omega
  rw[zA h2];by_cases h3:(b:Int)<128
  .rw[zB h3]
  rw[zA h3,zB (by omega)]
 rw[zA h,zA (by simp[h])]
def fU (b0 b1 b2 b3:Nat) (c1 c2 c3:Bool):Nat × Nat:=
 if b0<0x80 then(b0,1)
 else if b0/32==6&&c1 then(if (b0%32)*64+b1%64>=0x80 then((b0%32)*64+b1%64,2)else(65533,1))
 else if b0/16==14&&c1&&c2 then(if (b0%16)*4096+(b1%64)*64+b2%64>=0x800&&Utf8.valid ((b0%16)*4096+(b1%64)*64+b2%64:Nat)then((b0%16)*4096+(b1%64)*64+b2%64,3)else(65533,1))
 else if b0/8==30&&c1&&c2&&c3 then(if (b0%8)*262144+(b1%64)*4096+(b2%64)*64+b3%64>=0x10000&&Utf8.valid ((b0%8)*262144+(b1%64)*4096+(b2%64)*64+b3%64:Nat)then((b0%8)*262144+(b1%64)*4096+(b2%64)*64+b3%64,4)else(65533,1))
 else(65533,1)
theorem lO (s:ByteArray) (i:Nat):Utf8.decode s i=fU (s.get! i).toNat (s.get! (i+1)).toNat (s.get! (i+2)).toNat (s.get! (i+3)).toNat (decide (i+1<s.size)&&(s.get! (i+1)).toNat/64==2) (decide (i+2<s.size)&&(s.get! (i+2)).toNat/64==2) (decide (i+3<s.size)&&(s.get! (i+3)).toNat/64==2):=rfl
theorem aUW (b0 b1 b2 b3:Nat) (c1 c2 c3:Bool) (h0:b0<256) (A B D:Int) (hA:A=if c1=true then((b1%64:Nat):Int)else -1) (hB:B=if c2=true then((b2%64:Nat):Int)else -1) (hD:D=if c3=true then((b3%64:Nat):Int)else -1):
 ((fU b0 b1 b2 b3 c1 c2 c3).1:Int)=(bS b0 A B D).1/\((fU b0 b1 b2 b3 c1 c2 c3).2:Int)=max (bS b0 A B D).2 1/\
 ((bS b0 A B D).2=0↔((fU b0 b1 b2 b3 c1 c2 c3).1=65533/\¬(b0=239/\c1=true/\c2=true/\b1%64=63/\b2%64=61))):=by
 have a0:∀(x w:Nat) (y v:Int),fU b0 b1 b2 b3 c1 c2 c3=(x,w)->bS b0 A B D=(y,v)->(x:Int)=y->(w:Int)=max v 1->(v=0↔x=65533/\¬(b0=239/\c1=true/\c2=true/\b1%64=63/\b2%64=61))->((fU b0 b1 b2 b3 c1 c2 c3).1:Int)=(bS b0 A B D).1/\((fU b0 b1 b2 b3 c1 c2 c3).2:Int)=max (bS b0 A B D).2 1/\
  ((bS b0 A B D).2=0↔((fU b0 b1 b2 b3 c1 c2 c3).1=65533/\¬(b0=239/\c1=true/\c2=true/\b1%64=63/\b2%64=61))):=by
  intro x w y v h1 h2 h3 h4 h5;rw[h1,h2];exact⟨h3,h4,h5⟩
 by_cases e0:b0<128
 .refine a0 b0 1 b0 1 (by unfold fU;rw[zB e0]) (by unfold bS;rw[zB (by omega)]) rfl rfl (by omega)
 have a1:b0<194\/244<b0\/c1=false->fU b0 b1 b2 b3 c1 c2 c3=(65533,1)->_:=λh hd=>a0 65533 1 65533 0 hd (by
  unfold bS;have hx:b0<194\/244<b0\/A=-1:=h.imp (λh=>h) (λh=>h.imp (λh=>h) (λh=>by rw[hA,h];rfl));rw[zA (by omega),zA (by omega),zA (by omega),zA (by omega)]) rfl rfl (by
  rcases h with h|h|h
  .omega
  .omega
  simp[h])
 rcases c1 with _|_
 .refine a1 (.inr (.inr rfl)) (by
   unfold fU;rw[zA e0];simp)
 have a4:A=((b1%64:Nat):Int):=by rw[hA];rfl
 clear hA;by_cases e1:b0/32=6
 .by_cases e2:b0%32*64+b1%64>=128
  .refine a0 (b0%32*64+b1%64) 2 ((b0-192)*64+A) 2 (by unfold fU;rw[zA e0,zB (by simp[e1]),zB e2]) (by unfold bS;rw[zA (by omega),zB (by omega)]) (by omega) rfl (by omega)
  refine a1 (.inl (by omega)) (by unfold fU;rw[zA e0,zB (by simp[e1]),zA e2])
 rcases c2 with _|_
 .have a2:B=-1:=by rw[hB];rfl
  refine a0 65533 1 65533 0 (by unfold fU;rw[zA e0];simp[e1]) (by
   unfold bS;rw[zA (by omega),zA (by omega),zA (by omega),zA (by omega)]) rfl rfl (by simp)
 have a2:B=((b2%64:Nat):Int):=by rw[hB];rfl
 clear hB;by_cases e2:b0/16=14
 .by_cases e3:b0%16*4096+b1%64*64+b2%64>=2048/\(b0%16*4096+b1%64*64+b2%64<55296\/57343<b0%16*4096+b1%64*64+b2%64)
  .refine a0 (b0%16*4096+b1%64*64+b2%64) 3 ((b0-224)*4096+A*64+B) 3 (by
    unfold fU Utf8.valid;rw[zA e0,zA (by simp[e1]),zB (by simp[e2]),zB (by simp only[zE,yI,zI];omega)]) (by
    unfold bS;rw[zA (by omega),zA (by omega),zB (by omega),zB (by omega)]) (by omega) rfl (by simp only[true_and];omega)
  refine a0 65533 1 65533 0 (by
   unfold fU Utf8.valid;rw[zA e0,zA (by simp[e1]),zB (by simp[e2]),zA (by simp only[zE,yI,zI];omega)]) (by
   unfold bS;rw[zA (by omega),zA (by omega),zB (by omega),zA (by omega)]) rfl rfl (by omega)
 rcases c3 with _|_
 .have a3:D=-1:=by rw[hD];rfl
  refine a0 65533 1 65533 0 (by unfold fU;rw[zA e0];simp[e1,e2]) (by
   unfold bS;rw[zA (by omega),zA (by omega),zA (by omega),zA (by omega)]) rfl rfl (by omega)
 have a3:D=((b3%64:Nat):Int):=by rw[hD];rfl
 clear hD;by_cases e3:b0/8=30
 .by_cases e4:b0%8*262144+b1%64*4096+b2%64*64+b3%64>=65536/\b0%8*262144+b1%64*4096+b2%64*64+b3%64<=1114111
  .refine a0 (b0%8*262144+b1%64*4096+b2%64*64+b3%64) 4 ((b0-240)*262144+A*4096+B*64+D) 4 (by
    unfold fU Utf8.valid;rw[zA e0,zA (by simp[e1]),zA (by simp[e2]),zB (by simp[e3]),zB (by simp only[zE,yI,zI];omega)]) (by
    unfold bS;rw[zA (by omega),zA (by omega),zA (by omega),zB (by omega),zB (by omega)]) (by omega) rfl (by omega)
  have hd:fU b0 b1 b2 b3 true true true=(65533,1):=by unfold fU Utf8.valid;rw[zA e0,zA (by simp[e1]),zA (by simp[e2]),zB (by simp[e3]),zA (by simp only[zE,yI,zI];omega)]
  by_cases e5:b0<=244
  .refine a0 65533 1 65533 0 hd (by
    unfold bS;rw[zA (by omega),zA (by omega),zA (by omega),zB (by omega),zA (by omega)]) rfl rfl (by omega)
  exact a1 (.inr (.inl (by omega))) hd
 refine a0 65533 1 65533 0 (by unfold fU;rw[zA e0];simp[e1,e2,e3]) (by
  unfold bS;rw[zA (by omega),zA (by omega),zA (by omega),zA (by omega)]) rfl rfl (by omega)
theorem aFD (hp:p<s.size):
 ((Utf8.decode s p).1:Int)=(cD s p).1/\((Utf8.decode s p).2:Int)=max (cD s p).2 1/\((cD s p).2=0↔((Utf8.decode s p).1=65533/\¬((s.get! p).toNat=239/\(decide (p+1<s.size)&&(s.get! (p+1)).toNat/64==2)=true/\(decide (p+2<s.size)&&(s.get! (p+2)).toNat/64==2)=true/\(s.get! (p+1)).toNat%64=63/\(s.get! (p+2)).toNat%64=61))):=by
 unfold cD;rw[lO,aBB hp,rR,rR,rR];exact aUW _ _ _ _ _ _ _ (s.get! p).toNat_lt _ _ _ rfl rfl rfl
theorem aNE (s:ByteArray):∀b p h,kS s b p h=fC s b p h
 |0,_,_=>rfl
 | b+1,p,h=>by
   unfold kS fC;by_cases hp:p<s.size
   .rw[zB hp,zB hp,aNE s b];obtain⟨h1,h2,_⟩:=aFD hp;rw[<-h1,<-h2,zJ]
   rw[zA hp,zA hp]
theorem nN (s:ByteArray):bA s=aV s:=by unfold bA aV vH pG;rw[aNE]
theorem aLD (b0 b1 b2 b3:Nat) (c1 c2 c3:Bool):Utf8.valid ((fU b0 b1 b2 b3 c1 c2 c3).1:Nat)=true:=by
 have key:∀r:Nat,(r<55296\/(57344<=r/\r<=1114111))->Utf8.valid (r:Int)=true:=λr h=>by unfold Utf8.valid;simp only[zE,yI,zI];omega
 unfold fU;split
 .exact key _ (by simp only;omega)
 split
 .split
  .exact key _ (by simp only;omega)
  rfl
 split
 .split
  .rename_i h
   simp only[zE]at h;exact h.2
  rfl
 split
 .split
  .rename_i h
   simp only[zE]at h;exact h.2
  rfl
 rfl
theorem aLE {r:Nat} (hv:Utf8.valid (r:Int)=true) (h:(Utf8.encode (r:Int)).toList=[239,191,189]):r=65533:=by
 unfold Utf8.encode at h;rw[zB hv]at h;simp only[zJ]at h;have a0:r<=1114111:=by unfold Utf8.valid at hv;simp only[zE,yI,zI]at hv;omega
 have t1:∀a:UInt8,(⟨#[a]⟩:ByteArray).toList=[a]:=λ_=>ByteArray.toList_mk _;have t2:∀a b:UInt8,(⟨#[a,b]⟩:ByteArray).toList=[a,b]:=λ_ _=>ByteArray.toList_mk _;have t3:∀a b c:UInt8,(⟨#[a,b,c]⟩:ByteArray).toList=[a,b,c]:=λ_ _ _=>ByteArray.toList_mk _;have t4:∀a b c d:UInt8,(⟨#[a,b,c,d]⟩:ByteArray).toList=[a,b,c,d]:=λ_ _ _ _=>ByteArray.toList_mk _;split at h
 .rw[t1]at h;simp at h
 split at h
 .rw[t2]at h;simp at h
 split at h
 .rw[t3]at h;simp only[List.cons.injEq,and_true]at h;obtain⟨h1,h2,h3⟩:=h;have e1:=congrArg UInt8.toNat h1;have e2:=congrArg UInt8.toNat h2;have e3:=congrArg UInt8.toNat h3;simp at e1 e2 e3;omega
 rw[t4]at h;simp at h
theorem aLF (h0:(s.get! p).toNat=239) (h1:p+1<s.size) (h2:p+2<s.size) (b1:(s.get! (p+1)).toNat=191) (b2:(s.get! (p+2)).toNat=189):jX (s.extract p s.size) ⟨#[239,191,189]⟩=true:=by
 unfold jX;have a0:(s.extract p s.size).size=s.size-p:=by simp
 have e:(s.extract p s.size).extract 0 (⟨#[239,191,189]⟩:ByteArray).size=⟨#[239,191,189]⟩:=by
  show(s.extract p s.size).extract 0 3=_;apply ByteArray.ext;apply Array.ext
  .simp;have:s.data.size=s.size:=rfl;omega
  intro k hk hk';have a1:k<3:=hk';have g:∀j (hj:j<s.size),s.data[j]'hj=s.get! j:=λj hj=>(dU s j hj).symm;simp only[ByteArray.data_extract,Array.getElem_extract];rw[g _ (by omega)];have:k=0\/k=1\/k=2:=by omega
  rcases this with rfl|rfl|rfl
  .apply UInt8.toNat_inj.1;simpa using h0
  .apply UInt8.toNat_inj.1;simpa using b1
  apply UInt8.toNat_inj.1;simpa using b2
 rw[e,a0]
 have:decide ((⟨#[239,191,189]⟩:ByteArray).size<=s.size-p)=true:=decide_eq_true (by show 3<=_;omega);rw[this];simp
theorem rS (s:ByteArray):∀b p,fK s b p=true->bZ s b p=true
 |0,_,_=>rfl
 | b + 1,p,h=>by
   unfold fK at h;unfold bZ;by_cases hp:p<s.size
   .rw [zB hp]at h |-;obtain⟨h1,h2,h3⟩:=aFD hp
    split at h
    .cases h
    rename_i hb;have hk:(cD s p).2≠0:=λe=>hb (.inl e);have hw:(cD s p).2.toNat=(Utf8.decode s p).2:=by
     have:0<=(cD s p).2:=by
      unfold cD bS
      repeat' split
      all_goals simp
     omega
    rw[hw]at h;rw[rS s b _ h,Bool.and_true,yL];unfold fV;simp only[yV,yW,yF];refine⟨⟨⟨by omega,by omega⟩,by omega⟩,?_⟩;rw[Bool.and_eq_false_iff];by_cases e:(Utf8.decode s p).1=65533
    .right;rw[Bool.not_eq_false'];have hy:=λhn=>hk (h3.2 ⟨e,hn⟩)
     have hy:=Classical.not_not.1 hy;simp only[zE,zI,beq_iff_eq]at hy;obtain⟨a0,⟨a1,a2⟩,⟨a3,a4⟩,a5,a6⟩:=hy;exact aLF a0 a1 a3 (by omega) (by omega)
    left;rw[yF];intro he;refine e (aLE ?_ he);rw[lO];exact aLD _ _ _ _ _ _ _
   rw[zA hp]
theorem aLG (h:bK s=0):dP s=true:=by
 unfold dP cU;unfold bK at h;split at h
 .cases h
 rename_i h1;rw[zA h1];split at h
 .cases h
 rename_i h2;rw[zA h2];split at h
 .rename_i h3
  rw[zB (rS s _ _ h3)];rfl
 cases h
end
end Go.Proofs.YtmkapobnfigedaaGreatDoor
namespace Go
theorem sC (σ:Nat->Value):∀(l:List Oper) (i:Nat) (a:Act),(dM σ i l a).defers=a.defers
 |[],_,_=>rfl
 | o::r,i,a=>by
   simp only[dM];rw[sC σ r (i+1)];cases o.dst<;>rfl
section
variable {P:Program} {l:List Oper} {Q:Exit->Act->World->Prop}
theorem aJC (R :(Nat->Prop)->(Nat->Value)->World->Prop) {a0:Act} (hB:Region.invB l=true) (hsz:∀d∈eN l,d<a0.tmps.size)
 (hstep:EachOp (λi o=>∀(D:Nat->Prop) (σ:Nat->Value) (w:World) (a:Act),¬D i->(∀k,o.waits.contains k=true->D k)->R D σ w->(∀j q d,l[j]? =some q->q.dst=some d->a.eval (.tmp d)=σ j)->(∀d,(eN l).contains d=false->a.eval (.tmp d)=a0.eval (.tmp d))->a.defers=a0.defers->
  (Region.wanted o (yielded l.toArray a.tmps)=true->∀nx:Act->World->Prop,(∀v w',R (λj=>j=i\/D j) (jH σ i v) w'->nx (a.put o.dst v) w')->o.wp P a w nx Q)/\(Region.wanted o (yielded l.toArray a.tmps)=false->R (λj=>j=i\/D j) (jH σ i undef) w)) 0 l)
 (hend:∀σ w,R (λ_=>True) σ w->Q .normal (dM σ 0 l a0) w):
 ∀(n:Nat) (listed:Array Bool) (σ:Nat->Value) (w:World),listed.size=l.length->listed.toList.count false=n->R (λj=>listed.getD j true=true) σ w->wpAny P .any l.toArray Q n listed (dM σ 0 l a0) w:=by
 simp only[Region.invB,zE,zI,yY,beq_iff_eq]at hB;obtain⟨⟨hsel,hnd⟩,hlt⟩:=hB;intro n
 induction n with
 | zero=>
   intro listed σ w hs hc hR;have a1:∀j,listed.getD j true=true:=λj=>by
    by_cases hj:j<listed.size
    .rw[List.count_eq_zero]at hc;have hm:listed[j]∈listed.toList:=by simp
     rcases h:listed[j]with _|_
     .rw[h]at hm;exact absurd hm hc
     simp[Array.getD,hj,h]
    simp[Array.getD,hj]
   refine⟨List.eq_nil_iff_forall_not_mem.2 λi hi=>?_,hend σ w ?_⟩
   .obtain⟨h0,_⟩:=mem_ready.1 hi;rw[a1 i]at h0;cases h0
   have e:(λj=>listed.getD j true=true)=λ_=>True:=funext λj=>propext ⟨λ_=>trivial,λ_=>a1 j⟩;rw[<-e];exact hR
 | succ n ih =>
   intro listed σ w hs hc hR;have un:∀j,j<listed.size->¬listed.getD j false=true->listed.getD j true=false:=λj hj h=>by simp[Array.getD,hj]at h |-;exact h
   have a6:∀i,listed.getD i true=false->Region.ready .any l.toArray listed≠[]:=by
    intro i
    induction i using Nat.strongRecOn with
    | ind i ihi=>
      intro h h0;have hi:i<l.length:=by
       rw[<-hs];by_cases hj:i<listed.size
       .exact hj
       simp[Array.getD,hj]at h
      by_cases a1:∀e∈l[i].after,Region.binds .any e=true->listed.getD e.on false=true
      .have:i∈Region.ready .any l.toArray listed:=mem_ready.2 ⟨h,l[i],by simp[hi],a1⟩;rw[h0]at this;cases this
      obtain⟨e,he⟩:=Classical.not_forall.1 a1;obtain⟨hm,he⟩:=Classical.not_imp.1 he;obtain⟨hb,hx⟩:=Classical.not_imp.1 he;have h1:=hlt i (List.mem_range.2 hi);rw[gE hi]at h1;simp only[yY,yI,yL,zI]at h1;have a7:e.on<i:=by
       rcases h1 e (by simpa using hm)with h2|h2
       .rw[hb]at h2;cases h2
       exact h2
      exact ihi e.on a7 (un e.on (by omega) hx) h0
   refine⟨λh0=>?_,λi hi=>?_⟩
   .exfalso;have hm:false∈listed.toList:=by
     refine Classical.byContradiction λh=>?_;rw[List.count_eq_zero.2 h]at hc;cases hc
    obtain⟨j,hj,he⟩:=List.getElem_of_mem hm;have a8:j<listed.size:=by simpa using hj
    refine a6 j ?_ h0;simp[Array.getD,a8];simpa using he
   obtain ⟨h0,o,ho,hd⟩:=mem_ready.1 hi;have a2:l[i]? =some o:=by simpa using ho
   obtain⟨hil,hio⟩:=gI.1 a2;have a3:i<listed.size:=by omega
   unfold wpOp;simp only[ho];have a4:=EachOp.at_ hstep a2;rw[zM]at a4;have h1:=a4 (λj=>listed.getD j true=true) σ w (dM σ 0 l a0) (by rw[h0];exact Bool.false_ne_true) (λk hk=>?_) hR (λj q d hq hqd=>?_) (λd hdm=>?_) (sC σ l 0 a0)
   .have a5 :∀v w',R (λj=>j=i\/listed.getD j true=true) (jH σ i v) w'->wpAny P .any l.toArray Q n (listed.setIfInBounds i true) ((dM σ 0 l a0).put o.dst v) w':=by
     intro v w' hR';rw[aCH σ v l 0 i a0 o hnd a2,zM];refine ih _ _ _ (by simpa using hs) ?_ ?_
     .have a9:listed[i]=false:=by simpa[Array.getD,a3]using h0
      rw[Array.toList_setIfInBounds,List.count_set (by simpa using a3)];simp[a9]at hc |-;omega
     have e:(λj=>(listed.setIfInBounds i true).getD j true=true)=λj=>j=i\/listed.getD j true=true:=funext λj=>propext (by
      by_cases hij:i=j
      .subst hij;simp[Array.getD,a3]
      rw[getD_set_ne true hij];constructor
      .exact .inr
      rintro(h|h)
      .exact absurd h.symm hij
      exact h)
     rw[e];exact hR'
    rcases hwd:Region.wanted o (yielded l.toArray (dM σ 0 l a0).tmps)with _|_
    .rw[zA (by simp)];exact a5 _ _ (h1.2 hwd)
    rw[zB rfl];exact .inl (h1.1 hwd _ a5)
   .unfold Oper.waits at hk;simp only[List.contains_eq_mem,zI]at hk;obtain⟨e,he,rfl⟩:=List.mem_map.1 hk;obtain⟨he1,he2⟩:=List.mem_filter.1 he;have:=hd e (by simpa using he1) he2;by_cases hj:e.on<listed.size
    .simp[Array.getD,hj]at this |-;exact this
    simp[Array.getD,hj]
   .have:=aGB σ l 0 j a0 q d hnd hq hqd (hsz d (aCG hq hqd));rw[zM]at this;exact this
   refine tN σ d l 0 a0 (λhm=>?_);have:(eN l).contains d=true:=by simpa using hm
   rw[this]at hdm;cases hdm
theorem pA {id:Nat} (R:(Nat->Prop)->(Nat->Value)->World->Prop) {a0:Act} {w:World} (hm:P.follows .mixedOrders=true) (hB:Region.invB l=true) (hsz:((eN l).all λd=>decide (d<a0.tmps.size))=true)
 (h0:∀σ,R (λj=>l.length<=j) σ w.drew)
 (hstep:EachOp (λi o=>∀(D:Nat->Prop) (σ:Nat->Value) (w:World) (a:Act),¬D i->(∀k,o.waits.contains k=true->D k)->R D σ w->(∀j q d,l[j]? =some q->q.dst=some d->a.eval (.tmp d)=σ j)->(∀d,(eN l).contains d=false->a.eval (.tmp d)=a0.eval (.tmp d))->a.defers=a0.defers->
  (Region.wanted o (yielded l.toArray a.tmps)=true->∀nx:Act->World->Prop,(∀v w',R (λj=>j=i\/D j) (jH σ i v) w'->nx (a.put o.dst v) w')->o.wp P a w nx Q)/\(Region.wanted o (yielded l.toArray a.tmps)=false->R (λj=>j=i\/D j) (jH σ i undef) w)) 0 l)
 (hend:∀σ w,R (λ_=>True) σ w->Q .normal (dM σ 0 l a0) w):(Code.region id l.toArray true).wp P Q a0 w:=by
 have a1:∀d∈eN l,d<a0.tmps.size:=λd hd=>by have:=List.all_eq_true.1 hsz d hd;simpa using this
 have a3:=hB;simp only[Region.invB,zE,zI,yY,beq_iff_eq]at a3;obtain⟨⟨_,hnd⟩,_⟩:=a3;have a2 : ∀(l':List Oper) (i:Nat) (τ:Nat->Value),(∀j o d,l'[j]? =some o->o.dst=some d->τ (i+j)=a0.eval (.tmp d))->(∀d∈eN l',d<a0.tmps.size)->dM τ i l' a0=a0:=by
  intro l'
  induction l' with
  |nil=>intro i τ _ _;rfl
  | cons o r ih=>
    intro i τ hτ hs;simp only[dM];have e:a0.put o.dst (τ i)=a0:=by
     rcases hd:o.dst with _|d
     .rfl
     have h1:=hτ 0 o d rfl hd;rw[zN]at h1;have a4:=hs d (aCG (j:=0) rfl hd);rw[h1];rcases a0 with⟨t,df⟩
     simp only[Act.put,Act.eval];congr 1;apply Array.ext
     .simp
     intro k hk1 hk2;rw[Array.getElem_setIfInBounds];split
     .rename_i hdk
      subst hdk;simp[hk2]
     rfl
    rw[e];exact ih (i+1) τ (λj o' d ho hd=>by
     have:=hτ (j+1) o' d (by simpa using ho) hd;rw[show i+1+j=i+(j+1) by omega];exact this) (λd hd=>hs d (by rw[fX];split;exact hd;exact zL _ hd))
 refine wp_region_any hm ?_;have h1:=aJC (Q:=Q) R hB a1 hstep hend l.length (Array.replicate l.length false) (λj=>match l[j]? with|some o=>(match o.dst with|some d=>a0.eval (.tmp d)|none=>undef)|none=>undef) w.drew (by simp) (by simp) (by
  have e:(λj=>(Array.replicate l.length false).getD j true=true)=λj=>l.length<=j:=funext λj=>propext (by
   by_cases hj:j<l.length
   .simp[hj]<;>omega
   simp[hj]<;>omega)
  rw[e];exact h0 _)
 rw[a2 l 0 _ (λj o d ho hd=>by rw[zM,ho];simp only[hd]) a1]at h1;simpa using h1
end
theorem Oper.wpW {P:Program} {Q:Exit->Act->World->Prop} {o:Oper} {a:Act} {w:World} {K:Value->World->Prop} (h:o.eff P a w K):∀nx:Act->World->Prop,(∀v w',K v w'->nx (a.put o.dst v) w')->o.wp P a w nx Q:=λ_ hn=>Oper.wp_of_eff h hn
theorem Oper.wpX {P:Program} {Q:Exit->Act->World->Prop} {o:Oper} {a:Act} {w:World} (f:FuncId) (args:Array Value) {nx:Act->World->Prop} (hr:(execOp a.eval o).run P w=.ok (.enter f args) w) (h:Calls P f args w λe w'=>∃ch,e=.panicked ch/\Q (.panic ch) a w'):o.wp P a w nx Q:=by
 unfold Oper.wp;rw[hr,Oper.upon_enter];exact h.mono λe w' ⟨ch,he,hq⟩=>by subst he;exact hq
end Go
namespace Go
open Go.RowKit
structure OB (l:List Oper) (a0:Act) (i:Nat) (o:Oper) (R:(Nat->Prop)->(Nat->Value)->World->Prop) (D:Nat->Prop) (σ:Nat->Value) (w:World) (a:Act):Prop where
 nd:¬D i
 hw:∀k,o.waits.contains k=true->D k
 r:R D σ w
 ins:∀j q d,l[j]? =some q->q.dst=some d->a.eval (.tmp d)=σ j
 outs:∀d,(eN l).contains d=false->a.eval (.tmp d)=a0.eval (.tmp d)
section
variable {P:Program} {Q:Exit->Act->World->Prop} {l:List Oper} {a0 a:Act} {i:Nat} {o:Oper} {R:(Nat->Prop)->(Nat->Value)->World->Prop} {D:Nat->Prop} {σ:Nat->Value} {w:World}
theorem aXH (k:Tmp):a.eval (.tmp k)=(a.tmps[k]?).getD undef:=by simp[Act.eval,go_sem]
theorem mW (h:OB l a0 i o R D σ w a) (d:Nat) {u:Value} (h1:(eN l).contains d=false:=by kernel_rfl) (h2:a0.eval (.tmp d)=u:=by kernel_rfl):(a.tmps[d]?).getD undef=u:=(aXH d).symm.trans ((h.outs d h1).trans h2)
theorem aJB (h:OB l a0 i o R D σ w a) (j d:Nat) {u:Value} (hj:σ j=u) (h1:(l[j]?).bind Oper.dst=some d:=by kernel_rfl):(a.tmps[d]?).getD undef=u:=by
 rcases hl:l[j]? with _|q
 .rw[hl]at h1;cases h1
 rw[hl]at h1;exact(aXH d).symm.trans ((h.ins j q d hl h1).trans hj)
theorem nR (h:OB l a0 i o R D σ w a) (k:Nat) (h1:o.waits.contains k=true:=by kernel_rfl):D k:=h.hw k h1
theorem lT {id:Nat} (R:(Nat->Prop)->(Nat->Value)->World->Prop) {a0:Act} {w:World} (h0:∀σ,R (λj=>l.length<=j) σ w.drew)
 (hstep:EachOp (λi o=>∀(D:Nat->Prop) (σ:Nat->Value) (w:World) (a:Act),OB l a0 i o R D σ w a->a.defers=a0.defers->
  (Region.wanted o (yielded l.toArray a.tmps)=true->∀nx:Act->World->Prop,(∀v w',R (λj=>j=i\/D j) (jH σ i v) w'->nx (a.put o.dst v) w')->o.wp P a w nx Q)/\(Region.wanted o (yielded l.toArray a.tmps)=false->R (λj=>j=i\/D j) (jH σ i undef) w)) 0 l)
 (hend:∀σ w,R (λ_=>True) σ w->Q .normal (dM σ 0 l a0) w) (hm:P.follows .mixedOrders=true:=by kernel_rfl) (hB:Region.invB l=true:=by kernel_rfl) (hsz:((eN l).all λd=>decide (d<a0.tmps.size))=true:=by kernel_rfl):(Code.region id l.toArray true).wp P Q a0 w:=
 pA R hm hB hsz h0 (EachOp.imp (λ_ _ _ hp D σ w a h1 h2 h3 h4 h5 h6=>hp D σ w a ⟨h1,h2,h3,h4,h5⟩ h6) hstep) hend
end
structure RV (M:Nat) (V:Nat->Value) (w0:World) (D:Nat->Prop) (σ:Nat->Value) (w:World):Prop where
 vals:∀i,i<M->D i->σ i=V i
 no:¬D M
 below:Bl w0 w
section
variable {M T:Nat} {V:Nat->Value} {w0 w w':World} {D:Nat->Prop} {σ:Nat->Value}
theorem RV.zero (hM:M<T) (hb:Bl w0 w):RV M V w0 (λj=>T<=j) σ w:=
 ⟨λi hi h=>absurd h (by omega),λh=>absurd h (by omega),hb⟩
theorem RV.on (h:RV M V w0 D σ w) (hb:Bl w w'):RV M V w0 D σ w':=⟨h.vals,h.no,h.below.trans (hb.mono h.below.size)⟩
theorem RV.val (h:RV M V w0 D σ w) (i:Nat) (hi:M≠i):RV M V w0 (λj=>j=i\/D j) (jH σ i (V i)) w:=
 ⟨λk hk hd=>by
  by_cases e:k=i
  .subst e;exact zB rfl
  .exact(zA e).trans (h.vals k hk (hd.resolve_left e)),
  λhd=>h.no (hd.resolve_left hi),h.below⟩
end
section
variable {P:Program} {Q:Exit->Act->World->Prop} {l:List Oper} {a0 a:Act} {i:Nat} {o:Oper} {D:Nat->Prop} {σ:Nat->Value} {M:Nat} {V:Nat->Value} {w0 w:World}
theorem cK (h:OB l a0 i o (RV M V w0) D σ w a) (j d:Nat) (hj:j<M:=by decide) (h1:o.waits.contains j=true:=by kernel_rfl) (h2:(l[j]?).bind Oper.dst=some d:=by kernel_rfl):(a.tmps[d]?).getD undef=V j:=aJB h j d (h.r.vals j hj (h.hw j h1)) h2
theorem uP (h:OB l a0 i o (RV M V w0) D σ w a) (hx:(execOp a.eval o).run P w=.ok (.value (V i)) w) (hi:M≠i:=by decide):o.eff P a w λv w'=>RV M V w0 (λj=>j=i\/D j) (jH σ i v) w':=by unfold Oper.eff;rw[hx];exact h.r.val i hi
theorem gG (h:OB l a0 i o (RV M V w0) D σ w a) (hx:(execOp a.eval o).run P w=.ok (.value (V i)) w) (hi:M≠i:=by decide) (hg:o.guard=none:=by kernel_rfl):
 (Region.wanted o (yielded l.toArray a.tmps)=true->∀nx:Act->World->Prop,(∀v w',RV M V w0 (λj=>j=i\/D j) (jH σ i v) w'->nx (a.put o.dst v) w')->o.wp P a w nx Q)/\(Region.wanted o (yielded l.toArray a.tmps)=false->RV M V w0 (λj=>j=i\/D j) (jH σ i undef) w):=
 ⟨λ_=>Oper.wpW (uP h hx hi),λe=>absurd e (by simp[Region.wanted,hg])⟩
end
end Go
namespace Go.Proofs.YtmkapobnfigedaaGreatDoor
open Go.Proofs.Tryz List Go.RowKit
theorem evT (a:Act) (k:Tmp):a.eval (.tmp k)=(a.tmps[k]?).getD undef:=by simp[Act.eval,go_sem]
theorem uK {P:Program} {o:Oper} {a:Act} {w w':World} {K:Value->World->Prop} {v:Value} (h:(execOp a.eval o).run P w=.ok (.value v) w') (hk:K v w'):o.eff P a w K:=by unfold Oper.eff;rw[h];exact hk
theorem aIH (d b:Nat) (S:PSt) (c:PCall) (s:ByteArray) (w:World) (h:DR w d b S c) (hp:(aA s).1≠0):
 Calls prog 178 #[.pointer d,s] w λe w'=>e=bR (eE (aA s).1)/\Bl w w':=by
 have a0:∀ww,Calls prog 198 #[s] ww λe w'=>e=bR (eE (aA s).1)/\Bl ww w':=λww=>by
  refine(aAR s ww).mono ?_;intro e w' h;rcases h with⟨h,_⟩|⟨_,h1,h2⟩
  .exact absurd h hp
  exact⟨h1,h2⟩
 have a1:=h.d0;have iD:BlockLt d w:=⟨h.lt⟩;generalize eE (aA s).1=C at a0 |-;clear h hp;go_in;go_upto_region 1 with fail;refine pA (λD σ w1=>(∀k,5<=k->k<12->¬D k)/\(D 0->σ 0=.pointer d)/\(D 1->σ 1=.pointer d)/\(D 2->σ 2=.pointer d)/\(D 3->σ 3=.pointer b)/\(D 4->σ 4=.string s)/\Bl w w1) (by kernel_rfl) (by kernel_rfl) (by kernel_rfl) ?_ ?_ ?_
 .intro σ;exact⟨λk h1 h2 h3=>absurd h3 (by show ¬12<=k;omega),λh=>absurd h (by decide),λh=>absurd h (by decide),λh=>absurd h (by decide),λh=>absurd h (by decide),λh=>absurd h (by decide),bel w _⟩
 .have nl:∀{a b:Nat} {p:Prop},(a=b\/p)->a≠b->p:=λh hn=>h.resolve_left hn
  refine⟨?_,?_,?_,?_,?_,?_,?_,?_,?_,?_,?_,?_,trivial⟩
  all_goals
   intro D σ w1 a hnd hw hR hin hout hdf;obtain⟨r5,r0,r1,r2,r3,r4,hb⟩:=hR;refine⟨λ_=>?_,λh=>absurd h (by simp[Region.wanted])⟩
  .have e0:(a.tmps[0]?).getD undef=.pointer d:=(evT a 0).symm.trans ((hout 0 (by kernel_rfl)).trans (by kernel_rfl));refine Oper.wpW (uK (v:=.pointer d) ?_ ⟨λk h1 h2 h3=>r5 k h1 h2 (nl h3 (by omega)),λ_=>rfl,λh=>r1 (nl h (by decide)),λh=>r2 (nl h (by decide)),λh=>r3 (nl h (by decide)),λh=>r4 (nl h (by decide)),hb⟩);clear hin hout hw;go_simp
   first|done|rfl
  .have e0:(a.tmps[8]?).getD undef=.pointer d:=(evT a 8).symm.trans ((hin 0 _ 8 rfl rfl).trans (r0 (hw 0 (by kernel_rfl))));refine Oper.wpW (uK (v:=.pointer d) ?_ ⟨λk h1 h2 h3=>r5 k h1 h2 (nl h3 (by omega)),λh=>r0 (nl h (by decide)),λ_=>rfl,λh=>r2 (nl h (by decide)),λh=>r3 (nl h (by decide)),λh=>r4 (nl h (by decide)),hb⟩);clear hin hout hw;go_simp
   first|done|rfl
  .have e0:(a.tmps[9]?).getD undef=.pointer d:=(evT a 9).symm.trans ((hin 1 _ 9 rfl rfl).trans (r1 (hw 1 (by kernel_rfl))));refine Oper.wpW (uK (v:=.pointer d) ?_ ⟨λk h1 h2 h3=>r5 k h1 h2 (nl h3 (by omega)),λh=>r0 (nl h (by decide)),λh=>r1 (nl h (by decide)),λ_=>rfl,λh=>r3 (nl h (by decide)),λh=>r4 (nl h (by decide)),hb⟩);clear hin hout hw;go_simp
   first|done|rfl
  .have e0:(a.tmps[10]?).getD undef=.pointer d:=(evT a 10).symm.trans ((hin 2 _ 10 rfl rfl).trans (r2 (hw 2 (by kernel_rfl))));have a2:w1.cell? d=some (.pointer b):=(hb.cell (by exact iD.lt)).trans a1;have a3:BlockLt d w1:=⟨zR iD.lt hb.size⟩
   refine Oper.wpW (uK (v:=.pointer b) ?_ ⟨λk h1 h2 h3=>r5 k h1 h2 (nl h3 (by omega)),λh=>r0 (nl h (by decide)),λh=>r1 (nl h (by decide)),λh=>r2 (nl h (by decide)),λ_=>rfl,λh=>r4 (nl h (by decide)),hb⟩);clear hin hout hw;go_simp
   first|done|rfl
  .have e0:(a.tmps[1]?).getD undef=.string s:=(evT a 1).symm.trans ((hout 1 (by kernel_rfl)).trans (by kernel_rfl));refine Oper.wpW (uK (v:=.string s) ?_ ⟨λk h1 h2 h3=>r5 k h1 h2 (nl h3 (by omega)),λh=>r0 (nl h (by decide)),λh=>r1 (nl h (by decide)),λh=>r2 (nl h (by decide)),λh=>r3 (nl h (by decide)),λ_=>rfl,hb⟩);clear hin hout hw;go_simp
   first|done|rfl
  .have e0:(a.tmps[12]?).getD undef=.string s:=(evT a 12).symm.trans ((hin 4 _ 12 rfl rfl).trans (r4 (hw 4 (by kernel_rfl))));intro nx _;refine Oper.wpX 198 #[.string s] ?_ ((a0 w1).mono λe w' ⟨he,hb2⟩=>⟨_,he,hdf,rfl,hb.trans (hb2.mono hb.size)⟩);clear hin hout hw;go_simp
   first|done|rfl
  .exact absurd (hw 5 (by kernel_rfl)) (r5 5 (by decide) (by decide))
  .exact absurd (hw 6 (by kernel_rfl)) (r5 6 (by decide) (by decide))
  .exact absurd (hw 7 (by kernel_rfl)) (r5 7 (by decide) (by decide))
  .exact absurd (hw 7 (by kernel_rfl)) (r5 7 (by decide) (by decide))
  .exact absurd (hw 8 (by kernel_rfl)) (r5 8 (by decide) (by decide))
  exact absurd (hw 9 (by kernel_rfl)) (r5 9 (by decide) (by decide))
 intro σ w1 hR;exact absurd trivial (hR.1 5 (by decide) (by decide))
section
open Go.Proofs.Tryz List Go.RowKit Go.ChangeShapes Go.WideShapes Go.Deep Go.Joins
theorem jZ:prog.cellsOf 3=1:=by kernel_rfl
theorem aOV:prog.cellsOf 4=1:=by kernel_rfl
theorem pZ:prog.cellsOf 9=1:=by kernel_rfl
theorem aJS:prog.cellsOf 22=1:=by kernel_rfl
theorem aJT:prog.cellsOf 23=1:=by kernel_rfl
theorem aJU:prog.cellsOf 24=1:=by kernel_rfl
theorem aJV:prog.cellsOf 66=1:=by kernel_rfl
theorem aJW:prog.cellsOf 26=3:=by kernel_rfl
theorem xQ:prog.cellsOf 28=8:=by kernel_rfl
theorem xR:prog.cellsOf 68=4:=by kernel_rfl
theorem xS:prog.cellsOf 95=3:=by kernel_rfl
theorem xT:prog.cellsOf 97=2:=by kernel_rfl
theorem jQ {n:Int} (h:(Lit.int .i64 n).wf=true):I64 n:=by simp[Lit.wf,IntKind.min,IntKind.max,IntKind.signed,IntKind.bits]at h;unfold I64;omega
theorem aTF {H:Type} (d:DataW H):1<=Rows.uptoBulk d:=by
 cases d with
 |lit l=>cases l<;>simp[Rows.uptoBulk]
 |nil=>simp[Rows.uptoBulk]
 |ptr d=>simp[Rows.uptoBulk]
 |slice elems spare=>simp[Rows.uptoBulk]
 |agg parts=>simp[Rows.uptoBulk]
 |iface t d=>simp[Rows.uptoBulk]
 |map entries=>simp[Rows.uptoBulk]
 |held h=>simp[Rows.uptoBulk]
theorem gW {H:Type} {d:DataW H}:∀{l:List (DataW H)},d∈l->Rows.uptoBulk d<=Rows.uptoBulkAll l
 |[],h=>by cases h
 | x::r,h=>by
   simp only[Rows.uptoBulkAll];rcases mem_cons.1 h with rfl|h
   .omega
   have:=gW h;omega
theorem aHC {H:Type}:∀(l:List (DataW H)),l.length<=Rows.uptoBulkAll l
 |[]=>by simp
 | x::r=>by simp only[Rows.uptoBulkAll,zK];have h1:=aTF x;have h2:=aHC r;omega
theorem pH {H:Type} {d:DataW H} {l:List (DataW H)} (h:d∈l):Rows.uptoBulk d<=Rows.uptoBulk (.agg l):=by have:=gW h;simp only[Rows.uptoBulk];omega
section
variable {H:Type} {enc:TypeId × Value->H} {W:World} {base:Nat} {sp:Nat->Bool} {hd:Bool}
theorem kM {t e k:Nat} (hsl:prog.underlying t=some (.slice e)) (hk:prog.cellsOf e=k) (hk0:0<k) {α:Type} (cells:α->List Value) (Good:Nat->α->Prop) (hmono:∀m n x,m<=n->Good m x->Good n x) (hlen:∀x,(cells x).length=k)
 (hel:∀fuel cs y,DataW.trod enc prog W base sp hd fuel e cs=some y->∃x,cs=cells x/\Good (Rows.uptoBulk y.1) x)
 {fuel:Nat} {cs:List Value} {y:DataW H × List MemPlace} (h:DataW.trod enc prog W base sp hd fuel t cs=some y):∃(v:Value) (zs:List α),cs=[v]/\RowAt W k v (zs.map cells)/\(∀z∈zs,Good (Rows.uptoBulk y.1) z)/\zs.length<=Rows.uptoBulk y.1:=by
 rcases open_slice hsl h with⟨e1,_⟩|⟨a,len,cap,m,n,D,Pl,e1,_,hl,hm,hmm,ey,hall⟩
 .exact⟨_,[],e1,⟨none,0,rfl,Nat.zero_le _,λh=>absurd h (by simp)⟩,λz hz=>(by cases hz),Nat.zero_le _⟩
 have a2:Rows.uptoBulkAll ((List.range len).map D)+Rows.uptoBulkAll ((List.range (m-len)).map λj=>D (len+j))+1=Rows.uptoBulk y.1:=by rw[ey];simp only[Rows.uptoBulk]
 have hx:∀i:Fin len,∃x,W.cells? base (a.add (i.1*k)) k=some (cells x)/\Good (Rows.uptoBulk y.1) x:=λi=>by
  have a0:i.1<m:=by rw[hmm];have:=i.2;split<;>omega
  obtain⟨cs',h1,h2⟩:=hall i.1 a0;obtain⟨x,rfl,hg⟩:=hel _ _ _ h2;rw[hk]at h1;have hp:=gW (d:=D i.1) (l:=(List.range len).map D) (mem_map.2 ⟨i.1,mem_range.2 i.2,rfl⟩);exact⟨x,h1,hmono _ _ x (by simp only;omega) hg⟩
 obtain⟨g,hg⟩:=Classical.axiomOfChoice hx;refine⟨_,List.ofFn g,e1,⟨some a,cap,by rw[lM,length_ofFn],by rw[lM,length_ofFn];omega,λh0=>?_⟩,λz hz=>?_,?_⟩
 .rw [lM,length_ofFn]at h0;obtain⟨b,off,spot⟩:=a;have c0:=(World.cells?_some (hg ⟨0,h0⟩).1).2.2 0 hk0;obtain⟨u,hu⟩:∃u,(cells (g ⟨0,h0⟩))[0]? =some u:=⟨_,gE (by rw[hlen];exact hk0)⟩
  rw [hu]at c0;have a1:spot=none:=by
   cases spot with
   |none=>rfl
   | some s=>
     simp only[Nat.zero_mul,Addr.add,if_true]at c0;unfold World.cell? at c0;split at c0<;>simp at c0
  subst a1;refine⟨b,off,rfl,?_,λq cs hq t u hu=>?_⟩
  .simp only[Nat.zero_mul,Addr.add,if_true]at c0;exact World.block_lt_of_cell? _ _ c0
  rw [gM,List.getElem?_ofFn]at hq;split at hq
  .rename_i hql
   simp only[Option.map_some,zF]at hq;subst hq;have ht:t<k:=by obtain⟨h,_⟩:=gI.1 hu;rw[hlen]at h;exact h
   have c1:=(World.cells?_some (hg ⟨q,hql⟩).1).2.2 t ht;rw[hu]at c1;have ea:((⟨b,off,none⟩:Addr).add (q*k)).add t=⟨b,off+q*k+t,none⟩:=by rw[Addr.add_add,Addr.add_lit,Nat.add_assoc]
   rw[ea]at c1;exact c1
  simp at hq
 .obtain⟨i,rfl⟩:=mem_ofFn.1 hz;exact(hg i).2
 rw[length_ofFn];have:=aHC ((List.range len).map D);rw[lM,length_range]at this;omega
theorem aTG {fuel:Nat} {cs:List Value} {y:DataW H × List MemPlace} (h:DataW.trod enc prog W base sp hd fuel 97 cs=some y):∃x:PEnt,cs=x.cells/\I64 x.num:=by
 obtain⟨xs,n,_,_,hl,hxs,hf⟩:=DataW.trod_struct underlying97 h;rw[xT]at hl;have h0:DataW.trod enc prog W base sp hd n 9 ((cs.drop 0).take (prog.cellsOf 9))=xs[0]? :=hf 0 _ rfl;have h1:DataW.trod enc prog W base sp hd n 3 ((cs.drop 1).take (prog.cellsOf 3))=xs[1]? :=hf 1 _ rfl
 match cs,hl with
 | [c0,c1],_=>
   match xs,hxs with
   | [y0,y1],_=>simp only[jZ,pZ,List.drop,List.take,zH,zV]at h0 h1;obtain⟨a,e0,_,_⟩:=DataW.trod_string underlying9 h0;obtain⟨b,e1,_,wf⟩:=DataW.trod_int underlying3 h1;simp only[List.cons.injEq,and_true]at e0 e1;exact⟨⟨a,b⟩,by rw[e0,e1];rfl,jQ wf⟩
theorem aOW {fuel:Nat} {cs:List Value} {y:DataW H × List MemPlace} (h:DataW.trod enc prog W base sp hd fuel 95 cs=some y):∃x:PDesc,cs=x.cells/\I64 x.core/\I64 x.fd/\I64 x.num:=by
 obtain⟨xs,n,_,_,hl,hxs,hf⟩:=DataW.trod_struct underlying95 h;rw[xS]at hl;have h0:DataW.trod enc prog W base sp hd n 3 ((cs.drop 0).take (prog.cellsOf 3))=xs[0]? :=hf 0 _ rfl;have h1:DataW.trod enc prog W base sp hd n 3 ((cs.drop 1).take (prog.cellsOf 3))=xs[1]? :=hf 1 _ rfl;have h2:DataW.trod enc prog W base sp hd n 3 ((cs.drop 2).take (prog.cellsOf 3))=xs[2]? :=hf 2 _ rfl
 match cs,hl with
 | [c0,c1,c2],_=>
   match xs,hxs with
   | [y0,y1,y2],_=>simp only[jZ,List.drop,List.take,zH,zV]at h0 h1 h2;obtain⟨a,e0,_,w0⟩:=DataW.trod_int underlying3 h0;obtain⟨b,e1,_,w1⟩:=DataW.trod_int underlying3 h1;obtain⟨c,e2,_,w2⟩:=DataW.trod_int underlying3 h2;simp only[List.cons.injEq,and_true]at e0 e1 e2;exact⟨⟨a,b,c⟩,by rw[e0,e1,e2];rfl,jQ w0,jQ w1,jQ w2⟩
structure RIn (W:World) where
 r:IRec
 x:PIn
 is:r.is W x
theorem aWK {fuel:Nat} {cs:List Value} {y:DataW H × List MemPlace} (h:DataW.trod enc prog W base sp hd fuel 68 cs=some y):∃z:RIn W,cs=z.r.cells/\I64 z.x.num/\(∀e∈z.x.ents,I64 e.num)/\z.x.ents.length<=Rows.uptoBulk y.1:=by
 obtain⟨xs,n,_,ey,hl,hxs,hf⟩:=DataW.trod_struct underlying68 h;rw[xR]at hl;have h0:DataW.trod enc prog W base sp hd n 3 ((cs.drop 0).take (prog.cellsOf 3))=xs[0]? :=hf 0 _ rfl;have h1:DataW.trod enc prog W base sp hd n 4 ((cs.drop 1).take (prog.cellsOf 4))=xs[1]? :=hf 1 _ rfl;have h2:DataW.trod enc prog W base sp hd n 66 ((cs.drop 2).take (prog.cellsOf 66))=xs[2]? :=hf 2 _ rfl;have h3:DataW.trod enc prog W base sp hd n 9 ((cs.drop 3).take (prog.cellsOf 9))=xs[3]? :=hf 3 _ rfl
 match cs,hl with
 | [c0,c1,c2,c3],_=>
   match xs,hxs with
   | [y0,y1,y2,y3],_=>
     simp only[jZ,aOV,pZ,aJV,List.drop,List.take,zH,zV]at h0 h1 h2 h3;obtain⟨a,e0,_,w0⟩:=DataW.trod_int underlying3 h0;obtain⟨b,e1,_⟩:=DataW.trod_bool underlying4 h1;obtain⟨v,es,e2,hrow,hes,hel⟩:=kM underlying66 xT (by decide) PEnt.cells (λ_ x=>I64 x.num) (λ_ _ _ _ h=>h) (λ_=>rfl) (λ_ _ _ h=>aTG h) h2;obtain⟨s,e3,_,w3⟩:=DataW.trod_string underlying9 h3;simp only[List.cons.injEq,and_true]at e0 e1 e2 e3;have hp:Rows.uptoBulk y2.1<=Rows.uptoBulk y.1:=by rw[ey];exact pH (by simp)
     exact⟨⟨⟨a,b,v,s,hrow.one⟩,⟨a,b,es,s⟩,⟨rfl,rfl,rfl,hrow⟩⟩,by rw[e0,e1,e2,e3];rfl,jQ w0,hes,zD hel hp⟩
def PSt.nums64 (S:PSt):Prop:=(∀x∈S.ins,I64 x.num/\∀e∈x.ents,I64 e.num)/\(∀d∈S.op,I64 d.core/\I64 d.fd/\I64 d.num)/\∀m∈S.made,I64 m
def PSt.lens (S:PSt) (n:Nat):Prop:=S.ins.length<=n/\S.op.length<=n/\S.made.length<=n/\∀x∈S.ins,x.ents.length<=n
theorem aJX {fuel:Nat} {cs:List Value} {y:DataW H × List MemPlace} (h:DataW.trod enc prog W base sp hd fuel 26 cs=some y):∃(iv ov mv:Value) (S:PSt),cs=[iv,ov,mv]/\StRead W iv ov mv S/\S.nums64/\S.lens (Rows.uptoBulk y.1):=by
 obtain⟨xs,n,_,ey,hl,hxs,hf⟩:=DataW.trod_struct underlying26 h;rw[aJW]at hl;have h0:DataW.trod enc prog W base sp hd n 22 ((cs.drop 0).take (prog.cellsOf 22))=xs[0]? :=hf 0 _ rfl;have h1:DataW.trod enc prog W base sp hd n 23 ((cs.drop 1).take (prog.cellsOf 23))=xs[1]? :=hf 1 _ rfl;have h2:DataW.trod enc prog W base sp hd n 24 ((cs.drop 2).take (prog.cellsOf 24))=xs[2]? :=hf 2 _ rfl
 match cs,hl with
 | [c0,c1,c2],_=>
   match xs,hxs with
   | [y0,y1,y2],_=>
     simp only[aJS,aJT,aJU,List.drop,List.take,zH,zV]at h0 h1 h2;obtain⟨iv,zs,e0,hr0,hg0,hl0⟩:=kM (α:=RIn W) underlying22 xR (by decide) (λz=>z.r.cells) (λn z=>I64 z.x.num/\(∀e∈z.x.ents,I64 e.num)/\z.x.ents.length<=n) (λ_ _ _ h g=>⟨g.1,g.2.1,zD g.2.2 h⟩) (λ_=>rfl) (λ_ _ _ h=>aWK h) h0;obtain⟨ov,ds,e1,hr1,hg1,hl1⟩:=kM underlying23 xS (by decide) PDesc.cells (λ_ x=>I64 x.core/\I64 x.fd/\I64 x.num) (λ_ _ _ _ h=>h) (λ_=>rfl) (λ_ _ _ h=>aOW h) h1;obtain⟨mv,ms,e2,hr2,hg2,hl2⟩:=kM underlying24 jZ (by decide) aJ (λ_=>I64) (λ_ _ _ _ h=>h) (λ_=>rfl) (λ_ _ _ h=>by
      obtain⟨a,e0,_,w0⟩:=DataW.trod_int underlying3 h;exact⟨a,e0,jQ w0⟩) h2
     simp only[List.cons.injEq,and_true]at e0 e1 e2;have p0:Rows.uptoBulk y0.1<=Rows.uptoBulk y.1:=by rw[ey];exact pH (by simp)
     have p1:Rows.uptoBulk y1.1<=Rows.uptoBulk y.1:=by rw[ey];exact pH (by simp)
     have p2:Rows.uptoBulk y2.1<=Rows.uptoBulk y.1:=by rw[ey];exact pH (by simp)
     refine⟨iv,ov,mv,⟨zs.map RIn.x,ds,ms⟩,by rw[e0,e1,e2],⟨hr1,hr2,zs.map RIn.r,by rw[map_map];exact hr0,by simp,λq r x hq hx=>?_⟩,⟨λx hx=>?_,hg1,hg2⟩,⟨by rw[lM];exact zD hl0 p0,zD hl1 p1,zD hl2 p2,λx hx=>?_⟩⟩
     .simp only[gM]at hq hx;rcases e:zs[q]? with _|z
      .rw[e]at hq;cases hq
      rw[e]at hq hx;cases hq;cases hx;exact z.is
     .obtain⟨z,hz,rfl⟩:=mem_map.1 hx;exact⟨(hg0 z hz).1,(hg0 z hz).2.1⟩
     obtain⟨z,hz,rfl⟩:=mem_map.1 hx;exact zD (hg0 z hz).2.2 p0
theorem aOX {fuel:Nat} {cs:List Value} {y:DataW H × List MemPlace} (h:DataW.trod enc prog W base sp hd fuel 28 cs=some y):
 ∃(k c f o n:Int) (p q d:ByteArray),cs=[.int .i64 k,.int .i64 c,.int .i64 f,.int .i64 o,.int .i64 n,.string p,.string q,.string d]/\(I64 k/\I64 c/\I64 f/\I64 o/\I64 n)/\p.size<=maxLen/\q.size<=maxLen/\d.size<=maxLen:=by
 obtain⟨xs,n,_,_,hl,hxs,hf⟩:=DataW.trod_struct underlying28 h;rw[xQ]at hl;have h0:DataW.trod enc prog W base sp hd n 3 ((cs.drop 0).take (prog.cellsOf 3))=xs[0]? :=hf 0 _ rfl;have h1:DataW.trod enc prog W base sp hd n 3 ((cs.drop 1).take (prog.cellsOf 3))=xs[1]? :=hf 1 _ rfl;have h2:DataW.trod enc prog W base sp hd n 3 ((cs.drop 2).take (prog.cellsOf 3))=xs[2]? :=hf 2 _ rfl;have h3:DataW.trod enc prog W base sp hd n 3 ((cs.drop 3).take (prog.cellsOf 3))=xs[3]? :=hf 3 _ rfl;have h4:DataW.trod enc prog W base sp hd n 3 ((cs.drop 4).take (prog.cellsOf 3))=xs[4]? :=hf 4 _ rfl;have h5:DataW.trod enc prog W base sp hd n 9 ((cs.drop 5).take (prog.cellsOf 9))=xs[5]? :=hf 5 _ rfl;have h6:DataW.trod enc prog W base sp hd n 9 ((cs.drop 6).take (prog.cellsOf 9))=xs[6]? :=hf 6 _ rfl;have h7:DataW.trod enc prog W base sp hd n 9 ((cs.drop 7).take (prog.cellsOf 9))=xs[7]? :=hf 7 _ rfl
 match cs,hl with
 | [c0,c1,c2,c3,c4,c5,c6,c7],_=>
   match xs,hxs with
   | [y0,y1,y2,y3,y4,y5,y6,y7],_=>simp only[jZ,pZ,List.drop,List.take,zH,zV]at h0 h1 h2 h3 h4 h5 h6 h7;obtain⟨a0,e0,_,w0⟩:=DataW.trod_int underlying3 h0;obtain⟨a1,e1,_,w1⟩:=DataW.trod_int underlying3 h1;obtain⟨a2,e2,_,w2⟩:=DataW.trod_int underlying3 h2;obtain⟨a3,e3,_,w3⟩:=DataW.trod_int underlying3 h3;obtain⟨a4,e4,_,w4⟩:=DataW.trod_int underlying3 h4;obtain⟨a5,e5,_,w5⟩:=DataW.trod_string underlying9 h5;obtain⟨a6,e6,_,w6⟩:=DataW.trod_string underlying9 h6;obtain⟨a7,e7,_,w7⟩:=DataW.trod_string underlying9 h7;simp only[List.cons.injEq,and_true]at e0 e1 e2 e3 e4 e5 e6 e7;exact⟨a0,a1,a2,a3,a4,a5,a6,a7,by rw[e0,e1,e2,e3,e4,e5,e6,e7],⟨jQ w0,jQ w1,jQ w2,jQ w3,jQ w4⟩,w5,w6,w7⟩
end
end
def qQ (T:Nat->Nat->Bool) (l e:Nat) (inn:List Bool):List Bool:=inn.set e (inn.getD e false||(inn.getD l false&&T e l))
def dG (T:Nat->Nat->Bool) (l:Nat):Nat->Nat->List Bool->List Bool
 |0,_,inn=>inn
 |n+1,e,inn=>dG T l n (e+1) (qQ T l e inn)
def kG (T:Nat->Nat->Bool):Nat->List Bool->List Bool
 |0,inn=>inn
 |l+1,inn=>kG T l (dG T l l 0 inn)
def aLO (T:Nat->Nat->Bool) (inn:List Bool):Bool:=(List.range inn.length).all λl=>(List.range l).all λe=>!(inn.getD l false&&!inn.getD e false&&T e l)
theorem aNK (T:Nat->Nat->Bool) (l e:Nat) (inn:List Bool):(qQ T l e inn).length=inn.length:=by unfold qQ;rw[yB]
theorem wO (T:Nat->Nat->Bool) (l:Nat):∀(n e:Nat) (inn:List Bool),(dG T l n e inn).length=inn.length
 |0,_,_=>rfl
 |n+1,e,inn=>by unfold dG;rw[wO T l n,aNK]
theorem wP (T:Nat->Nat->Bool):∀(l:Nat) (inn:List Bool),(kG T l inn).length=inn.length
 |0,_=>rfl
 |l+1,inn=>by unfold kG;rw[wP T l,wO]
def kH (n:Nat):List Int->List Bool->List Bool
 |[],inn=>inn
 |k::r,inn=>kH n r (if 0<=k/\k<n then inn.set k.toNat true else inn)
theorem tH (n:Nat):∀(l:List Int) (inn:List Bool),(kH n l inn).length=inn.length
 |[],_=>rfl
 | k::r,inn=>by
   unfold kH;rw[tH n r];split
   .rw[yB]
   rfl
structure PKey where
 num:Int
 name:ByteArray
deriving DecidableEq
def PKey.cells (k:PKey):List Value:=[.int .i64 k.num,.string k.name]
theorem aTL:∀(es:List PKey),∀cs∈es.map PKey.cells,cs.length=2:=by intro es cs h;obtain⟨r,_,rfl⟩:=mem_map.1 h;rfl
theorem aHG:∀(is:List PKey),∀cs∈is.map PKey.cells,∀u∈cs,u.oneCell'=true:=by
 intro is cs h u hu;obtain⟨r,_,rfl⟩:=mem_map.1 h;simp only[PKey.cells,mem_cons,not_mem_nil,or_false]at hu;rcases hu with rfl|rfl<;>rfl
def gN (x y:PKey):Bool:=(x.num==y.num)&&(decide (x.name.size=0)||decide (y.name.size=0)||(decide (x.name=y.name)&&!decide (x.name=⟨#[46]⟩)))
def eZ (a b:List PKey):Bool:=a.any λx=>b.any λy=>gN x y
theorem gJ {a b:Bool} (h:a=b):Ending.returned (.bool a)=Ending.returned (.bool b):=by rw[h]
theorem aEM {k:IntKind} {a b:Int} (h:a=b):Ending.returned (.int k a)=Ending.returned (.int k b):=by rw[h]
theorem bBI (e:Int) (w:World):Calls prog 35 #[e] w λr w'=>r=.returned (.int .i64 e)/\Bl w w':=by go_in;go_wp2;go_ret;exact gAC
theorem sW {α:Type} (p:α->Bool) (l:List α) (q:Nat) {x:α} (h:l[q]? =some x):(l.drop q).any p=(p x||(l.drop (q+1)).any p):=by obtain⟨hl,rfl⟩:=gI.1 h;rw[yH hl,any_cons]
theorem vV {α:Type} (p:α->Bool) (l:List α) (q:Nat) (h:¬q<l.length):(l.drop q).any p=false:=by rw[drop_eq_nil_of_le (by omega)];rfl
theorem lL (a:ByteArray):a.toList=a.data.toList:=by exact zW a
theorem kV (x y:PKey):gN x y=((x.num==y.num)&&(x.name.toList.isEmpty||y.name.toList.isEmpty||((x.name.toList==y.name.toList)&&!(x.name.toList==[46])))):=by
 have h1:∀a:ByteArray,decide (a.size=0)=a.toList.isEmpty:=λa=>by
  rw[lL,Bool.eq_iff_iff,decide_eq_true_iff,isEmpty_iff];rcases a with⟨⟨l⟩⟩
  show l.length=0↔l=[];exact length_eq_zero_iff
 have h2:∀a b:ByteArray,decide (a=b)=(a.toList==b.toList):=λa b=>by
  rw[lL,lL,Bool.eq_iff_iff,decide_eq_true_iff,beq_iff_eq];exact⟨λh=>by rw[h],λh=>by
   rcases a with⟨⟨l⟩⟩
   rcases b with⟨⟨m⟩⟩
   cases h;rfl⟩
 unfold gN;rw[h1,h1,h2,h2,lL ⟨#[46]⟩]
theorem vW (ks bs:List PKey) (va vb:Value) (w:World) (ha:RowAt w 2 va (ks.map PKey.cells)) (hb:RowAt w 2 vb (bs.map PKey.cells)):
 vR w 17 #[va,vb] (.bool (eZ ks bs)):=by
 have a3:ks.length<=9223372036854775807:=by obtain⟨_,_,_,h,_⟩:=ha;rw[lM]at h;exact h
 have a4:bs.length<=9223372036854775807:=by obtain⟨_,_,_,h,_⟩:=hb;rw[lM]at h;exact h
 obtain⟨aa,ca,rfl,hata⟩:=ha.at_;obtain⟨ab,cb,rfl,hatb⟩:=hb.at_;rw[lM,lM];have HA:=bJ hata hatb;clear hata hatb ha hb;unfold eZ;generalize hR:(ks.any λx=>bs.any λy=>gN x y)=R;have HR:=aC hR;clear hR;unfold vR;go_in;go_wp2
 go_loopw[11] (λvi wr=>∃q:Nat,vi=.int .i64 q/\q<=ks.length/\((ks.drop q).any λx=>bs.any λy=>gN x y)=R/\Bl w wr) (λvi _=>(ks.length-intOf vi).toNat)
 case atStart=>exact⟨0,rfl,by omega,by simpa using HR.out,bel _ _⟩
 obtain⟨q,rfl,hq,hre,hbr⟩:=hrel
 rename World=>wo
 have iB:Bel w wo:=⟨hbr⟩;by_cases hlt:q<ks.length
 .obtain⟨x,hx⟩:=gAA hlt
  rw[sW _ _ _ hx]at hre;obtain⟨be,offe,rfl,iE0,iE,hce⟩:=HA.out.1 wo hbr q x.cells (by rw[gM,hx];rfl);have e0:=hce 0 _ rfl;have e1:=hce 1 _ rfl;rw[zN]at e0;have a1:=aC hre;clear hre hce hx;go_wp2
  go_loopw[17] (λvi w2=>∃k:Nat,vi=.int .i64 k/\k<=bs.length/\((bs.drop k).any λy=>gN x y)=(bs.any λy=>gN x y)/\Bl wo w2/\Blk w2 wo.heap.size #[x.num,x.name] 61) (λvi _=>(bs.length-intOf vi).toNat)
  case atStart=>exact⟨0,rfl,by omega,rfl,bel _ _,Blk.new _ _ _⟩
  obtain⟨k,rfl,hk,hre2,hb2,hblk⟩:=hrel;have a2:Bel w wr:=⟨hbr.trans (hb2.mono hbr.size)⟩;have a5:Bel wo wr:=⟨hb2⟩;have z0:wr.cell? wo.heap.size=some (.int .i64 x.num):=hblk.cell 0;have z1:wr.cell? ⟨wo.heap.size,1,none⟩=some (.string x.name):=hblk.cell 1;have iK:=hblk.lt;have HK:=aC hblk;by_cases hlk:k<bs.length
  .obtain⟨y,hy⟩:=gAA hlk
   rw[sW _ _ _ hy]at hre2;obtain⟨bf,offf,rfl,iF0,iF,hcf⟩:=HA.out.2 wr a2.below k y.cells (by rw[gM,hy];rfl);have f0:=hcf 0 _ rfl;have f1:=hcf 1 _ rfl;rw[zN]at f0;have a0:=aC hre2;clear hre2 hcf hy hblk;rcases g1:(x.num==y.num)with _|_
   .have hm:gN x y=false:=by rw[kV,g1];rfl
    go_wp2;go_roundw
    case rel=>exact⟨k+1,by go_num,by omega,by have:=a0.out;rw[hm,Bool.false_or]at this;exact this,bel _ _,HK.out.alloc _⟩
    simp[intOf];omega
   rcases g2:x.name.toList.isEmpty with _|_;rotate_left
   .have hm:gN x y=true:=by rw[kV,g1,g2];rfl
    go_wp2;go_ret;exact⟨gJ (by have h1:=a0.out;rw[hm,Bool.true_or]at h1;have h2:=a1.out;rw[<-h1,Bool.true_or]at h2;exact h2),bel _ _⟩
   rcases g3:y.name.toList.isEmpty with _|_;rotate_left
   .have hm:gN x y=true:=by rw[kV,g1,g2,g3];rfl
    go_wp2;go_ret;exact⟨gJ (by have h1:=a0.out;rw[hm,Bool.true_or]at h1;have h2:=a1.out;rw[<-h1,Bool.true_or]at h2;exact h2),bel _ _⟩
   rcases g5:(x.name.toList==y.name.toList)with _|_
   .have hm:gN x y=false:=by rw[kV,g1,g2,g3,g5];rfl
    go_wp2;go_roundw
    case rel=>exact⟨k+1,by go_num,by omega,by have:=a0.out;rw[hm,Bool.false_or]at this;exact this,bel _ _,HK.out.alloc _⟩
    simp[intOf];omega
   rcases g4:(x.name.toList==[46])with _|_
   .have hm:gN x y=true:=by rw[kV,g1,g2,g3,g5,g4];rfl
    go_wp2;go_ret;exact⟨gJ (by have h1:=a0.out;rw[hm,Bool.true_or]at h1;have h2:=a1.out;rw[<-h1,Bool.true_or]at h2;exact h2),bel _ _⟩
   have hm:gN x y=false:=by rw[kV,g1,g2,g3,g5,g4];rfl
   go_wp2;go_roundw
   case rel=>exact⟨k+1,by go_num,by omega,by have:=a0.out;rw[hm,Bool.false_or]at this;exact this,bel _ _,HK.out.alloc _⟩
   simp[intOf];omega
  rw[vV _ _ _ hlk]at hre2;have a0:=aC hre2;clear hblk hre2;go_wp2;go_roundw
  case rel=>exact⟨q+1,by go_num,by omega,by have:=a1.out;rw[<-a0.out]at this;simpa using this,a2.below⟩
  simp[intOf];omega
 rw[vV _ _ _ hlt]at hre;subst hre;go_wp2;go_ret;exact gAC
theorem aIM (a:Int) (w:World):Calls prog 116 #[a] w λe w'=>e=.returned (.bool false)/\w'=w:=by go_in;go_wp2;go_ret;exact⟨rfl,rfl⟩
theorem aIN (a:ByteArray) (w:World):Calls prog 117 #[a] w λe w'=>e=.returned (.bool false)/\w'=w:=by go_in;go_wp2;go_ret;exact⟨rfl,rfl⟩
theorem bAH (a b:Int) (w:World):Calls prog 78 #[a,b] w λe w'=>e=.returned (.int .i64 (jS a b))/\w'=w:=by
 unfold jS;by_cases h1:a<b
 .rw[zB h1]
  go_in;go_wp2_with(go_at_call 116;refine(aIM _ _).mono ?_;rintro e w' ⟨rfl,rfl⟩);go_ret;exact⟨rfl,rfl⟩
 rw[zA h1];by_cases h2:b<a
 .rw[zB h2]
  go_in;go_wp2_with(go_at_call 116;refine(aIM _ _).mono ?_;rintro e w' ⟨rfl,rfl⟩);go_ret;exact⟨rfl,rfl⟩
 rw[zA h2];go_in;go_wp2_with(go_at_call 116;refine(aIM _ _).mono ?_;rintro e w' ⟨rfl,rfl⟩);go_ret;exact⟨rfl,rfl⟩
theorem aQZ (a b:ByteArray):Op.bytesLess a.toList b.toList=decide (dJ a b<0):=by
 unfold dJ;rw[zW,zW];generalize a.data.toList=x;generalize b.data.toList=y
 induction x generalizing y with
 | nil=>
   cases y with
   |nil=>simp[Op.bytesLess,Lib.compareBytes]
   |cons d y=>simp[Op.bytesLess,Lib.compareBytes]
 | cons c x ih=>
   cases y with
   |nil=>simp[Op.bytesLess,Lib.compareBytes]
   | cons d y=>
     simp only[Op.bytesLess,Lib.compareBytes];by_cases h1:c<d
     .simp[h1]
     by_cases h2:d<c
     .simp[h1,h2];intro e;subst e;exact absurd h2 (UInt8.lt_irrefl _)
     have:c=d:=UInt8.le_antisymm (UInt8.not_lt.1 h2) (UInt8.not_lt.1 h1);subst this;simp[ih]
theorem aIO (a b:ByteArray):dJ a b=-1\/dJ a b=0\/dJ a b=1:=by
 unfold dJ;generalize a.data.toList=x;generalize b.data.toList=y
 induction x generalizing y with
 |nil=>cases y<;>simp[Lib.compareBytes]
 | cons c x ih=>
   cases y with
   |nil=>simp[Lib.compareBytes]
   | cons d y=>
     simp only[Lib.compareBytes];split
     .simp
     split
     .simp
     exact ih y
theorem aVK (a b:ByteArray):dJ a b=0↔a=b:=by
 have key :∀x y:List UInt8,Lib.compareBytes x y=0↔x=y:=by
  intro x
  induction x with
  |nil=>intro y;cases y<;>simp[Lib.compareBytes]
  | cons c x ih=>
    intro y;cases y with
    |nil=>simp[Lib.compareBytes]
    | cons d y=>
      simp only[Lib.compareBytes];by_cases h1:c<d
      .rw[zB h1];constructor
       .intro h;cases h
       intro h;injection h with h _;subst h;exact absurd h1 (UInt8.lt_irrefl c)
      rw[zA h1];by_cases h2:d<c
      .rw[zB h2];constructor
       .intro h;cases h
       intro h;injection h with h _;subst h;exact absurd h2 (UInt8.lt_irrefl c)
      rw[zA h2,ih];have:c=d:=UInt8.le_antisymm (UInt8.not_lt.1 h2) (UInt8.not_lt.1 h1);simp[this]
 unfold dJ;rw[key];constructor
 .intro h;rcases a with⟨⟨l⟩⟩
  rcases b with⟨⟨m⟩⟩
  cases h;rfl
 intro h;rw[h]
theorem bAI (a b:ByteArray) (w:World):Calls prog 79 #[a,b] w λe w'=>e=.returned (.int .i64 (dJ a b))/\w'=w:=by
 have hl:=aQZ a b;have he:(a.toList==b.toList)=decide (dJ a b=0):=by
  rw[Bool.eq_iff_iff,beq_iff_eq,decide_eq_true_iff,aVK,zW,zW];constructor
  .intro h;rcases a with⟨⟨l⟩⟩
   rcases b with⟨⟨m⟩⟩
   cases h;rfl
  intro h;rw[h]
 rcases aIO a b with h|h|h
 .have a0:Op.bytesLess a.toList b.toList=true:=by rw[hl,h];rfl
  have a1:(a.toList==b.toList)=false:=by rw[he,h];rfl
  rw[h];clear h hl he;go_in;go_wp2_with(go_at_call 117;refine(aIN _ _).mono ?_;rintro e w' ⟨rfl,rfl⟩);go_ret;exact⟨rfl,rfl⟩
 .have a0:Op.bytesLess a.toList b.toList=false:=by rw[hl,h];rfl
  have a1:(a.toList==b.toList)=true:=by rw[he,h];rfl
  rw[h];clear h hl he;go_in;go_wp2_with(go_at_call 117;refine(aIN _ _).mono ?_;rintro e w' ⟨rfl,rfl⟩);go_ret;exact⟨rfl,rfl⟩
 have a0:Op.bytesLess a.toList b.toList=false:=by rw[hl,h];rfl
 have a1:(a.toList==b.toList)=false:=by rw[he,h];rfl
 rw[h];clear h hl he;go_in;go_wp2_with(go_at_call 117;refine(aIN _ _).mono ?_;rintro e w' ⟨rfl,rfl⟩);go_ret;exact⟨rfl,rfl⟩
theorem bBN (b:Nat) (x y:Int) (w:World) (hb:Blk w b #[x,y] 3):Calls prog 77 #[.slice b 2 2] w λe w'=>e=.returned (.int .i64 (if x≠0 then x else y))/\w'=w:=by
 have ib:=hb.lt;have c0:w.cell? b=some (.int .i64 x):=hb.cell 0;have c1:w.cell? ⟨b,1,none⟩=some (.int .i64 y):=hb.cell 1;clear hb;obtain⟨R,hR⟩:=gAB ((if x≠0 then x else y));rw[hR];have HR:=aC hR;clear hR;go_in;go_wp2
 go_loopw[5,8] (λ_ vi wr=>wr=w/\∃q:Nat,vi=.int .i64 q/\q<=2/\(1<=q->x=0)/\(2<=q->y=0)) (λ_ vi _=>(2-intOf vi).toNat)
 case atStart=>exact⟨rfl,0,rfl,by omega,λh=>absurd h (by omega),λh=>absurd h (by omega)⟩
 obtain⟨rfl,q,rfl,hq,h1,h2⟩:=hrel;rcases q with _|_|_|q
 .rcases hx:(x !=0)with _|_
  .have HX:=aC hx;go_wp2
   go_roundw
   case rel=>exact⟨trivial,1,rfl,by omega,λ_=>by simpa using HX.out,λh=>absurd h (by omega)⟩
   simp[intOf]
  have e:R=x:=by rw[<-HR.out,zB (by simpa using hx)]
  go_wp2;go_ret;exact⟨aEM e.symm,rfl⟩
 .have HX:=aC (h1 (by omega));have e:R=y:=by rw[<-HR.out,zA (by rw[HX.out];simp)]
  rcases hy:(y !=0)with _|_
  .have HY:=aC hy;clear h1 h2;go_wp2
   go_roundw
   case rel=>exact⟨trivial,2,rfl,by omega,λ_=>HX.out,λ_=>by simpa using HY.out⟩
   simp[intOf]
  clear h1 h2;go_wp2;go_ret;exact⟨aEM e.symm,rfl⟩
 .have HX:=bJ (h1 (by omega)) (h2 (by omega));have e:R=0:=by rw[<-HR.out,zA (by rw[HX.out.1];simp),HX.out.2]
  clear h1 h2;go_wp2;go_ret;exact⟨aEM e.symm,rfl⟩
 omega
def aDZ (x y:PKey):Int:=if jS x.num y.num≠0 then jS x.num y.num else dJ x.name y.name
theorem aNI (x y:PKey) (w:World):Calls prog 76 #[.agg #[x.num,x.name],.agg #[y.num,y.name]] w λe w'=>e=.returned (.int .i64 (aDZ x y))/\∃q os,w'=Sort.grow (w.drewN q) os:=by
 unfold aDZ;have a0:=λww=>bAH x.num y.num ww;have a1:=λww=>bAI x.name y.name ww;generalize jS x.num y.num=c1 at a0 |-;generalize dJ x.name y.name=c2 at a1 |-;obtain⟨R,hR⟩:=gAB ((if c1≠0 then c1 else c2));have a2:∀b ww,Blk ww b #[c1,c2] 3->Calls prog 77 #[.slice (some ⟨b,0,none⟩) 2 2] ww λe w'=>e=.returned (.int .i64 R)/\w'=ww:=λb ww hb=>by rw[<-hR];exact bBN b c1 c2 ww hb
 rw[hR];clear hR;go_in;go_upto_region 1 with fail
 go_region_held3 (λw'=>w'.cell? w.heap.size=some (.int .i64 x.num)/\w'.cell? ⟨w.heap.size,1,none⟩=some (.string x.name)/\w'.cell? ⟨w.heap.size+1,0,none⟩=some (.int .i64 y.num)/\w'.cell? ⟨w.heap.size+1,1,none⟩=some (.string y.name))
  (first|(try dsimp only)<;>(repeat' apply And.intro)<;>go_simp)
  (first|(go_at_call 78;refine(a0 _).mono ?_;rintro e w' ⟨rfl,rfl⟩)|(go_at_call 79;refine(a1 _).mono ?_;rintro e w' ⟨rfl,rfl⟩)|(go_at_call 77;refine(a2 _ _ (by exact Blk.new_i _ _ _ _)).mono ?_;rintro e w' ⟨rfl,rfl⟩))
 all_goals go_wp2_with fail
 all_goals(go_ret;refine⟨rfl,1,#[.cells #[x.num,x.name] 61,.cells #[y.num,y.name] 61,.cells #[c1,c2] 3],?_⟩;rfl)
end Go.Proofs.YtmkapobnfigedaaGreatDoor
namespace Go.Proofs
open Go.Shelf
def Tryz.sort75_ren:Go.Shelf.Ren:=⟨λ|6=>75|15=>115|14=>114|28=>164|29=>165|20=>156|21=>157|22=>158|23=>159|24=>160|25=>161|26=>162|27=>163|46=>192|47=>193|48=>194|49=>195|50=>196|57=>209|n=>n,λ|22=>29|24=>61|25=>111|3=>3|39=>57|0=>0|53=>180|55=>146|4=>4|46=>174|45=>173|50=>159|5=>5|9=>9|66=>201|70=>205|76=>216|77=>77|n=>n,λ|n=>n⟩
theorem Tryz.sort75:Go.Proofs.SlLaysF0.n6 Tryz.prog Tryz.sort75_ren:={
 mixed:=by kernel_rfl
 f6:=⟨Tryz.f75.name,by decide,Tryz.func75.trans (congrArg some (by kernel_rfl))⟩
 f14:=⟨Tryz.f114.name,by decide,Tryz.func114.trans (congrArg some (by kernel_rfl))⟩
 f15:=Tryz.func115.trans (congrArg some (by kernel_rfl))
 f20:=⟨Tryz.f156.name,by decide,Tryz.func156.trans (congrArg some (by kernel_rfl))⟩
 f21:=⟨Tryz.f157.name,by decide,Tryz.func157.trans (congrArg some (by kernel_rfl))⟩
 f22:=⟨Tryz.f158.name,by decide,Tryz.func158.trans (congrArg some (by kernel_rfl))⟩
 f23:=⟨Tryz.f159.name,by decide,Tryz.func159.trans (congrArg some (by kernel_rfl))⟩
 f24:=⟨Tryz.f160.name,by decide,Tryz.func160.trans (congrArg some (by kernel_rfl))⟩
 f25:=⟨Tryz.f161.name,by decide,Tryz.func161.trans (congrArg some (by kernel_rfl))⟩
 f26:=⟨Tryz.f162.name,by decide,Tryz.func162.trans (congrArg some (by kernel_rfl))⟩
 f27:=⟨Tryz.f163.name,by decide,Tryz.func163.trans (congrArg some (by kernel_rfl))⟩
 f28:=Tryz.func164.trans (congrArg some (by kernel_rfl))
 f29:=Tryz.func165.trans (congrArg some (by kernel_rfl))
 f46:=⟨Tryz.f192.name,by decide,Tryz.func192.trans (congrArg some (by kernel_rfl))⟩
 f47:=Tryz.func193.trans (congrArg some (by kernel_rfl))
 f48:=Tryz.func194.trans (congrArg some (by kernel_rfl))
 f49:=⟨Tryz.f195.name,by decide,Tryz.func195.trans (congrArg some (by kernel_rfl))⟩
 f50:=⟨Tryz.f196.name,by decide,Tryz.func196.trans (congrArg some (by kernel_rfl))⟩
 f57:=⟨Tryz.f209.name,by decide,Tryz.func209.trans (congrArg some (by kernel_rfl))⟩
 t0:=Tryz.underlying0
 a0:=Tryz.isAgg0
 z0:=Tryz.sizeOf0
 v0:=Tryz.zeroValue0
 t3:=Tryz.underlying3
 a3:=Tryz.isAgg3
 z3:=Tryz.sizeOf3
 v3:=Tryz.zeroValue3
 t4:=Tryz.underlying4
 a4:=Tryz.isAgg4
 z4:=Tryz.sizeOf4
 v4:=Tryz.zeroValue4
 t5:=Tryz.underlying5
 a5:=Tryz.isAgg5
 z5:=Tryz.sizeOf5
 v5:=Tryz.zeroValue5
 t9:=Tryz.underlying9
 a9:=Tryz.isAgg9
 z9:=Tryz.sizeOf9
 v9:=Tryz.zeroValue9
 t22:=Tryz.underlying29
 a22:=Tryz.isAgg29
 z22:=Tryz.sizeOf29
 v22:=Tryz.zeroValue29
 t25:=Tryz.underlying111
 a25:=Tryz.isAgg111
 z25:=Tryz.sizeOf111
 v25:=Tryz.zeroValue111
 t39:=Tryz.underlying57
 a39:=Tryz.isAgg57
 z39:=Tryz.sizeOf57
 v39:=Tryz.zeroValue57
 t45:=Tryz.underlying173
 a45:=Tryz.isAgg173
 z45:=Tryz.sizeOf173
 v45:=Tryz.zeroValue173
 t46:=Tryz.underlying174
 a46:=Tryz.isAgg174
 z46:=Tryz.sizeOf174
 v46:=Tryz.zeroValue174
 t50:=Tryz.underlying159
 a50:=Tryz.isAgg159
 z50:=Tryz.sizeOf159
 v50:=Tryz.zeroValue159
 t53:=Tryz.underlying180
 a53:=Tryz.isAgg180
 z53:=Tryz.sizeOf180
 v53:=Tryz.zeroValue180
 t55:=Tryz.underlying146
 a55:=Tryz.isAgg146
 z55:=Tryz.sizeOf146
 v55:=Tryz.zeroValue146
 t66:=Tryz.underlying201
 a66:=Tryz.isAgg201
 z66:=Tryz.sizeOf201
 v66:=Tryz.zeroValue201
 t70:=Tryz.underlying205
 a70:=Tryz.isAgg205
 z70:=Tryz.sizeOf205
 v70:=Tryz.zeroValue205
 t76:=Tryz.underlying216
 a76:=Tryz.isAgg216
 z76:=Tryz.sizeOf216
 v76:=Tryz.zeroValue216
 t77:=Tryz.underlying77
 a77:=Tryz.isAgg77
 z77:=Tryz.sizeOf77
 v77:=Tryz.zeroValue77}
def Tryz.lays171_ren:Go.Shelf.Ren:=⟨λ|171=>151|243=>189|246=>208|283=>216|284=>217|285=>218|286=>219|129=>165|317=>224|318=>225|319=>226|320=>227|337=>229|338=>230|n=>n,λ|3=>3|9=>9|2=>2|4=>4|171=>219|0=>0|53=>146|37=>147|5=>5|173=>221|212=>226|51=>180|20=>20|213=>227|46=>57|232=>229|233=>230|n=>n,λ|17=>1|18=>2|19=>3|n=>n⟩
theorem Tryz.lays171:Go.Proofs.Lays.n171 Tryz.prog Tryz.lays171_ren:={
 mixed:=by kernel_rfl
 f129:=Tryz.func165.trans (congrArg some (by kernel_rfl))
 f171:=Tryz.func151.trans (congrArg some (by kernel_rfl))
 f243:=Tryz.func189.trans (congrArg some (by kernel_rfl))
 f246:=Tryz.func208.trans (congrArg some (by kernel_rfl))
 f283:=Tryz.func216.trans (congrArg some (by kernel_rfl))
 f284:=Tryz.func217.trans (congrArg some (by kernel_rfl))
 f285:=Tryz.func218.trans (congrArg some (by kernel_rfl))
 f286:=Tryz.func219.trans (congrArg some (by kernel_rfl))
 f317:=Tryz.func224.trans (congrArg some (by kernel_rfl))
 f318:=Tryz.func225.trans (congrArg some (by kernel_rfl))
 f319:=Tryz.func226.trans (congrArg some (by kernel_rfl))
 f320:=Tryz.func227.trans (congrArg some (by kernel_rfl))
 f337:=Tryz.func229.trans (congrArg some (by kernel_rfl))
 f338:=Tryz.func230.trans (congrArg some (by kernel_rfl))
 t0:=Tryz.underlying0
 a0:=Tryz.isAgg0
 z0:=Tryz.sizeOf0
 v0:=Tryz.zeroValue0
 t2:=Tryz.underlying2
 a2:=Tryz.isAgg2
 z2:=Tryz.sizeOf2
 v2:=Tryz.zeroValue2
 t3:=Tryz.underlying3
 a3:=Tryz.isAgg3
 z3:=Tryz.sizeOf3
 v3:=Tryz.zeroValue3
 t4:=Tryz.underlying4
 a4:=Tryz.isAgg4
 z4:=Tryz.sizeOf4
 v4:=Tryz.zeroValue4
 t5:=Tryz.underlying5
 a5:=Tryz.isAgg5
 z5:=Tryz.sizeOf5
 v5:=Tryz.zeroValue5
 t9:=Tryz.underlying9
 a9:=Tryz.isAgg9
 z9:=Tryz.sizeOf9
 v9:=Tryz.zeroValue9
 t20:=Tryz.underlying20
 a20:=Tryz.isAgg20
 z20:=Tryz.sizeOf20
 v20:=Tryz.zeroValue20
 t37:=Tryz.underlying147
 a37:=Tryz.isAgg147
 z37:=Tryz.sizeOf147
 v37:=Tryz.zeroValue147
 t46:=Tryz.underlying57
 a46:=Tryz.isAgg57
 z46:=Tryz.sizeOf57
 v46:=Tryz.zeroValue57
 t51:=Tryz.underlying180
 a51:=Tryz.isAgg180
 z51:=Tryz.sizeOf180
 v51:=Tryz.zeroValue180
 t53:=Tryz.underlying146
 a53:=Tryz.isAgg146
 z53:=Tryz.sizeOf146
 v53:=Tryz.zeroValue146
 t171:=Tryz.underlying219
 a171:=Tryz.isAgg219
 z171:=Tryz.sizeOf219
 v171:=Tryz.zeroValue219
 t173:=Tryz.underlying221
 a173:=Tryz.isAgg221
 z173:=Tryz.sizeOf221
 v173:=Tryz.zeroValue221
 t212:=Tryz.underlying226
 a212:=Tryz.isAgg226
 z212:=Tryz.sizeOf226
 v212:=Tryz.zeroValue226
 t213:=Tryz.underlying227
 a213:=Tryz.isAgg227
 z213:=Tryz.sizeOf227
 t232:=Tryz.underlying229
 a232:=Tryz.isAgg229
 z232:=Tryz.sizeOf229
 v232:=Tryz.zeroValue229
 t233:=Tryz.underlying230
 a233:=Tryz.isAgg230
 z233:=Tryz.sizeOf230
 v233:=Tryz.zeroValue230
 g17:=by kernel_rfl
 g18:=by kernel_rfl
 g19:=by kernel_rfl}
open Go.RowKit Go.Sort Go.Lib in
theorem Tryz.strconv_Itoa_small (i:Nat) (hi:i<100) (w:World):
 Calls Tryz.prog 151 #[.int .i64 i] w λe w'=>e=.returned (.string ⟨(Lib.decDigits i).toArray⟩)/\w'=w:=Any.strconv_Itoa_small Tryz.lays171 i hi w
end Go.Proofs
namespace Go.Proofs.YtmkapobnfigedaaGreatDoor
open Go.Proofs.Tryz List Go.RowKit
open Go.Proofs.Tryz List Go.RowKit Go.Shelf Go.Sort
instance:Inhabited PKey:=⟨⟨0,⟨#[]⟩⟩⟩
theorem aHX:∀x y z:List UInt8,Lib.compareBytes x y<0->Lib.compareBytes y z<0->Lib.compareBytes x z<0
 |[],[],z,h,_=>by simp[Lib.compareBytes]at h
 |[],_::_,[],_,h=>by simp[Lib.compareBytes]at h
 |[],_::_,_::_,_,_=>by simp[Lib.compareBytes]
 |_::_,[],_,h,_=>by simp[Lib.compareBytes]at h
 |_::_,_::_,[],_,h=>by simp[Lib.compareBytes]at h
 | a ::x,b::y,c::z,h1,h2=>by
   simp only[Lib.compareBytes]at h1 h2 |-;by_cases ab:a<b
   .by_cases bc:b<c
    .rw[zB (UInt8.lt_trans ab bc)];decide
    rw[zA bc]at h2;by_cases cb:c<b
    .rw[zB cb]at h2;exact absurd h2 (by decide)
    have e:b=c:=UInt8.le_antisymm (UInt8.not_lt.1 cb) (UInt8.not_lt.1 bc);subst e;rw[zB ab];decide
   rw [zA ab]at h1;by_cases ba:b<a
   .rw[zB ba]at h1;exact absurd h1 (by decide)
   rw[zA ba]at h1;have e:a=b:=UInt8.le_antisymm (UInt8.not_lt.1 ba) (UInt8.not_lt.1 ab);subst e;by_cases bc:a<c
   .rw[zB bc];decide
   rw[zA bc]at h2 |-;by_cases cb:c<a
   .rw[zB cb]at h2;exact absurd h2 (by decide)
   rw[zA cb]at h2 |-;exact aHX x y z h1 h2
theorem aHY:∀x y:List UInt8,Lib.compareBytes x y<0\/x=y\/Lib.compareBytes y x<0
 |[],[]=>.inr (.inl rfl)
 |[],_::_=>.inl (by simp[Lib.compareBytes])
 |_::_,[]=>.inr (.inr (by simp[Lib.compareBytes]))
 | a::x,b::y=>by
   simp only[Lib.compareBytes];by_cases ab:a<b
   .refine .inl ?_;rw[zB ab];decide
   by_cases ba:b<a
   .refine .inr (.inr ?_);rw[zB ba];decide
   have e:a=b:=UInt8.le_antisymm (UInt8.not_lt.1 ba) (UInt8.not_lt.1 ab);subst e;simp only[zA ab];rcases aHY x y with h|h|h
   .exact .inl h
   .exact .inr (.inl (by rw[h]))
   exact .inr (.inr h)
theorem aDN:∀x:List UInt8,¬Lib.compareBytes x x<0
 |[]=>by simp[Lib.compareBytes]
 | a::x=>by simp only[Lib.compareBytes];rw[zA (UInt8.lt_irrefl a),zA (UInt8.lt_irrefl a)];exact aDN x
theorem aAN (a b:ByteArray):dJ a b<0\/a=b\/dJ b a<0:=by
 rcases aHY a.data.toList b.data.toList with h|h|h
 .exact .inl h
 .refine .inr (.inl ?_);rcases a with⟨⟨l⟩⟩
  rcases b with⟨⟨m⟩⟩
  cases h;rfl
 exact .inr (.inr h)
def nO (x y:PKey):Bool:=decide (x.num<y.num)||((x.num==y.num)&&decide (dJ x.name y.name<0))
theorem lJ {x y:PKey}:nO x y=true↔x.num<y.num\/(x.num=y.num/\dJ x.name y.name<0):=by unfold nO;simp
theorem nM (x y:PKey):ltOf aDZ x y=nO x y:=by
 unfold ltOf aDZ nO jS;by_cases h1:x.num<y.num
 .simp[h1]
 by_cases h2:y.num<x.num
 .have h3:¬x.num=y.num:=by omega
  simp[h1,h2,h3]
 have h3:x.num=y.num:=by omega
 simp[h3]
theorem kU (x:PKey):nO x x=false:=by
 rw[Bool.eq_false_iff];intro h;rcases lJ.1 h with h|⟨_,h⟩
 .omega
 exact aDN _ h
theorem gD {x y z:PKey} (h1:nO x y=true) (h2:nO y z=true):nO x z=true:=by
 rw[lJ]at *;rcases h1 with h1|⟨h1,g1⟩<;>rcases h2 with h2|⟨h2,g2⟩
 .exact .inl (by omega)
 .exact .inl (by omega)
 .exact .inl (by omega)
 exact .inr ⟨by omega,aHX _ _ _ g1 g2⟩
theorem kB (x y:PKey):nO x y=true\/x=y\/nO y x=true:=by
 rw[lJ,lJ];by_cases h1:x.num<y.num
 .exact .inl (.inl h1)
 by_cases h2:y.num<x.num
 .exact .inr (.inr (.inl h2))
 have h3:x.num=y.num:=by omega
 rcases aAN x.name y.name with h|h|h
 .exact .inl (.inr ⟨h3,h⟩)
 .refine .inr (.inl ?_);cases x;cases y;simp only at h h3;rw[h,h3]
 exact .inr (.inr (.inr ⟨h3.symm,h⟩))
theorem bBW:SWO (ltOf aDZ) where
 irrefl x:=by rw[nM];exact kU x
 trans x y z h1 h2:=by rw[nM]at *;exact gD h1 h2
 ntrans x y z h1 h2:=by
  rw[nM]at *;rw[Bool.eq_false_iff];intro h;rcases kB x y with h3|h3|h3
  .rw[h3]at h1;cases h1
  .subst h3;rw[h]at h2;cases h2
  rw[gD h3 h]at h2;cases h2
theorem bBX (x y:PKey) (h1:ltOf aDZ x y=false) (h2:ltOf aDZ y x=false):x=y:=by
 rw[nM]at *;rcases kB x y with h|h|h
 .rw[h]at h1;cases h1
 .exact h
 rw[h]at h2;cases h2
def oG (ks:List PKey):List PKey:=ks.mergeSort λx y=>!nO y x
theorem kC (ks:List PKey):(oG ks).length=ks.length:=by unfold oG;exact length_mergeSort _
theorem isAgg61 (w:World):(isAgg 61).run prog w=.ok true w:=by
 have h:=Tryz.isAgg61
 first|exact h w|simp[isAgg,h]
theorem aZS (w:World):(Go.sizeOf 61).run prog w=.ok 2 w:=by
 have h:=Tryz.sizeOf61
 first|exact h w|simp[Go.sizeOf,h]
theorem aMW (ks:List PKey) (j:Nat) (hj:j<ks.length*2):(flatK PKey.cells 2 ks.toArray)[j]! =(match ks[j/2]? with|some x=>if j%2=0 then Value.int .i64 x.num else .string x.name|none=>undef):=by
 rw[get_flatK _ _ _ _ (by simpa using hj)];have hq:j/2<ks.length:=by omega
 have e1:ks.toArray[j/2]! =ks[j/2]:=by simp[hq]
 rw[e1,gE hq];simp only;rcases Nat.mod_two_eq_zero_or_one j with h|h<;>rw[h]<;>rfl
theorem aQK {arr:Array Value} {ks:List PKey} (h:RowsIn arr 2 (ks.map PKey.cells)) (j:Nat) (hj:j<ks.length*2):arr[j]? =some ((flatK PKey.cells 2 ks.toArray)[j]!):=by
 have hq:j/2<ks.length:=by omega
 have e:j=j/2*2+j%2:=by omega
 have h1:=h (j/2) (ks[j/2]).cells (by rw[gM,gE hq];rfl) (j%2);rw[aMW ks j hj,gE hq];simp only;rcases Nat.mod_two_eq_zero_or_one j with hm|hm
 .rw[zB hm];rw[hm]at h1;rw[<-h1 _ rfl]
  congr 1;omega
 rw[zA (by omega)];rw[hm]at h1;rw[<-h1 _ rfl];congr 1;omega
theorem sort75 (B g cap:Nat) (ks:List PKey) (w:World) (h:OwnP B w 61 2 (.slice g ks.length cap) (ks.map PKey.cells)) (hlen:ks.length<=1000000):
 Calls prog 75 #[.slice g ks.length cap,.func (.func 76) #[] #[]] w λe w'=>e=.returned (.tuple #[])/\OwnP B w' 61 2 (.slice g ks.length cap) ((oG ks).map PKey.cells)/\Keep (λb=>b=g) w w':=by
 rcases h with⟨h1,h2⟩|⟨g',cap',arr,he,hB,hbk,hn,hcm,hsz,hrows⟩
 .simp at h1
 rw[lM]at hn;simp only[zO,zF,yG,and_true,lM]at he;obtain⟨rfl,-,rfl⟩:=he;have a1:=hbk.lt.lt;have hH:HoldsK PKey.cells 2 w g 0 ks.toArray:=by
  intro j hj;rw[size_flatK]at hj;have a2:j<ks.length*2:=by simpa using hj
  rw[zM,hbk.cell,hbk.frozen];exact⟨aQK hrows j a2,rfl⟩
 have a0:=AnyQ.slices_SortFunc_total Tryz.sort75 2 isAgg61 aZS PKey.cells (λ_=>rfl) (λx v hv=>aHG [x] x.cells (by simp) v hv) aDZ bBW 76 #[] g 0 cap ks.toArray w
  (enters_of func76 (by kernel_rfl) rfl) (λ_ _ _ _ x y=>aNI x y _) hH a1 (by simp;omega) bBX
 change Calls prog 75 _ _ _ at a0;have e1:(λx y=>!(ltOf aDZ) y x)=(λx y=>!nO y x):=by funext x y;rw[nM]
 rw[e1]at a0;refine a0.mono ?_;rintro e w' ⟨he,n,os,rfl⟩;refine⟨he,?_,?_⟩
 .refine .inr ⟨g,cap,putCells id 0 (flatK PKey.cells 2 (oG ks).toArray) arr,by rw[lM,kC],hB,?_,by rw[lM,kC];exact hn,hcm,by simp[putCells,hsz],?_⟩
  .unfold Blk at hbk |-;unfold sortWorldK putRowK putRow mapBlock Sort.ahead grow;simp only;rw[Array.getElem?_append_left (by simp;exact a1),Array.getElem?_modify,zB rfl,hbk];rfl
  intro q cs hq t u hc;rw[gM]at hq;obtain⟨x,hx,rfl⟩:=Option.map_eq_some_iff.1 hq;obtain⟨hql,_⟩:=gI.1 hx;have ht:t<2:=by obtain⟨h,_⟩:=gI.1 hc;exact h
  have a4:=kC ks;have hj:q*2+t<(oG ks).length*2:=by omega
  have a3:q*2+t<arr.size:=by omega
  unfold putCells;rw[Array.getElem?_mapIdx,yA a3,Option.map_some];rw[zB (by rw[size_flatK];simp;omega),Nat.sub_zero,aMW _ _ hj,show(q*2+t)/2=q by omega,show(q*2+t)%2=t by omega,hx];rcases t with _|_|t
  .cases hc;rfl
  .cases hc;rfl
  omega
 refine⟨rfl,rfl,rfl,?_,λi hi hn=>?_⟩
 .unfold sortWorldK putRowK putRow mapBlock Sort.ahead grow;simp
 unfold sortWorldK putRowK putRow mapBlock Sort.ahead grow;simp only;rw[Array.getElem?_append_left (by simp;exact hi),Array.getElem?_modify,zA (λh=>hn h.symm)]
theorem aRA:(prog.fieldsOf 61).toList.map (λf=>(f.name,f.type,f.offset))=[("Num",3,0),("Name",9,1)]:=by kernel_rfl
theorem aYC:prog.stoodInHeld 61=false:=by kernel_rfl
theorem aLL:prog.eqGuardType prog.depth 61=false:=by kernel_rfl
theorem aVL:prog.underlying 61=some (.struct (prog.fieldsOf 61)):=by kernel_rfl
theorem aYD (x y:PKey):decide (x=y)=((x.num==y.num)&&(x.name.toList==y.name.toList)):=by
 rw[Bool.eq_iff_iff,decide_eq_true_iff,zE,beq_iff_eq,beq_iff_eq,zW,zW];constructor
 .intro h;subst h;exact⟨rfl,rfl⟩
 intro⟨h1,h2⟩;rcases x with⟨xn,⟨⟨xs⟩⟩⟩
 rcases y with⟨yn,⟨⟨ys⟩⟩⟩
 simp only at h1 h2;subst h1;have h3:xs=ys:=h2;rw[h3]
theorem aLM (x y:PKey) (w:World):(Op.equalIn 10000 61 (.agg #[x.num,x.name]) (.agg #[y.num,y.name])).run prog w=.ok (decide (x=y)) w:=by
 rw[run_equalIn_agg w 9999 61 _ _ aVL aYC,aYD];have hf:=aRA;rcases hl:(prog.fieldsOf 61).toList with _|⟨f1,_|⟨f2,_|⟨f3,r⟩⟩⟩
 .rw[hl]at hf;simp at hf
 .rw[hl]at hf;simp at hf
 .rw[hl]at hf;simp only[xB,map_nil,List.cons.injEq,Prod.mk.injEq,and_true]at hf;obtain⟨⟨n1,t1,o1⟩,n2,t2,o2⟩:=hf;simp only[Op.eqFields];rw[zB (by rw[n1];decide),zB (by rw[n2];decide),t1,t2,o1,o2];have p1:∀(k:PKey) w,(part 3 #[.int .i64 k.num,.string k.name] 0).run prog w=.ok (.int .i64 k.num) w:=λk w=>by
   have h3:=Tryz.sizeOf3 w;have h4:=Tryz.isAgg3 w;simp[part,go_sem,h3,h4]
  have p2:∀(k:PKey) w,(part 9 #[.int .i64 k.num,.string k.name] 1).run prog w=.ok (.string k.name) w:=λk w=>by have h3:=Tryz.sizeOf9 w;have h4:=Tryz.isAgg9 w;simp[part,go_sem,h3,h4]
  simp only[Sem.run_bind,p1,p2,Result.andThen_ok,run_equalIn_int w 9998 3 .i64 .i64 _ _ underlying3];rcases h1:(x.num==y.num)with _|_
  .simp
  simp only[Bool.not_true,zP,if_false,Sem.run_bind,p1,p2,Result.andThen_ok,run_equalIn_string w 9998 9 _ _ underlying9];rcases h2:(x.name.toList==y.name.toList)with _|_
  .simp
  simp
 rw[hl]at hf;simp at hf
theorem aFN (x y:PKey) (w:World):(binOp .eql 61 (.agg #[x.num,x.name]) (.agg #[y.num,y.name])).run prog w=.ok (.bool (decide (x=y))) w:=by rw[run_eql_struct,aLM];rfl
theorem bAJ (x y:PKey) (w:World):(binOp .neq 61 (.agg #[x.num,x.name]) (.agg #[y.num,y.name])).run prog w=.ok (.bool (!decide (x=y))) w:=by rw[run_neq_struct,aLM];rfl
def gH (p:PKey):List PKey->List PKey
 |[]=>[]
 |y::r=>if y=p then gH p r else y::gH y r
def cE:List PKey->List PKey
 |[]=>[]
 |x::r=>x::gH x r
theorem oO:∀(r:List PKey) (p z:PKey),gH p (r++[z])=gH p r++(if z=(p::r).getLast (by simp)then[]else[z])
 | [],p,z=>by simp only[nil_append,gH,getLast_singleton];rfl
 | y::r,p,z=>by
   simp only[cons_append,gH];rw[oO r p z,oO r y z];have e1:(p::y::r).getLast (by simp)=(y::r).getLast (by simp):=getLast_cons _;by_cases h:y=p
   .subst h;rw[zB rfl,zB rfl,e1]
   rw[zA h,zA h,e1];rfl
theorem uN (l:List PKey) (m:Nat) (x y:PKey) (hx:l[m]? =some x) (hy:l[m+1]? =some y):cE (l.take (m+2))=cE (l.take (m+1))++(if y=x then[]else[y]):=by
 obtain⟨hl,rfl⟩:=gI.1 hy;obtain⟨hl2,rfl⟩:=gI.1 hx;rw[take_succ_eq_append_getElem (by omega)];rcases l with _|⟨a,r⟩
 .simp at hl
 rw[take_succ_cons,cons_append];simp only[cE];rw[oO,cons_append];congr 3
 have:(a::r.take m).getLast (by simp)=(a::r)[m]:=by
  rw[getLast_eq_getElem];simp only[zK,zU];have e:min m r.length=m:=by simp at hl;omega
  rcases m with _|m
  .simp
  simp[e]
 rw[this]
theorem aVM (w:World):(zeroValue 61).run prog w=.ok (.agg #[.int .i64 0,.string ⟨#[]⟩]) w:=by kernel_rfl
theorem aNJ (B g cap:Nat) (ks:List PKey) (w:World) (h:OwnP B w 61 2 (.slice g ks.length cap) (ks.map PKey.cells)) (hlen:ks.length<=1000000):
 Calls prog 80 #[.slice g ks.length cap] w λe w'=>e=.returned (.slice g (cE ks).length cap)/\OwnP B w' 61 2 (.slice g (cE ks).length cap) ((cE ks).map PKey.cells)/\Keep (λb=>b=g) w w':=by
 have HO:=aC h;rcases h with⟨h1,h2⟩|⟨g',cap',arr,he,hB,a0,hn,hcm,hsz,hrows⟩
 .simp at h1
 rw[lM]at hn;simp only[zO,zF,yG,and_true,lM]at he;obtain⟨rfl,-,rfl⟩:=he;have iG:=a0.lt;have b2:∀(wr:World) (q:Nat) (x:PKey),Bl w wr->ks[q]? =some x->wr.cell? ⟨g,q*2,none⟩=some (.int .i64 x.num)/\wr.cell? ⟨g,q*2+1,none⟩=some (.string x.name):=λwr q x hb hx=>by have a0:=a0.below hb a0.lt.lt;rw[a0.cell,a0.cell];have h1:=hrows q x.cells (by rw[gM,hx];rfl);exact⟨h1 0 _ rfl,h1 1 _ rfl⟩
 have HA:=aC b2;have HB:=eH a0 hsz hrows;have d7:(ks.length:Int)<=cap:=by omega
 have HC:=aC hcm;clear b2 a0 hsz hrows hcm;by_cases h2:ks.length<2
 .have e:cE ks=ks:=by
   rcases ks with _|⟨a,_|⟨b,r⟩⟩
   .rfl
   .rfl
   simp at h2;omega
  rw[e];have c8:(ks.length:Int)<2:=by omega
  go_in;go_wp2;go_ret;exact⟨rfl,HO.out,Keep.refl _ _⟩
 have c8:¬(ks.length:Int)<2:=by omega
 go_in;go_wp2
 go_loopw[3] (λvi wr=>Bl w wr/\∃k:Nat,vi=.int .i64 k/\1<=k/\k<=ks.length/\cE (ks.take k)=ks.take k) (λvi _=>(ks.length-intOf vi).toNat)
 case atStart=>exact⟨bel _ _,1,rfl,by omega,by omega,by
  rcases ks with _|⟨a,r⟩
  .rfl
  rfl⟩
 obtain⟨hbr,k,rfl,hk1,hkn,hdd⟩:=hrel;have iB:Bel w wr:=⟨hbr⟩;have c9:BlockLt g wr:=⟨by have:=iG.lt;have:=hbr.size;omega⟩;obtain⟨m,rfl⟩:∃m,k=m+1:=⟨k-1,by omega⟩;have HD:=aC hdd;clear hdd;by_cases hlt:m+1<ks.length
 .obtain ⟨y, hy⟩:∃y,ks[m+1]? =some y:=⟨_,gE hlt⟩
  obtain⟨x,hx⟩:∃x,ks[m]? =some x:=⟨_,gE (by omega)⟩;obtain⟨y0,y1⟩:=HA.out wr _ _ hbr hy;obtain⟨x0,x1⟩:=HA.out wr _ _ hbr hx;have HS:=aC (uN ks m x y hx hy);have eI:((m+1:Nat):Int)=(m:Int)+1:=by omega
  have a7:(m:Int)+1<ks.length:=by omega
  have eb:(m:Int)+1-1=m:=by omega
  have g0:(0:Int)<=(m:Int)+1:=by omega
  have g1:(m:Int)<ks.length:=by omega
  have ew:IntKind.i64.wrap (m:Int)=m:=I64.wrap (by unfold I64;omega);have HY:=aC hy;clear hx hy;rw[eI];have q0:=aLL;have q1:=λw=>aFN y x w;rcases hyx:decide (y=x)with _|_
  .rw[hyx]at q1;have a1:¬y=x:=of_decide_eq_false hyx;have HN:=aC a1;clear hyx a1;go_wp2;refine qR ?_
   repeat(go_big_quiet_step (fail))
   refine QN λp=>?_;go_wp2;go_roundw
   case rel=>exact⟨(bel w wr).trans (bel wr _ |>.mono hbr.size),m+2,by go_num,by omega,by omega,by
    have h1:=HS.out;rw[zA HN.out,HD.out]at h1;rw[h1,show m+1+1=m+2 by omega,take_succ_eq_append_getElem (show m+1<ks.length by omega)];congr 2;have:=HY.out;rw[gE (show m+1<ks.length by omega)]at this;exact(Option.some.inj this).symm⟩
   simp[intOf];omega
  rw [hyx] at q1;have a1:y=x:=of_decide_eq_true hyx;have HN:=aC a1;clear hyx a1;go_wp2;refine qR ?_
  repeat(go_big_quiet_step (fail))
  refine QN λp=>?_;have d2:¬cap=m+1:=by omega
  have b3:m+1<=ks.length:=by omega
  have b4:(m:Int)+1<=ks.length:=by omega
  have b5:(m:Int)+1<=cap:=by omega
  have b6:m+1<=cap:=by omega
  have b7:Keep (λb=>b=g) w (wr.junk p):=Keep.of_below ((bel w (wr.junk p))) _;have b8:Blk (wr.junk p) g arr 61:=(HB.out.1.below hbr iG.lt).junk p;have b9:cE (ks.take (m+2))=ks.take (m+1):=by have h1:=HS.out;rw[zB HN.out,HD.out,append_nil]at h1;exact h1
  have H0:=eH b7 b8 b9;clear b7 b8 b9;go_upto_region 8 with fail;refine aD (F:=λwA=>Keep (λb=>b=g) w wA/\Blk wA g arr 61) ⟨H0.out.1,H0.out.2.1⟩ ?_;rintro wA ⟨hkA,hbA⟩;have c3:=bJ hkA hbA;clear hkA hbA y0 y1 x0 x1;go_wp2
  go_loopw[3,5] (λvk vj wr=>Keep (λb=>b=g) w wr/\∃(i kk:Nat) (arr':Array Value),vk=.int .i64 kk/\vj=.int .i64 ((i+1:Nat):Int)/\m+1+(i+1)<=ks.length/\kk<=m+(i+1)/\(cE (ks.take (m+1+(i+1)))).length=kk/\Blk wr g arr' 61/\arr'.size=cap*2/\RowsIn arr' 2 ((cE (ks.take (m+1+(i+1)))).map PKey.cells)/\∀(q:Nat) (x:PKey),m+1+i<=q->ks[q]? =some x->arr'[q*2]? =some (.int .i64 x.num)/\arr'[q*2+1]? =some (.string x.name)) (λ_ vj _=>(ks.length-intOf vj).toNat)
  case atStart=>
   have d3:∀(q:Nat) (x:PKey),ks[q]? =some x->arr[q*2]? =some (.int .i64 x.num)/\arr[q*2+1]? =some (.string x.name):=λq x hx=>by have h1:=HB.out.2.2 q x.cells (by rw[gM,hx];rfl);exact⟨h1 0 _ rfl,h1 1 _ rfl⟩
   refine⟨c3.out.1,0,m+1,arr,by rfl,rfl,by omega,by omega,?_,c3.out.2,HB.out.2.1,?_,λq x _ hx=>d3 q x hx⟩
   .rw[H0.out.2.2,zU];omega
   rw[H0.out.2.2];intro q cs hq t u hc;refine HB.out.2.2 q cs ?_ t u hc;rw[gM,yO]at hq;split at hq
   .rw[gM];exact hq
   cases hq
  obtain⟨hkr,i,kk,arr',rfl,rfl,hin,hkk,hdl,hbr',hsr,hrr,hfr⟩:=hrel;have c9:=hbr'.lt;obtain⟨D,hD⟩:=gAB (cE (ks.take (m+1+(i+1))));rw[hD]at hdl hrr;have d8:kk<=ks.length:=by omega
  have d9:kk<=cap:=by omega
  have e2:(kk:Int)<=ks.length:=by omega
  have e3:(kk:Int)<=cap:=by omega
  have e4:¬cap=kk:=by omega
  have e5:(kk:Int)<ks.length:=by omega
  have e6:kk<ks.length:=by omega
  have e7:IntKind.i64.wrap (i:Int)=i:=I64.wrap (by unfold I64;omega);have e8:IntKind.i64.wrap ((kk:Int)+1)=(kk:Int)+1:=I64.wrap (by unfold I64;omega);have e9:IntKind.i64.wrap ((i:Int)+1+1)=(i:Int)+1+1:=I64.wrap (by unfold I64;omega);have HK:=jj7 hkr hbr' hsr hrr hfr hdl hD;by_cases hlj:m+1+(i+1)<ks.length
  .obtain ⟨y2,hy2⟩:∃y,ks[m+1+(i+1)]? =some y:=⟨_,gE hlj⟩
   obtain⟨x2,hx2⟩:∃x,ks[m+1+i]? =some x:=⟨_,gE (by omega)⟩;have c0:wr.cell? ⟨g,(m+1)*2+(i+1)*2,none⟩=some (.int .i64 y2.num):=by rw[hbr'.cell,<-(hfr _ _ (by omega) hy2).1];congr 1;omega
   have c1:wr.cell? ⟨g,(m+1)*2+(i+1)*2+1,none⟩=some (.string y2.name):=by rw[hbr'.cell,<-(hfr _ _ (by omega) hy2).2];congr 1;omega
   have d0:wr.cell? ⟨g,(m+1)*2+i*2,none⟩=some (.int .i64 x2.num):=by rw[hbr'.cell,<-(hfr _ _ (by omega) hx2).1];congr 1;omega
   have d1:wr.cell? ⟨g,(m+1)*2+i*2+1,none⟩=some (.string x2.name):=by rw[hbr'.cell,<-(hfr _ _ (by omega) hx2).2];congr 1;omega
   obtain⟨u0,e0⟩:∃u,wr.cell? ⟨g,kk*2,none⟩=some u:=⟨_,by rw[hbr'.cell];exact yA (by omega)⟩;obtain⟨u1,e1⟩:∃u,wr.cell? ⟨g,kk*2+1,none⟩=some u:=⟨_,by rw[hbr'.cell];exact yA (by omega)⟩;have c4:=aC (uN ks (m+1+i) x2 y2 hx2 (by rw[<-hy2];rfl));have a8:(i:Int)+1<((ks.length-(m+1):Nat):Int):=by omega
   have c5:(i:Int)<((ks.length-(m+1):Nat):Int):=by omega
   have g3:(0:Int)<=(i:Int)+1:=by omega
   have q2:=λw=>bAJ y2 x2 w;have fz:wr.frozen? ⟨g,kk*2,none⟩=false:=hbr'.frozen _;have f0:wr.frozen? ⟨g,kk*2+1,none⟩=false:=hbr'.frozen _;have f1:=bJ hy2 hx2;clear hkr hbr' hsr hrr hfr hdl hD hy2 hx2;rcases hyx2:decide (y2=x2)with _|_
   .rw [hyx2]at q2;have a9:=aC (of_decide_eq_false hyx2);clear hyx2;go_wp2;refine qR ?_
    repeat(go_big_quiet_step (fail))
    refine QN λp=>?_;go_wp2_with fail;have a2:=((HK.out.1.setCell (p:=⟨g,kk*2,none⟩) (.inl rfl) (.int .i64 y2.num)).setCell (p:=⟨g,kk*2+1,none⟩) (.inl rfl) (.string y2.name)).junk p;have a3:=((HK.out.2.1.set_ (kk*2) (.int .i64 y2.num)).set_ (kk*2+1) (.string y2.name)).junk p;have HE:=bJ a2 a3;clear a2 a3;go_roundw
    case rel=>
     obtain⟨-,-,hsr,hrr,hfr,hdl,hD⟩:=HK.out;have a4:cE (ks.take (m+1+(i+1+1)))=D++[y2]:=by have h1:=c4.out;rw[zA a9.out,show m+1+i+1=m+1+(i+1) by omega,hD]at h1;exact h1
     refine⟨HE.out.1,i+1,kk+1,_,by go_num,by go_num,by omega,by omega,?_,HE.out.2,by rw[Array.size_setIfInBounds,Array.size_setIfInBounds];exact hsr,?_,?_⟩
     .rw[a4,lP,hdl];rfl
     .rw [a4];intro q cs hq t u hc;have ht:t<2:=by
       rw[gM]at hq;obtain⟨z,_,rfl⟩:=Option.map_eq_some_iff.1 hq;obtain⟨h,_⟩:=gI.1 hc;exact h
      rw[yS]at hq;by_cases hql:q<kk
      .rw[zZ (by rw[lM];omega)]at hq;rw[yE,zA (by omega),yE,zA (by omega)];exact hrr q cs hq t u hc
      have d4:q=kk:=by obtain⟨h,_⟩:=gI.1 hq;simp at h;omega
      subst d4;rw[yC (by rw[lM];omega),lM,hdl,Nat.sub_self]at hq;cases hq;rcases t with _|_|t
      .cases hc;rw[yE,zA (by omega),yE,zB (by omega),zB (by omega)]
      .cases hc;rw[yE,zB rfl,zB (by simp;omega)]
      omega
     intro q z hq hz;rw[yE,zA (by omega),yE,zA (by omega),yE,zA (by omega),yE,zA (by omega)];exact hfr q z (by omega) hz
    simp[intOf];omega
   rw[hyx2]at q2;have a9:=aC (of_decide_eq_true hyx2);clear hyx2;go_wp2;refine qR ?_
   repeat(go_big_quiet_step (fail))
   refine QN λp=>?_;go_wp2_with fail;have a2:=HK.out.1.junk p;have a3:=HK.out.2.1.junk p;have HE:=bJ a2 a3;clear a2 a3;go_roundw
   case rel=>
    obtain⟨-,-,hsr,hrr,hfr,hdl,hD⟩:=HK.out;have a4:cE (ks.take (m+1+(i+1+1)))=D:=by have h1:=c4.out;rw[zB a9.out,show m+1+i+1=m+1+(i+1) by omega,hD,append_nil]at h1;exact h1
    exact⟨HE.out.1,i+1,kk,arr',by go_num,by go_num,by omega,by omega,by rw[a4];exact hdl,HE.out.2,hsr,by rw[a4];exact hrr,λq z hq hz=>hfr q z (by omega) hz⟩
   simp[intOf];omega
  have f2:m+1+(i+1)=ks.length:=by omega
  have a6:D=cE ks:=by rw[<-hD,take_of_length_le (by omega)]
  have a8:¬(i:Int)+1<((ks.length-(m+1):Nat):Int):=by omega
  obtain⟨zs,hzs⟩:∃zs,(Builtin.zeroCells (.agg #[.int .i64 0,.string ⟨#[]⟩]:Value).cells (ks.length-kk)).toList=zs:=⟨_,rfl⟩;have c6:zs.length=(ks.length-kk)*2:=by rw[<-hzs];simp[Builtin.zeroCells];rfl
  have b0:∀c2 ty,(Builtin.clear_ #[29] ty #[.slice (some ⟨g,kk*2,none⟩) (ks.length-kk) c2]).run prog wr=.ok (.tuple #[]) (wr.setCells g (kk*2) zs):=λc2 ty=>by rw[<-hzs];refine oP wr 29 61 ty (.agg #[.int .i64 0,.string ⟨#[]⟩]) underlying29 aVM (by decide) g (kk*2) (ks.length-kk) c2 (by omega) (λj hj=>?_) (λj hj=>hbr'.frozen _);rw[hzs,c6]at hj;rw[hbr'.cell];simp;omega
  obtain⟨arr3,hb3,hs3,hout3,-⟩:=Blk.setCells_at g 61 zs (kk*2) wr arr' hbr' (by omega);have b1:Keep (λk=>k=g) w (wr.setCells g (kk*2) zs):=Keep.setCells (S:=λk=>k=g) rfl zs _ hkr;obtain⟨w3,hw3⟩:=gAB (wr.setCells g (kk*2) zs);simp only[hw3]at b0 hb3 b1;have a5:OwnP B w3 61 2 (.slice g (cE ks).length cap) ((cE ks).map PKey.cells):=by
   refine .inr ⟨g,cap,arr3,by rw[lM],hB,hb3,by rw[lM,<-a6,hdl];omega,HC.out,by omega,?_⟩;rw[<-a6];intro q cs hq t u hc;have d5:=hq;rw[gM]at hq;obtain⟨z,hz,rfl⟩:=Option.map_eq_some_iff.1 hq;obtain⟨hql,_⟩:=gI.1 hz;have ht:t<2:=by obtain⟨h,_⟩:=gI.1 hc;exact h
   rw[hout3 _ (.inl (by omega))];exact hrr q _ d5 t u hc
  have c7:kk=(cE ks).length:=by rw[<-a6,hdl]
  have HF:=eH a5 b1 c7;clear hkr hbr' hsr hrr hfr hdl hD a5 b1 hout3 hb3 hs3 hw3 c6 hzs c7 a6;go_wp2;go_ret;refine⟨?_,HF.out.1,HF.out.2.1⟩;rw[HF.out.2.2];rfl
 have hR:cE ks=ks:=by have:=HD.out;rw[take_of_length_le (by omega)]at this;exact this
 have a7:¬(m:Int)+1<ks.length:=by omega
 have eI:((m+1:Nat):Int)=(m:Int)+1:=by omega
 rw[eI];have d6:=aC hR;clear hR;go_wp2;go_ret;rw[d6.out];exact⟨rfl,OwnP.keep HO.out (Keep.of_below hbr (λb=>False)) (λ_ _ h=>h),Keep.of_below hbr _⟩
section
open Go.Proofs.Tryz List Go.RowKit Go.ChangeShapes Go.WideShapes Go.Deep Go.Joins
section
variable {H:Type} {enc:TypeId × Value->H} {W:World} {base:Nat} {sp:Nat->Bool} {hd:Bool}
theorem aHD {fuel:Nat} {cs:List Value} {y:DataW H × List MemPlace} (h:DataW.trod enc prog W base sp hd fuel 24 cs=some y):∃(v:Value) (zs:List Int),cs=[v]/\RowAt W 1 v (zs.map aJ)/\(∀z∈zs,I64 z)/\zs.length<=Rows.uptoBulk y.1:=by
 exact kM underlying24 jZ (by decide) aJ (λ_=>I64) (λ_ _ _ _ h=>h) (λ_=>rfl) (λ_ _ _ h=>by
  obtain⟨a,e0,_,w0⟩:=DataW.trod_int underlying3 h;exact⟨a,e0,jQ w0⟩) h
end
end
section
open Go.Proofs.Tryz List Go.RowKit Go.ChangeShapes Go.WideShapes Go.Deep Go.Joins
section
variable {H:Type} {enc:TypeId × Value->H} {W:World} {base:Nat} {sp:Nat->Bool} {hd:Bool}
theorem aJY {fuel:Nat} {cs:List Value} {y:DataW H × List MemPlace} (h:DataW.trod enc prog W base sp hd fuel 28 cs=some y):∃x:PCall,cs=x.cells/\x.wf/\x.path.size<=maxLen/\x.path2.size<=maxLen/\x.data.size<=maxLen/\x.data.size<=Rows.uptoBulk y.1:=by
 obtain⟨k,c,f,o,n,p,q,d,e,⟨g0,g1,g2,g3,g4⟩,g5,g6,g7⟩:=aOX h;refine⟨⟨k,c,f,o,n,p,q,d⟩,e,⟨g0,g1,g2,g3,g4⟩,g5,g6,g7,?_⟩;obtain⟨xs,m,_,ey,hl,hxs,hf⟩:=DataW.trod_struct underlying28 h;have h7:DataW.trod enc prog W base sp hd m 9 ((cs.drop 7).take (prog.cellsOf 9))=xs[7]? :=hf 7 _ rfl;subst e;rw[pZ]at h7
 match xs,hxs with
 | [y0,y1,y2,y3,y4,y5,y6,y7],_=>
   simp only[List.drop,List.take,zH,zV]at h7;obtain⟨s,e7,ey7,_⟩:=DataW.trod_string underlying9 h7;simp only[List.cons.injEq,and_true,Value.string.injEq]at e7;subst e7;have hb:Rows.uptoBulk y7.1<=Rows.uptoBulk y.1:=by rw[ey];exact pH (by simp)
   have h1:d.size+1=Rows.uptoBulk y7.1:=by rw[ey7];simp only[Rows.uptoBulk];rfl
   show d.size<=_;omega
theorem aHE {fuel:Nat} {cs:List Value} {y:DataW H × List MemPlace} (h:DataW.trod enc prog W base sp hd fuel 38 cs=some y):∃(v:Value) (zs:List PCall),cs=[v]/\RowAt W 8 v (zs.map PCall.cells)/\(∀z∈zs,z.wf/\z.path.size<=maxLen/\z.path2.size<=maxLen/\z.data.size<=maxLen/\z.data.size<=Rows.uptoBulk y.1)/\zs.length<=Rows.uptoBulk y.1:=by
 exact kM underlying38 xQ (by decide) PCall.cells (λn z=>z.wf/\z.path.size<=maxLen/\z.path2.size<=maxLen/\z.data.size<=maxLen/\z.data.size<=n) (λm n x hmn h=>⟨h.1,h.2.1,h.2.2.1,h.2.2.2.1,zD h.2.2.2.2 hmn⟩) (λ_=>rfl) (λ_ _ _ h=>by
  obtain⟨x,e,h0,h1,h2,h3,h4⟩:=aJY h;exact⟨x,e,h0,h1,h2,h3,h4⟩) h
end
end
theorem aZR (x y:PKey) (w:World):vR w 50 #[.agg #[x.num,x.name],.agg #[y.num,y.name]] (.bool (gN x y)):=by
 rw[kV];have e0:∀b:ByteArray,(b.toList==[])=b.toList.isEmpty:=λb=>by cases b.toList<;>rfl
 rcases g1:(x.num==y.num)with _|_
 .unfold vR;go_in
  go_wp2;go_ret;exact⟨by simp,bel _ _⟩
 rcases g2:x.name.toList.isEmpty with _|_;rotate_left
 .unfold vR;go_in
  go_wp2;go_ret;exact⟨by simp,bel _ _⟩
 rcases g3:y.name.toList.isEmpty with _|_;rotate_left
 .unfold vR;go_in
  go_wp2;go_ret;exact⟨by simp,bel _ _⟩
 rcases g5:(x.name.toList==y.name.toList)with _|_
 .unfold vR;go_in
  go_wp2;go_ret;exact⟨by simp,bel _ _⟩
 rcases g4:(x.name.toList==[46])with _|_
 iterate 2
  .unfold vR;go_in
   go_wp2;go_ret;exact⟨by simp,bel _ _⟩
theorem aMT (ks bs:List PKey) (va vb:Value) (w:World) (ha:RowAt w 2 va (ks.map PKey.cells)) (hb:RowAt w 2 vb (bs.map PKey.cells)):
 vR w 18 #[va,vb] (.bool (eZ ks bs)):=by
 have a4:ks.length<=9223372036854775807:=by obtain⟨_,_,_,h,_⟩:=ha;rw[lM]at h;exact h
 have a5:bs.length<=9223372036854775807:=by obtain⟨_,_,_,h,_⟩:=hb;rw[lM]at h;exact h
 obtain⟨aa,ca,rfl,hata⟩:=ha.at_;obtain⟨ab,cb,rfl,hatb⟩:=hb.at_;rw[lM,lM];have HA:=bJ hata hatb;clear hata hatb ha hb;unfold eZ;generalize hR:(ks.any λx=>bs.any λy=>gN x y)=R;have HR:=aC hR;clear hR;have a0:=λx y ww=>aZR x y ww;have HM:=aC a0;clear a0;unfold vR;go_in;go_wp2
 go_loopw[5] (λvi wr=>∃q:Nat,vi=.int .i64 q/\q<=ks.length/\((ks.drop q).any λx=>bs.any λy=>gN x y)=R/\Bl w wr) (λvi _=>(ks.length-intOf vi).toNat)
 case atStart=>exact⟨0,rfl,by omega,by simpa using HR.out,bel _ _⟩
 obtain⟨q,rfl,hq,hre,hbr⟩:=hrel
 rename World=>wo
 have iB:Bel w wo:=⟨hbr⟩;by_cases hlt:q<ks.length
 .obtain⟨x,hx⟩:=gAA hlt
  rw[sW _ _ _ hx]at hre;have a3:=aC hre;have HX:=aC hx;clear hre hx;go_wp2
  go_loopw[6] (λvi w2=>∃k:Nat,vi=.int .i64 k/\k<=bs.length/\((bs.drop k).any λy=>gN x y)=(bs.any λy=>gN x y)/\Bl wo w2) (λvi _=>(bs.length-intOf vi).toNat)
  case atStart=>exact⟨0,rfl,by omega,rfl,bel _ _⟩
  obtain⟨k,rfl,hk,hre2,hb2⟩:=hrel;have a2:Bel w wr:=⟨hbr.trans (hb2.mono hbr.size)⟩;have a6:Bel wo wr:=⟨hb2⟩;by_cases hlk:k<bs.length
  .obtain⟨y,hy⟩:=gAA hlk
   rw[sW _ _ _ hy]at hre2;obtain⟨be,offe,rfl,iE0,iE,hce⟩:=HA.out.1 wr a2.below q x.cells (by rw[gM,HX.out];rfl);have e0:=hce 0 _ rfl;have e1:=hce 1 _ rfl;rw[zN]at e0;obtain⟨bf,offf,rfl,iF0,iF,hcf⟩:=HA.out.2 wr a2.below k y.cells (by rw[gM,hy];rfl);have f0:=hcf 0 _ rfl;have f1:=hcf 1 _ rfl;rw[zN]at f0;have a1:=aC hre2;have g1:(q:Int)<ks.length:=by omega
   have g2:(k:Int)<bs.length:=by omega
   clear hre2 hcf hce hy;rcases hm:gN x y with _|_
   .have hc:=HM.out x y;rw[hm]at hc;go_wp2;refine qR ?_
    repeat(go_big_quiet_step ((first|refine cI (hc _)|refine cJ (hc _))))
    refine QN λp=>?_;go_wp2;go_roundw
    case rel=>exact⟨k+1,by go_num,by omega,by have:=a1.out;rw[hm,Bool.false_or]at this;exact this,bel _ _⟩
    simp[intOf];omega
   have hc:=HM.out x y;rw[hm]at hc;go_wp2;refine qR ?_
   repeat(go_big_quiet_step ((first|refine cI (hc _)|refine cJ (hc _))))
   refine QN λp=>?_;go_wp2;go_ret;exact⟨gJ (by have h1:=a1.out;rw[hm,Bool.true_or]at h1;have h2:=a3.out;rw[<-h1,Bool.true_or]at h2;exact h2),bel _ _⟩
  rw[vV _ _ _ hlk]at hre2;have a1:=aC hre2;clear hre2;go_wp2;go_roundw
  case rel=>exact⟨q+1,by go_num,by omega,by have:=a3.out;rw[<-a1.out]at this;simpa using this,a2.below⟩
  simp[intOf];omega
 rw[vV _ _ _ hlt]at hre;subst hre;go_wp2;go_ret;exact gAC
def tT (c:Array Value) (x:String × TypeId × Nat):Prop:=x.1≠ "_"/\((x.2.1=3/\∃a,c[x.2.2]? =some (.int .i64 a))\/(x.2.1=9/\∃s,c[x.2.2]? =some (.string s)))
theorem uV (c:Array Value):∀(l:List Field) (w:World),(∀f∈l,tT c (f.name,f.type,f.offset))->(Op.eqFields 9999 c c l).run prog w=.ok true w
 |[],w,_=>rfl
 | f ::l,w,h=>by
   obtain⟨h1,h2⟩:=h f zQ;have ih:=uV c l w (λg hg=>h g (zL _ hg));unfold Op.eqFields;rw[zB h1];rcases h2 with⟨ht,a,hc⟩|⟨ht,s,hc⟩<;>simp only at ht hc
   .have h3:=Tryz.sizeOf3 w;have h4:=Tryz.isAgg3 w;have p:(part 3 c f.offset).run prog w=.ok (.int .i64 a) w:=by simp[part,go_sem,h3,h4,hc]
    simp only[ht,Sem.run_bind,p,Result.andThen_ok,run_equalIn_int w 9998 3 .i64 .i64 _ _ underlying3];simpa using ih
   have h3:=Tryz.sizeOf9 w;have h4:=Tryz.isAgg9 w;have p:(part 9 c f.offset).run prog w=.ok (.string s) w:=by simp[part,go_sem,h3,h4,hc]
   simp only[ht,Sem.run_bind,p,Result.andThen_ok,run_equalIn_string w 9998 9 _ _ underlying9];simpa using ih
def aGQ (t:TypeId) (c:Array Value) (w:World):Prop:=(binOp .eql t (.agg c) (.agg c)).run prog w=.ok (.bool true) w/\(binOp .neq t (.agg c) (.agg c)).run prog w=.ok (.bool false) w
theorem vN {t:TypeId} {L:List (String × TypeId × Nat)} (hf:(prog.fieldsOf t).toList.map (λf=>(f.name,f.type,f.offset))=L) (hh:prog.stoodInHeld t=false) (hu:prog.underlying t=some (.struct (prog.fieldsOf t))) (c:Array Value) (hL:∀x∈L,tT c x) (w:World):aGQ t c w:=by
 have h:(Op.equalIn 10000 t (.agg c) (.agg c)).run prog w=.ok true w:=by rw[run_equalIn_agg w 9999 t _ _ hu hh];exact uV c _ w λf hf2=>hL _ (by rw[<-hf];exact mem_map.2 ⟨f,hf2,rfl⟩)
 constructor
 .rw[run_eql_struct,h];rfl
 rw[run_neq_struct,h];rfl
theorem aSR (a b c:Int) (w:World):aGQ 95 #[.int .i64 a,.int .i64 b,.int .i64 c] w:=vN (L:=[("Core",3,0),("Fd",3,1),("Num",3,2)]) (by kernel_rfl) (by kernel_rfl) (by kernel_rfl) _ (by simp[tT]) w
theorem aSS (n:ByteArray) (a:Int) (w:World):aGQ 97 #[.string n,.int .i64 a] w:=vN (L:=[("Name",9,0),("Num",3,1)]) (by kernel_rfl) (by kernel_rfl) (by kernel_rfl) _ (by simp[tT]) w
theorem aST (a b c d e:Int) (l m n:ByteArray) (w:World):aGQ 28 #[.int .i64 a,.int .i64 b,.int .i64 c,.int .i64 d,.int .i64 e,.string l,.string m,.string n] w:=vN (L:=[("Kind",3,0),("Core",3,1),("Fd",3,2),("Off",3,3),("Num",3,4),("Path",9,5),("Path2",9,6),("Data",9,7)]) (by kernel_rfl) (by kernel_rfl) (by kernel_rfl) _ (by simp[tT]) w
theorem aSU (a:Int) (n:ByteArray) (w:World):aGQ 61 #[.int .i64 a,.string n] w:=vN (L:=[("Num",3,0),("Name",9,1)]) (by kernel_rfl) (by kernel_rfl) (by kernel_rfl) _ (by simp[tT]) w
open Go.Proofs.Tryz List Go.RowKit Go.ChangeShapes Go.WideShapes Go.Deep Go.Joins
theorem aJZ {H:Type} {enc:TypeId × Value->H} {W:World} {base:Nat} {sp:Nat->Bool} {hd:Bool} {fuel:Nat} {cs:List Value} {y:DataW H × List MemPlace} (h:DataW.trod enc prog W base sp hd fuel 39 cs=some y):∃(v:Value) (zs:List Bool),cs=[v]/\RowAt W 1 v (zs.map aO)/\(∀z∈zs,True)/\zs.length<=Rows.uptoBulk y.1:=by
 exact kM underlying39 (by kernel_rfl) (by decide) aO (λ_ _=>True) (λ_ _ _ _ h=>h) (λ_=>rfl) (λ_ _ _ h=>by
  obtain⟨a,e0,_⟩:=DataW.trod_bool underlying4 h;exact⟨a,e0,trivial⟩) h
end Go.Proofs.YtmkapobnfigedaaGreatDoor
