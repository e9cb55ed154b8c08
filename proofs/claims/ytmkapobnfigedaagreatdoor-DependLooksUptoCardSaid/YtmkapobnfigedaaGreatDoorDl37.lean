/- Part of the proof of a law of chapter 15. Conditions: none. -/
import Derived.Test.YtmkapobnfigedaaGreatDoorDl34
set_option linter.unusedVariables false
set_option linter.unusedSimpArgs false
set_option maxRecDepth 100000
set_option maxHeartbeats 8000000
namespace Go.Proofs.YtmkapobnfigedaaGreatDoor
open Go.RowKit
def mA:List ByteArray->ByteArray->ByteArray
 |[],s=>s
 |n::r,s=>mA r (s++(⟨#[47]⟩++n))
def eJ (ns:List ByteArray):ByteArray × Int:=if ns.all iU=true then(if 4<ns.length then(⟨#[]⟩,1102)else if 64<(mA ns ⟨#[]⟩).size then(⟨#[]⟩,1101)else if(mA ns ⟨#[]⟩).size=0 then(⟨#[47]⟩,0)else(mA ns ⟨#[]⟩,0))else(⟨#[]⟩,1100)
def fH (S:PSt) (p:ByteArray):Int × Int:=if(aA p).1≠0 then(0,dN (aA p).1)else if dB S=true then(if (aL S 0 (aA p).2).2≠0 then(0,(aL S 0 (aA p).2).2)else(jQ S (aL S 0 (aA p).2).1,0))else(0,9)
def aBM (S:PSt) (ns:List ByteArray):List PKey:=(List.range ns.length).map λk=>⟨(fH S (eJ (ns.take k)).1).1,⟨#[46]⟩⟩
def nL (S:PSt) (ns:List ByteArray):Int:=(fH S (eJ (ns.take (ns.length-1))).1).1
def sF (n:ByteArray):ByteArray:=⟨#[47,UInt8.ofNat (48+(bQ n).toNat)]⟩
def iH (S:PSt) (p:ByteArray):List PKey:=aBM S (aA p).2
def eK (S:PSt) (p:ByteArray):List PKey:=iH S p++[⟨nL S (aA p).2,sF ((aA p).2.getLastD ⟨#[]⟩)⟩]
def eC (S:PSt) (p:ByteArray):List PKey:=[⟨(fH S p).1,⟨#[]⟩⟩]
def gC (S:PSt) (c:PCall):List PKey:=[⟨match S.op[(cG (eD c) S.op).toNat]? with|some d=>d.num|none=>0,⟨#[]⟩⟩]
def dA (S S':PSt) (c:PCall):Option (List PKey):=
 let l:Option (List PKey):=if c.kind=0\/c.kind=1 then some (eK S c.path++eC S' c.path)else if c.kind=2 then some (iH S c.path++eC S c.path)else
  if c.kind=3\/c.kind=6 then some (gC S c)else if c.kind=5 then(if c.data.size=0 then none else some (gC S c))else
  if c.kind=8 then some (iH S c.path++eK S c.path2++eC S c.path)else if c.kind=9\/c.kind=10 then some (eK S c.path++eC S c.path)else
  if c.kind=11 then some (eK S c.path++eK S c.path2++eC S c.path)else none
 l.map λl=>l++[⟨-1-c.core,⟨#[]⟩⟩]
section
def jZ (p:ByteArray):Prop:=(aA p).1=0/\(aA p).2≠[]
structure GatherOk (S:PSt) (c:PCall):Prop where
 may:dB S=true
 core:0<=c.core/\c.core<S.made.length
 kind:0<=c.kind/\c.kind<=16
 path:(c.kind=0\/c.kind=1\/c.kind=2\/c.kind=8\/c.kind=9\/c.kind=10\/c.kind=11)->jZ c.path
 path2:(c.kind=8\/c.kind=11)->jZ c.path2
 fd:(c.kind=3\/c.kind=5\/c.kind=6)->0<=cG (eD c) S.op
theorem kQ {c:Int} (h:c≠0):dN c≠0:=by
 unfold dN;rw[zA h];split<;>decide
variable {S:PSt} {c:PCall} {k:Int} {ns:List ByteArray} {s:ByteArray}
theorem oP (h:aX S ns=.error k):k≠0:=by
 unfold aX at h;split at h
 .cases h;decide
 split at h
 .rename_i hc;cases h;exact hc
 split at h
 .split at h
  .cases h
  cases h;decide
 cases h;decide
theorem xX {x:Nat × ByteArray} (h:aX S ns=.ok x):ns≠[]:=by intro e;subst e;cases h
theorem xY {K:Nat} {l:ByteArray} (h:aX S ns=.ok (K,l)):∃x,S.ins[K]? =some x/\x.dir=true:=by
 unfold aX at h;split at h
 .cases h
 split at h
 .cases h
 split at h
 .rename_i x hx
  split at h
  .rename_i hd
   simp only[Except.ok.injEq,Prod.mk.injEq]at h;rw[<-h.1];exact⟨x,hx,hd⟩
  cases h
 cases h
theorem vQ {x:Nat × ByteArray} (h:cV S s=.ok x):jZ s:=by
 unfold cV at h;split at h
 .cases h
 rename_i hp;exact⟨Decidable.of_not_not hp,xX h⟩
theorem aGP (h:cV S s=.error k):k≠0:=by
 unfold cV at h;split at h
 .rename_i hp
  cases h;exact kQ hp
 exact oP h
theorem aLX (h:sD S s=.error k):k≠0:=by
 unfold sD at h;split at h
 .rename_i hp
  cases h;exact kQ hp
 split at h
 .rename_i hp
  cases h;exact hp
 cases h
theorem aBK (hm:dB S=true):∃x,S.ins[0]? =some x/\x.num=1/\x.dir=true:=by
 unfold dB at hm;split at hm;rotate_left
 .cases hm
 rename_i h1;simp only[zE]at h1;obtain⟨⟨-,hins⟩,-⟩:=h1;unfold dH at hins;rcases e:S.ins with _|⟨x0,r⟩
 .rw[e]at hins;cases hins
 rw[e]at hins;simp only at hins;split at hins;rotate_left
 .cases hins
 rename_i h2;refine⟨x0,rfl,?_,?_⟩
 .simp_all
 simp_all
theorem aLY {y:Nat × PIn} (h:dQ S c=some y):0<=cG (eD c) S.op:=by
 unfold dQ at h;split at h
 .cases h
 omega
theorem aLZ (h:(mK S c).2.code=0):fI S c=true/\((∃y,eH S c=.ok y/\mK S c=y)\/(eH S c=.error 0/\(mK S c).1=S)):=by
 unfold mK doM at h |-;split at h;rotate_left
 .cases h
 rename_i hm;refine⟨hm,?_⟩;rw[zB hm];split at h
 .rename_i y e
  exact .inl ⟨y,e,rfl⟩
 rename_i k e;have hk:k=0:=h;subst hk;exact .inr ⟨e,rfl⟩
theorem aMA {es:List PEnt} (h:bL es s=true):∃e,es[cL es s]? =some e:=⟨_,gE (qB h)⟩
theorem aBL (hm:dB S=true) (h:eH S c≠.error 0->∀k,eH S c≠.error k) (hk:c.kind=0\/c.kind=1\/c.kind=2\/c.kind=8\/c.kind=9\/c.kind=10\/c.kind=11):jZ c.path:=by
 have key:∀k,k≠0->eH S c=.error k->False:=λk h0 e=>by refine h ?_ k e;rw[e];intro e2;cases e2;exact h0 rfl
 unfold eH at key;by_cases k1:c.kind=0\/c.kind=1
 .rw[zB k1]at key;unfold gU nK at key;by_cases hp:(aA c.path).1=0
  .refine⟨hp,λe=>?_⟩;rw[zA (by simpa using hp),e]at key;exact key 9 (by decide) rfl
  rw[zB hp]at key;exact(key _ (kQ hp) rfl).elim
 rw[zA k1]at key;by_cases k2:c.kind=2
 .rw[zB k2]at key;unfold pK oX at key;by_cases hp:(aA c.path).1=0
  .refine⟨hp,λe=>?_⟩;rw[zA (by simpa using hp),e]at key;obtain⟨x0,h0,-,h2⟩:=aBK hm;rw[zA (by unfold aL;simp)]at key;have h3:S.ins[(aL S 0 []).1]? =some x0:=h0;rw[h3]at key;simp only[h2,if_true]at key;exact key 8 (by decide) rfl
  rw[zB hp]at key;exact(key _ (kQ hp) rfl).elim
 rw[zA k2,zA (by omega),zA (by omega),zA (by omega)]at key;by_cases k8:c.kind=8
 .rw[zB k8]at key;unfold mV at key;rcases ha:sD S c.path with k|K
  .rw[ha]at key;exact(key k (aLX ha) rfl).elim
  rw[ha]at key;simp only at key;have hp:(aA c.path).1=0:=by
   unfold sD at ha;split at ha
   .cases ha
   rename_i hp;exact Decidable.of_not_not hp
  refine⟨hp,λe=>?_⟩;unfold sD at ha;rw[e,zA (by simpa using hp),zA (by unfold aL;simp)]at ha;obtain⟨x0,h0,-,h2⟩:=aBK hm;cases ha;have h3:S.ins[(aL S 0 []).1]? =some x0:=h0;rw[h3]at key;simp only[h2,if_true]at key;exact key 8 (by decide) rfl
 rw[zA k8]at key;by_cases k9:c.kind=9\/c.kind=10
 .rw[zB k9]at key;unfold gW at key;rcases ha:cV S c.path with k|y
  .rw[ha]at key;exact(key k (aGP ha) rfl).elim
  exact vQ ha
 rw[zA k9,zB (by omega)]at key;unfold gH eZ at key;by_cases hp:(aA c.path).1=0
 .refine⟨hp,λe=>?_⟩;rw[zA (by simpa using hp),e]at key;by_cases hp2:(aA c.path2).1=0
  .rw[zB hp2]at key;exact key 9 (by decide) rfl
  rw[zA hp2]at key;unfold lZ at key;rw[e]at key;exact key 9 (by decide) rfl
 rw[zB hp]at key;exact(key _ (kQ hp) rfl).elim
theorem aIL (hwf:S.wf) (hm:dB S=true) (h:eH S c≠.error 0->∀k,eH S c≠.error k) (hk:c.kind=8\/c.kind=11) (hpo:jZ c.path):jZ c.path2:=by
 have key:∀k,k≠0->eH S c=.error k->False:=λk h0 e=>by refine h ?_ k e;rw[e];intro e2;cases e2;exact h0 rfl
 unfold eH at key;rw[zA (by omega),zA (by omega),zA (by omega),zA (by omega),zA (by omega)]at key;by_cases k8:c.kind=8
 .rw[zB k8]at key;unfold mV at key;rcases ha:sD S c.path with k|K
  .rw[ha]at key;exact(key k (aLX ha) rfl).elim
  rw[ha]at key;simp only at key;rcases hx:S.ins[K]? with _|x
  .exfalso;obtain⟨x,hx2⟩:=aOK (gL hwf hm) ha;rw[hx]at hx2;cases hx2
  rw[hx]at key;simp only at key;by_cases hd:x.dir=true
  .rw[zB hd]at key;exact(key 8 (by decide) rfl).elim
  rw[zA hd]at key;rcases hq:cV S c.path2 with k|y
  .rw[hq]at key;exact(key k (aGP hq) rfl).elim
  exact vQ hq
 rw[zA k8,zA (by omega),zB (by omega)]at key;unfold gH eZ at key;rw[zA (by simpa using hpo.1)]at key;rcases ha:aX S (aA c.path).2 with k|⟨K,s⟩
 .rw[ha]at key;by_cases hp2:(aA c.path2).1=0
  .rw[zB hp2]at key;exact(key k (oP ha) rfl).elim
  rw[zA hp2]at key;unfold lZ at key;rw[ha]at key;exact(key k (oP ha) rfl).elim
 obtain⟨x,hx,hxd⟩:=xY ha;unfold lZ at key;rw[ha]at key;simp only[hx]at key;by_cases hp2:(aA c.path2).1=0
 .refine⟨hp2,λe=>?_⟩;rw[zB hp2,e]at key;unfold jN at key;rcases hh:bL x.ents s with _|_
  .rw[zB hh]at key;exact key 1 (by decide) rfl
  rw[zA (by rw[hh];decide)]at key;obtain⟨en,hen⟩:=aMA hh;rw[hen]at key;exact key 9 (by decide) rfl
 rw[zA hp2]at key;exfalso;rcases hh:bL x.ents s with _|_
 .rw[hh]at key;exact key 1 (by decide) rfl
 rw[zA (by rw[hh];decide)]at key;exact key _ (kQ hp2) rfl
theorem aRR (h:eH S c≠.error 0->∀k,eH S c≠.error k) (hk:c.kind=3\/c.kind=5\/c.kind=6):0<=cG (eD c) S.op:=by
 have key:∀k,k≠0->eH S c=.error k->False:=λk h0 e=>by refine h ?_ k e;rw[e];intro e2;cases e2;exact h0 rfl
 unfold eH at key;rw[zA (by omega),zA (by omega)]at key;rcases hf:dQ S c with _|y
 .exfalso;rcases hk with hk|hk|hk
  .rw[zB hk]at key;unfold kK at key;rw[hf]at key;exact key 4 (by decide) rfl
  .rw[zA (by omega),zB hk]at key;unfold jX at key;rw[hf]at key;exact key 4 (by decide) rfl
  rw[zA (by omega),zA (by omega),zB hk]at key;unfold jY at key;rw[hf]at key;exact key 4 (by decide) rfl
 exact aLY hf
theorem aIM (hwf:S.wf) (h:(mK S c).2.code=0):GatherOk S c:=by
 obtain⟨hm,hr⟩:=aLZ h;obtain⟨hmay,h0,h1⟩:=mN hm;have hk:0<=c.kind/\c.kind<=16:=by unfold fI at hm;simp only[zE,zI]at hm;exact⟨hm.1.1.1.1,hm.1.1.1.2⟩
 have hq:eH S c≠.error 0->∀k,eH S c≠.error k:=λh0 k e=>by
  rcases hr with⟨y,e2,-⟩|⟨e2,-⟩
  .rw[e2]at e;cases e
  exact h0 e2
 exact⟨hmay,⟨h0,h1⟩,hk,λk=>aBL hmay hq k,λk=>aIL hwf hmay hq k (aBL hmay hq (by omega)),λk=>aRR hq k⟩
end
theorem aJW {α:Type} (p:α->Bool) (l:List α) (q:Nat) {x:α} (h:l[q]? =some x):(l.drop q).all p=(p x&&(l.drop (q+1)).all p):=by obtain⟨hl,rfl⟩:=gI.1 h;rw[yH hl,List.all_cons]
theorem aFD (l:List ByteArray) (q:Nat) {x:ByteArray} (h:l[q]? =some x) (s:ByteArray):mA (l.drop q) s=mA (l.drop (q+1)) (s++((⟨#[47]⟩:ByteArray)++x)):=by obtain⟨hl,rfl⟩:=gI.1 h;rw[yH hl];rfl
theorem aJX (l:List ByteArray) (q:Nat) (h:¬q<l.length) (s:ByteArray):mA (l.drop q) s=s:=by rw[List.drop_eq_nil_of_le (by omega)];rfl
theorem aNT (ns:List ByteArray) (v:Value) (w:World) (h:RowAt w 1 v (ns.map λn=>[.string n])) (hlen:ns.length<=1000000):
 vR w 154 #[v] (.tuple #[.string (eJ ns).1,.int .i64 (eJ ns).2]):=by
 obtain⟨a,cap,rfl,hat⟩:=h.at_;rw[lM];have HA:=aG hat;obtain⟨R,hR⟩:∃R,eJ ns=R:=⟨_,rfl⟩;have HR:=aG hR;rw[hR];clear hat h hR;have a1:=λn ww=>aNF n ww;go_enter Tryz.func154,Tryz.ntmps154;go_wp2_with fail
 go_loopw[11] (λvi wr=>∃q:Nat,vi=.int .i64 q/\q<=ns.length/\ns.all iU=(ns.drop q).all iU/\Below w.heap.size w wr) (λvi _=>(ns.length-intOf vi).toNat)
 case atStart=>exact⟨0,rfl,by omega,by simp,bel _ _⟩
 obtain⟨q,rfl,hq,hre,hbr⟩:=hrel;have iB:Bel w wr:=⟨hbr⟩;by_cases hlt:q<ns.length
 .obtain⟨x,hx⟩:∃x,ns[q]? =some x:=⟨_,gE hlt⟩
  obtain⟨be,offe,rfl,iE0,iE,hce⟩:=HA.out wr hbr q [.string x] (by rw[gM,hx];rfl);have e0:=hce 0 _ rfl;rw[zN,Nat.mul_one]at e0;rw[aJW _ _ _ hx]at hre;rcases hm:iU x with _|_
  .have a0:R=(⟨#[]⟩,1100):=by
    rw[<-HR.out];unfold eJ;rw[hre,hm,yJ,zA (by decide)]
   subst a0;have h1:=a1 x;rw[hm]at h1;clear hre hx hce hm;go_wp2_with(go_at_call 132;refine aE (h1 _) λp=>?_)
   go_ret2;refine⟨rfl,bel _ _⟩
  have h1:=a1 x;rw[hm]at h1 hre;rw[xA]at hre;have HE:=aG hre;clear hre hx hce hm;go_wp2_with(go_at_call 132;refine aE (h1 _) λp=>?_);go_roundw
  case rel=>exact⟨q+1,by go_num,by omega,HE.out,bel _ _⟩
  simp[intOf];omega
 rw [List.drop_eq_nil_of_le (by omega)]at hre;have HE:=aG hre;clear hre;by_cases h4:4<ns.length
 .have a0:R=(⟨#[]⟩,1102):=by
   rw[<-HR.out];unfold eJ;rw[HE.out,List.all_nil,zB rfl,zB h4]
  subst a0;have a3:(4:Int)<ns.length:=by omega
  go_wp2_with fail
  go_ret2;refine⟨rfl,bel _ _⟩
 have a3:¬(4:Int)<ns.length:=by omega
 have a2:R=if 64<(mA ns ⟨#[]⟩).size then(⟨#[]⟩,1101)else if(mA ns ⟨#[]⟩).size=0 then(⟨#[47]⟩,0)else(mA ns ⟨#[]⟩,0):=by rw[<-HR.out];unfold eJ;rw[HE.out,List.all_nil,zB rfl,zA h4]
 have HJ:=aG a2;clear a2;go_wp2_with fail
 go_loopw[4,24] (λvs vi wr=>∃(q:Nat) (s:ByteArray),vi=.int .i64 q/\vs=.string s/\q<=ns.length/\s.size<=13*q/\mA ns ⟨#[]⟩=mA (ns.drop q) s/\Below w.heap.size w wr) (λ_ vi _=>(ns.length-intOf vi).toNat)
 case atStart=>exact⟨0,⟨#[]⟩,rfl,rfl,by omega,by decide,by simp,bel _ _⟩
 obtain⟨q,s,rfl,rfl,hq,hsz,hre,hbr⟩:=hrel;have iB:Bel w wr:=⟨hbr⟩;by_cases hlt:q<ns.length
 .obtain⟨x,hx⟩:∃x,ns[q]? =some x:=⟨_,gE hlt⟩
  obtain⟨be,offe,rfl,iE0,iE,hce⟩:=HA.out wr hbr q [.string x] (by rw[gM,hx];rfl);have e0:=hce 0 _ rfl;rw[zN,Nat.mul_one]at e0;rw[aFD _ _ hx]at hre;have a6:x.size<=12:=uW (List.all_eq_true.1 (HE.out.trans rfl) x (mG hx));have n1:¬9223372036854775807<1+x.size:=by omega
  have n2:¬9223372036854775807<s.size+(1+x.size):=by omega
  have a4:=aG hre;clear hre hx hce;go_wp2_with fail;go_roundw
  case rel=>exact⟨q+1,_,by go_num,rfl,by omega,by rw[yY,yY];show s.size+(1+x.size)<=_;omega,a4.out,bel _ _⟩
  simp[intOf];omega
 rw [aJX _ _ hlt]at hre;rw[hre]at HJ;clear hre;by_cases h64:64<s.size
 .have a0:R=(⟨#[]⟩,1101):=by rw[HJ.out,zB h64]
  subst a0;have a5:(64:Int)<s.size:=by omega
  go_wp2_with fail
  go_ret2;refine⟨rfl,bel _ _⟩
 have a5:¬(64:Int)<s.size:=by omega
 by_cases h0:s.size=0
 .have a0:R=(⟨#[47]⟩,0):=by rw[HJ.out,zA h64,zB h0]
  subst a0;have i0:s.toList.isEmpty=true:=by rw[zW,List.isEmpty_iff];exact zT h0
  clear h0;go_wp2_with fail
  go_ret2;refine⟨rfl,bel _ _⟩
 have a0:R=(s,0):=by rw[HJ.out,zA h64,zA h0]
 subst a0;have i0:s.toList.isEmpty=false:=by rw[zW,Bool.eq_false_iff];intro h;rw[List.isEmpty_iff]at h;apply h0;show s.data.toList.length=0;rw[h];rfl
 clear h0;go_wp2_with fail
 go_ret2;refine⟨rfl,bel _ _⟩
theorem vS (s:ByteArray) (w:World):Calls Tryz.prog 153 #[.string s] w λe w'=>∃v,e=.returned (.tuple #[v,.int .i64 (aA s).1])/\Below w.heap.size w w'/\OwnP 0 w' 9 1 v ((aA s).2.map λn=>[.string n])/\∀b,v.ownBlock=some b->w.heap.size<=b:=by refine(tT s w).mono ?_;rintro e w' ⟨v,he,hb,ho,hg⟩;have:=(OwnP.of_own (rows:=(aA s).2.map λn=>[.string n]) (by rw[lM,qD];exact ho) (by decide) (by intro cs h;obtain⟨x,_,rfl⟩:=List.mem_map.1 h;rfl));exact⟨v,he,hb,this,hg⟩
theorem aGT (iv ov mv:Value) (S:PSt) (p:ByteArray) (w:World) (h:StRead w iv ov mv S) (hwf:S.wf):
 vR w 152 #[.agg #[iv,ov,mv],.string p] (.tuple #[.int .i64 (fH S p).1,.int .i64 (fH S p).2]):=by
 have b3:=h.box 26;have h1:=h.1.one;have h2:=h.2.1.one;have h3:iv.oneCell'=true:=by obtain⟨_,_,_,h3,_⟩:=h;exact h3.one
 have a1:=λww=>vS p ww;have a3:=λc ww=>sH c ww;have a0:=λww (hb:Below w.heap.size w ww)=>aCE iv ov mv S ww (h.below hb (zC _)) hwf;obtain⟨R,hR⟩:∃R,fH S p=R:=⟨_,rfl⟩;rw[hR];have HR:=aG hR;clear hR;by_cases hp:(aA p).1=0
 .have b6:=cM hp;rw[hp]at a1;rcases hm:dB S with _|_
  .have a7:R=(0,9):=by
    rw[<-HR.out];unfold fH;rw[zA (by simpa using hp),zA (by rw[hm];decide)]
   subst a7;rw[hm]at a0;generalize(aA p).2=ns at *;clear h hp b3 a3 hm;go_enter Tryz.func152,Tryz.ntmps152;go_wp2_with(first|(go_at_call 153;refine(a1 _).mono ?_;rintro e w1 ⟨nv,rfl,hb1,hnm,hng⟩;obtain⟨p1,rfl⟩:=hb1.rest;clear hb1;obtain⟨an,cn,rfl,-⟩:=hnm.row)|(go_at_call 39;refine aE (a0 _ (bel _ _)) λp=>?_))
   go_ret2;refine⟨rfl,bel _ _⟩
  have hf:=gL hwf hm;have a7:R=if(aL S 0 (aA p).2).2≠0 then(0,(aL S 0 (aA p).2).2)else(jQ S (aL S 0 (aA p).2).1,0):=by rw[<-HR.out];unfold fH;rw[zA (by simpa using hp),zB hm]
  have b5:=eT hf (aA p).2 0 hf.pos;have a9:∀ww v,Below (w.alloc (.cells #[iv,ov,mv] 26)).heap.size (w.alloc (.cells #[iv,ov,mv] 26)) ww->RowAt ww 1 v ((aA p).2.map λn=>[.string n])->Calls Tryz.prog 191 #[.pointer (some ⟨w.heap.size,0,none⟩),v] ww _:=λww v hb hv=>sM w.heap.size S (aA p).2 v ww (b3.below hb (zC _)) hf.wf hf.pos hf.find hv (zD b6 (by decide));rw[hm]at a0;obtain⟨ai,capi,rfl,hati⟩:=h.ins_at2;have HI:=aG hati;generalize(aA p).2=ns at *;generalize hwr:aL S 0 ns=WR at *;obtain⟨k,cd⟩:=WR;simp only at a7 b5 a9;have HN:=aG hwr;clear h hp b3 a3 hm hati hwr;by_cases hcd:cd=0
  .subst hcd;obtain⟨x,hx⟩:∃x,S.ins[k]? =some x:=⟨_,gE b5⟩
   have b4:R=(x.num,0):=by rw[a7,zA (by simp)];unfold jQ;rw[hx]
   subst b4;clear a7;obtain⟨bi,off,ev,rfl,iG0,ho1,hev,hcl⟩:=HI.out k x hx;have b7:(k:Int)<S.ins.length:=by omega
   clear hev;go_enter Tryz.func152,Tryz.ntmps152;go_upto_region 2 with(go_at_call 153;refine(a1 _).mono ?_;rintro e w1 ⟨nv,rfl,hb1,hnm,hng⟩;obtain⟨p1,rfl⟩:=hb1.rest;clear hb1;have a2:=hnm.row;obtain⟨an,cn,rfl,-⟩:=hnm.row)
   rw[lM]at a2;refine aI (F:=λwA=>Below (w.alloc (.cells #[.slice (some ⟨bi,off,none⟩) S.ins.length capi,ov,mv] 26)).heap.size (w.alloc (.cells #[.slice (some ⟨bi,off,none⟩) S.ins.length capi,ov,mv] 26)) wA/\RowAt wA 1 (.slice an ns.length cn) (ns.map λn=>[.string n])) ⟨bel _ _,a2⟩ ?_;clear a2 hnm a1;rintro wA ⟨hbA,hrA⟩;have a4:Blk wA w.heap.size #[.slice (some ⟨bi,off,none⟩) S.ins.length capi,ov,mv] 26:=(Blk.new w _ 26).below hbA (by simp);have b0:wA.cell? ⟨w.heap.size,0,none⟩=some (.slice (some ⟨bi,off,none⟩) S.ins.length capi):=a4.cell 0;have b1:wA.cell? ⟨w.heap.size,1,none⟩=some ov:=a4.cell 1;have b2:wA.cell? ⟨w.heap.size,2,none⟩=some mv:=a4.cell 2;have iB:=a4.lt;have a6:Below w.heap.size w wA:=(bel w (w.alloc (.cells #[.slice (some ⟨bi,off,none⟩) S.ins.length capi,ov,mv] 26))).trans (hbA.mono (by simp));have a5:=λww (hb:Below wA.heap.size wA ww)=>a0 ww (a6.trans (hb.mono a6.size));have a8:=λww (hb:Below wA.heap.size wA ww)=>a9 ww _ (hbA.trans (hb.mono hbA.size)) (hrA.below hb (zC _));obtain⟨iGA,y0,-⟩:=hcl wA a6;clear hcl;have HB:=aG a6;clear a9 a0 hbA hrA a4 a6;go_wp2_with(first|(go_at_call 39;refine aE (a5 _ (bel _ _)) λp=>?_)|(go_at_call 191;refine aE (a8 _ (bel _ _)) λp=>?_))
   go_ret2;refine⟨rfl,HB.out.trans ((bel wA _).mono HB.out.size)⟩
  have b4:R=(0,cd):=by rw[a7,zB hcd]
  subst b4;clear a7;have b8:(cd !=0)=true:=by simpa using hcd
  clear hcd;go_enter Tryz.func152,Tryz.ntmps152;go_upto_region 2 with(go_at_call 153;refine(a1 _).mono ?_;rintro e w1 ⟨nv,rfl,hb1,hnm,hng⟩;obtain⟨p1,rfl⟩:=hb1.rest;clear hb1;have a2:=hnm.row;obtain⟨an,cn,rfl,-⟩:=hnm.row)
  rw[lM]at a2;refine aI (F:=λwA=>Below (w.alloc (.cells #[.slice ai S.ins.length capi,ov,mv] 26)).heap.size (w.alloc (.cells #[.slice ai S.ins.length capi,ov,mv] 26)) wA/\RowAt wA 1 (.slice an ns.length cn) (ns.map λn=>[.string n])) ⟨bel _ _,a2⟩ ?_;clear a2 hnm a1;rintro wA ⟨hbA,hrA⟩;have a4:Blk wA w.heap.size #[.slice ai S.ins.length capi,ov,mv] 26:=(Blk.new w _ 26).below hbA (by simp);have b0:wA.cell? ⟨w.heap.size,0,none⟩=some (.slice ai S.ins.length capi):=a4.cell 0;have b1:wA.cell? ⟨w.heap.size,1,none⟩=some ov:=a4.cell 1;have b2:wA.cell? ⟨w.heap.size,2,none⟩=some mv:=a4.cell 2;have iB:=a4.lt;have a6:Below w.heap.size w wA:=(bel w (w.alloc (.cells #[.slice ai S.ins.length capi,ov,mv] 26))).trans (hbA.mono (by simp));have a5:=λww (hb:Below wA.heap.size wA ww)=>a0 ww (a6.trans (hb.mono a6.size));have a8:=λww (hb:Below wA.heap.size wA ww)=>a9 ww _ (hbA.trans (hb.mono hbA.size)) (hrA.below hb (zC _));have HB:=aG a6;clear a9 a0 hbA hrA a4 a6;go_wp2_with(first|(go_at_call 39;refine aE (a5 _ (bel _ _)) λp=>?_)|(go_at_call 191;refine aE (a8 _ (bel _ _)) λp=>?_))
  go_ret2;refine⟨rfl,HB.out.trans ((bel wA _).mono HB.out.size)⟩
 have a7:R=(0,dN (aA p).1):=by rw[<-HR.out];unfold fH;rw[zB hp]
 subst a7;generalize(aA p).1=pc at *;generalize(aA p).2=ns at *;have b9:(pc !=0)=true:=by simpa using hp
 have hc:=a3 pc;generalize dN pc=cc at *;clear a0 h hp b3;go_enter Tryz.func152,Tryz.ntmps152;go_wp2_with(first|(go_at_call 153;refine(a1 _).mono ?_;rintro e w1 ⟨nv,rfl,hb1,hnm,hng⟩;obtain⟨p1,rfl⟩:=hb1.rest;clear hb1;obtain⟨an,cn,rfl,-⟩:=hnm.row)|(go_at_call 190;refine aE (hc _) λp=>?_))
 go_ret2;refine⟨rfl,bel _ _⟩
section
theorem aRZ:(Tryz.prog.info? 61).map (λi=>(i.zero,i.size,i.bytes))=some (some (.agg #[.int .i64 0,.string { data:=#[]}]),2,24):=by kernel_rfl
theorem aTT {w:World} {ops:Array Oper} {rest:List Oper} {o:Oper} {a:Act} {Q:Exit->Act->World->Prop} (hgd:o.guard=none) (s y:Operand)
 (hop:o.op=.call { callee:=.builtin .append,args:=#[s,y],argTypes:=#[29,29]}) (B:Nat) (v x:Value) (zs more:List PKey) (hs:a.eval s=v) (hy:a.eval y=x) (ho:OwnP B w 61 2 v (zs.map PKey.cells)) (hx:RowAt w 2 x (more.map PKey.cells)) (hl:zs.length+more.length<=1000000000000) (hB:B<=w.heap.size)
 (h:∀v' w',Grew B 61 2 w v ((zs++more).map PKey.cells) v' w'->wpList Tryz.prog ops Q rest (a.put o.dst v') w'):
 wpList Tryz.prog ops Q (o::rest) a w:=by
 obtain⟨i,hi,hz,h1,h2⟩:=info_parts aRZ;refine cP w hgd s y 29 hop B 61 2 24 i _ Tryz.underlying29 hi hz h1 h2 rfl (by decide) v x (zs.map PKey.cells) (more.map PKey.cells) hs hy (aCI _) (aCI _) (aCJ _) ho hx ?_ ?_ hB ?_
 .rw[lM,lM];unfold maxLen;omega
 .rw[lM,lM];omega
 intro v' w' hg;rw[<-yR]at hg;exact h v' w' hg
def qQ (w:World) (g:Nat):Prop:=∃c t,Blk w g c t/\(t=61\/t=106)
theorem aQC {w:World} {g:Nat} {c:Array Value} {t:TypeId} (h:Blk w g c t) (h1:t≠61) (h2:t≠106):¬qQ w g:=λ⟨c',t',hb',ht'⟩=>by
 by_cases e:t=t'
 .subst e;rcases ht' with h|h
  .exact h1 h
  exact h2 h
 exact Blk.ne_ h hb' e rfl
structure GAt (w0 w:World) (S S':PSt) (c:PCall) (bs bh bc:Nat) (ks:List PKey):Prop where
 sp:SP w0 bs S
 sh:SP w0 bh S'
 cp:CP w0 bc c
 below:Below w0.heap.size w0 w
 own:∃out,Blk w w0.heap.size #[.pointer (some ⟨bs,0,none⟩),.pointer (some ⟨bh,0,none⟩),.pointer (some ⟨bc,0,none⟩),out] 106/\OwnP w0.heap.size w 61 2 out (ks.map PKey.cells)
section
variable {w0 w w':World} {S S':PSt} {c:PCall} {bs bh bc:Nat} {ks:List PKey}
theorem GAt.later (h:GAt w0 w S S' c bs bh bc ks) (hb:Below w.heap.size w w'):GAt w0 w' S S' c bs bh bc ks:=by obtain⟨h1,h2,h3,h4,out,h5,h6⟩:=h;exact⟨h1,h2,h3,h4.trans (hb.mono h4.size),out,h5.below hb h5.lt.lt,OwnP.keep h6 (Keep.of_below hb (λ_=>False)) (λ_ _ h=>h)⟩
theorem iP (h:GAt w0 w S S' c bs bh bc ks) (hl:ks.length<=1000000) (n:Int) (s:ByteArray):
 Calls Tryz.prog 113 #[.pointer (some ⟨w0.heap.size,0,none⟩),.int .i64 n,.string s] w λe w'=>e=.returned (.tuple #[])/\GAt w0 w' S S' c bs bh bc (ks++[⟨n,s⟩])/\Keep (qQ w) w w':=by
 obtain⟨h1,h2,h3,h4,out,h5,h6⟩:=h;have iG:=h5.lt;have g3:w.cell? ⟨w0.heap.size,3,none⟩=some out:=h5.cell 3;have a3:=λg hg=>h6.ne_blk h5 (by decide) (g:=g) hg;have b1:=h4.size;have a4:∀g,out.ownBlock=some g->qQ w g:=λg hg=>by
  rcases h6 with⟨rfl,_⟩|⟨g',cap,arr,rfl,_,hb,_⟩
  .simp[Value.ownBlock]at hg
  simp[Value.ownBlock]at hg;subst hg;exact⟨_,_,hb,.inl rfl⟩
 have a5:qQ w w0.heap.size:=⟨_,_,h5,.inr rfl⟩;have b2:=h6.one;have H6:=aG h6;have H5:=aG h5;clear h6 h5;go_enter Tryz.func113,Tryz.ntmps113;go_wp2_with(at_builtin;refine aTT rfl _ _ rfl w0.heap.size out (.slice (some ⟨w.heap.size,0,none⟩) 1 1) ks [⟨n,s⟩] rfl rfl ?c1 ?c2 ?c3 ?c4 ?_)
 case c1=>exact OwnP.keep H6.out (Keep.of_below (bel w _) (λ_=>False)) (λ_ _ h=>h)
 case c2=>exact(OwnP.row (B:=0) (e:=61) (.inr ⟨w.heap.size,1,#[.int .i64 n,.string s],rfl,Nat.zero_le _,Blk.new _ _ _,zC _,by decide,rfl,λq cs hq t u hu=>by
  rcases q with _|q
  .simp only[yZ,List.map_nil,zH,zF]at hq;subst hq;rw[Nat.zero_mul,zM];rcases t with _|_|t
   .exact hu
   .exact hu
   simp[PKey.cells]at hu
  simp at hq⟩))
 case c3=>simp;omega
 case c4=>simp;omega
 intro v' w1 hG;obtain⟨hown,hkeep,-⟩:=hG;rw[show List.map PKey.cells ks++[PKey.cells ⟨n,s⟩]=(ks++([⟨n,s⟩]:List PKey)).map PKey.cells by simp]at hown;have a0:Blk w1 w0.heap.size #[.pointer (some ⟨bs,0,none⟩),.pointer (some ⟨bh,0,none⟩),.pointer (some ⟨bc,0,none⟩),out] 106:=hkeep.blk (H5.out.alloc _) (λhg=>a3 _ hg rfl);have b3:=a0.lt;have b4:w1.cell? ⟨w0.heap.size,3,none⟩=some out:=a0.cell 3;have fz:=a0.frozen 3;have a1:∀g,out.ownBlock=some g->w0.heap.size<=g:=λg hg=>H6.out.ge hg;have a6:Keep (λg=>g=w0.heap.size\/out.ownBlock=some g) w w1:=(Keep.of_below (bel w (w.alloc (.cells #[.int .i64 n,.string s] 61))) (λg=>g=w0.heap.size\/out.ownBlock=some g)).trans hkeep (λi hi hg=>.inr hg);obtain⟨av,nv,cv,rfl⟩:∃av nv cv,v'=.slice av nv cv:=by obtain⟨a,c,h,-⟩:=hown.row;exact⟨a,_,c,h⟩
 have a2:=a6.setCell (p:=⟨w0.heap.size,3,none⟩) (.inl (.inl rfl)) (.slice av nv cv);have a7:=a2.mono (S':=qQ w) (λi hi hg=>hg.elim (λe=>by rw[e];exact a5) (a4 i));have a8:=a0.set_ 3 (.slice av nv cv);have a9:OwnP w0.heap.size (w1.setCell ⟨w0.heap.size,3,none⟩ (.slice av nv cv)) 61 2 (.slice av nv cv) ((ks++([⟨n,s⟩]:List PKey)).map PKey.cells):=OwnP.keep hown (Keep.setCell (S:=λg=>g=w0.heap.size) (p:=⟨w0.heap.size,3,none⟩) (Keep.refl _ w1) (.inl rfl) (.slice av nv cv)) (λg hg a1=>hown.ne_blk a0 (by decide) hg a1);have b0:Below w0.heap.size w0 (w1.setCell ⟨w0.heap.size,3,none⟩ (.slice av nv cv)):=h4.trans (a2.below b1 (λi hi hg=>hg.elim (λe=>by omega) (λe=>by have:=a1 i e;omega)));have HF:=kL a7 a8 a9 b0;clear hown hkeep a6 a2 a7 a8 a9 b0 a4 a5 h4 g3 iG H6 H5 a3 a1;go_wp2_with fail;exact xC (v:=.tuple #[]) (by simp[results,go_sem]) rfl ⟨rfl,⟨h1,h2,h3,HF.out.2.2.2,_,HF.out.2.1,HF.out.2.2.1⟩,HF.out.1⟩
end
end
section
section
variable {w0 w w' w1 w2:World} {S S':PSt} {c:PCall} {bs bh bc:Nat} {ks:List PKey}
theorem dW (h:Keep (qQ w) w w1) (k:Keep (qQ w1) w1 w2):Keep (qQ w) w w2:=h.trans k λi hi hg=>Classical.byContradiction λhn=>hn (by
 obtain⟨c,t,hb,ht⟩:=hg;have:=h.block i hi hn;exact⟨c,t,by unfold Blk at hb |-;rw[<-this];exact hb,ht⟩)
theorem eO (hb:Below w.heap.size w w1):Keep (qQ w) w w1:=Keep.of_below hb _
def aAD (w0 w:World) (S S':PSt) (c:PCall) (bs bh bc:Nat) (ks:List PKey) (e:Ending) (w':World):Prop:=e=.returned (.tuple #[])/\GAt w0 w' S S' c bs bh bc ks/\Keep (qQ w) w w'
theorem mR (h:GAt w0 w S S' c bs bh bc ks) (hl:ks.length<=1000000) {b:Nat} {S1:PSt} (hsp:SP w0 b S1) (hwf:S1.wf) (p:ByteArray):
 Calls Tryz.prog 110 #[.pointer (some ⟨w0.heap.size,0,none⟩),.pointer (some ⟨b,0,none⟩),.string p] w (aAD w0 w S S' c bs bh bc (ks++eC S1 p)):=by
 obtain⟨hl0,iv,ov,mv,c0,c1,c2,hr⟩:=hsp.below h.below (zC _);have ib:BlockLt b w:=⟨hl0⟩;have o1:=hr.1.one;have o2:=hr.2.1.one;have o3:iv.oneCell'=true:=by obtain⟨_,_,_,h3,_⟩:=hr;exact h3.one
 have hf:=aGT iv ov mv S1 p w hr hwf;have a0:=fun(q:Behind)=>iP (h.later (bel w (w.junk q))) hl (fH S1 p).1 ⟨#[]⟩;have HG:=aG h;unfold eC;generalize fH S1 p=F at *;obtain⟨num,code⟩:=F;clear h hr hsp;go_enter Tryz.func110,Tryz.ntmps110;go_wp2_with(first|(go_at_call 152;refine hf.mono ?_;rintro e w1 ⟨rfl,hb⟩;obtain⟨q,rfl⟩:=hb.rest;clear hb)|(go_at_call 113;refine(a0 _).mono ?_;rintro e w2 ⟨rfl,hg,hk⟩));exact xC (v:=.tuple #[]) (by simp[results,go_sem]) rfl ⟨rfl,hg,dW (eO (bel w _)) hk⟩
end
theorem aIP (zs:List PDesc) (v:Value) (l0:Value) (p:PDesc->Bool) (w:World) (h:RowAt w 3 v (zs.map PDesc.cells)) (hlen:zs.length<=1000000000)
 (hg:∀(z:PDesc) (ww:World),z∈zs->Below w.heap.size w ww->vR ww 155 #[.agg #[.int .i64 z.core,.int .i64 z.fd,.int .i64 z.num],l0] (.bool (p z))):
 vR w 136 #[v,.func (.func 155) #[] #[l0]] (.int .i64 (cG p zs)):=by
 obtain⟨a,cap,rfl,hat⟩:=h.at_;rw[lM];have HA:=aG hat;clear hat h;unfold cG;obtain⟨R,hR⟩:∃R,bG p zs 0=R:=⟨_,rfl⟩;rw[hR];have HR:=aG hR;clear hR;go_enter Tryz.func136,Tryz.ntmps136;go_wp2_with fail
 go_loopw[8] (λi wr=>∃(q:Nat),i=.int .i64 q/\q<=zs.length/\bG p (zs.drop q) q=R/\Below w.heap.size w wr) (λi _=>(zs.length-intOf i).toNat)
 case atStart=>exact⟨0,rfl,by omega,HR.out,bel _ _⟩
 case round=>
  obtain⟨q,rfl,hq,hre,hb⟩:=hrel;have iB:Bel w wr:=⟨hb⟩;by_cases hlt:q<zs.length
  .obtain⟨z,hz⟩:∃z,zs[q]? =some z:=⟨_,gE hlt⟩
   obtain⟨b,off,rfl,iG0,iG,hc⟩:=HA.out wr hb q (PDesc.cells z) (by rw[gM,hz];rfl);have c0:=hc 0 _ rfl;have c1:=hc 1 _ rfl;have c2:=hc 2 _ rfl;rw[fO p zs q z hz]at hre;have a0:vB w 155 #[.agg #[.int .i64 z.core,.int .i64 z.fd,.int .i64 z.num],l0] (.bool (p z)):=λww hww=>hg z ww (mG hz) hww;have HZ:=bB hz hre;clear hc hz hre hg;rw[zN]at c0;generalize hpz:p z=t at a0 HZ;rcases t with _|_
   .go_wp2_with(go_at_call 155;refine aE (a0 _ (bel _ _)) λp=>?_)
    go_roundw
    case rel=>exact⟨q+1,by go_num,by omega,by have:=HZ.out.2;simpa using this,bel _ _⟩
    simp[intOf];omega
   have hv:R=q:=by have:=HZ.out.2;simpa using this.symm
   subst hv;go_wp2_with(go_at_call 155;refine aE (a0 _ (bel _ _)) λp=>?_);go_ret;exact⟨rfl,bel _ _⟩
  .rw[gQ p zs q hlt]at hre;subst hre;clear hg;go_wp2_with fail;go_ret;exact⟨rfl,bel _ _⟩

theorem aIQ (g bc:Nat) (b1 b2 out:Value) (c:PCall) (x:PDesc) (bx:Nat) (w:World) (hg:Blk w g #[b1,b2,.pointer (some ⟨bc,0,none⟩),out] 106) (hc:CP w bc c) (ib:BlockLt bx w) (hx:w.cell? ⟨bx,0,none⟩=some (.pointer (some ⟨g,0,none⟩))):
 vR w 155 #[.agg #[.int .i64 x.core,.int .i64 x.fd,.int .i64 x.num],.pointer (some ⟨bx,0,none⟩)] (.bool (eD c x)):=by
 have iG:=hg.lt;have g2:w.cell? ⟨g,2,none⟩=some (.pointer (some ⟨bc,0,none⟩)):=hg.cell 2;have iC:BlockLt bc w:=⟨hc.1⟩;have c1:=hc.2 1 _ rfl;have c2:=hc.2 2 _ rfl;unfold eD;clear hg hc;rcases hb1:(x.core==c.core)with _|_
 .go_enter Tryz.func155,Tryz.ntmps155
  go_wp2_with fail;refine qR ?_
  repeat(go_big_quiet_step (fail))
  refine QN λp=>?_;go_wp2_with fail;go_ret;exact⟨rfl,bel _ _⟩
 go_enter Tryz.func155,Tryz.ntmps155;go_wp2_with fail;refine qR ?_
 repeat(go_big_quiet_step (fail))
 refine QN λp=>?_;go_wp2_with fail;go_ret;exact⟨by first|rfl|simp_all,bel _ _⟩
section
variable {w0 w w' w1 w2:World} {S S':PSt} {c:PCall} {bs bh bc:Nat} {ks:List PKey}
theorem vT (h:GAt w0 w S S' c bs bh bc ks) (hl:ks.length<=1000000) (hwf:S.wf) (hfd:0<=cG (eD c) S.op):
 Calls Tryz.prog 112 #[.pointer (some ⟨w0.heap.size,0,none⟩)] w (aAD w0 w S S' c bs bh bc (ks++gC S c)):=by
 obtain⟨hl0,iv,ov,mv,c0,c1,c2,hr⟩:=h.sp.below h.below (zC _);have ib:BlockLt bs w:=⟨hl0⟩;obtain⟨out,hgb,-⟩:=h.own;have iG:=hgb.lt;have g0:w.cell? ⟨w0.heap.size,0,none⟩=some (.pointer (some ⟨bs,0,none⟩)):=hgb.cell 0;have a3:CP w bc c:=⟨zR h.cp.1 h.below.size,λt u hu=>(h.below.cell (p:=⟨bc,t,none⟩) h.cp.1).trans (h.cp.2 t u hu)⟩;have a5:=jT (eD c) S.op;obtain⟨k,hk⟩:∃k:Nat,cG (eD c) S.op=k:=⟨(cG (eD c) S.op).toNat,by omega⟩;rw[hk]at a5;obtain⟨d,hd⟩:∃d,S.op[k]? =some d:=⟨_,gE (by omega)⟩;have a0:gC S c=[⟨d.num,⟨#[]⟩⟩]:=by unfold gC;rw[hk,zJ,hd]
 rw[a0];have a1:∀ww,Below w.heap.size w ww->RowAt ww 3 ov (S.op.map PDesc.cells):=λww hb=>hr.1.below hb (zC _);have a2:∀ww bx,Below w.heap.size w ww->BlockLt bx ww->ww.cell? ⟨bx,0,none⟩=some (.pointer (some ⟨w0.heap.size,0,none⟩))->vR ww 136 #[ov,.func (.func 155) #[] #[.pointer (some ⟨bx,0,none⟩)]] (.int .i64 k):=λww bx hb i hx=>by have:=aIP S.op ov (.pointer (some ⟨bx,0,none⟩)) (eD c) ww (a1 ww hb) hwf.2.1 (λz w3 _ hb3=>aIQ w0.heap.size bc _ _ out c z bx w3 (hgb.below (hb.trans (hb3.mono hb.size)) iG.lt) ⟨by have:=a3.1;have:=hb.size;have:=hb3.size;omega,λt u hu=>((hb.trans (hb3.mono hb.size)).cell (p:=⟨bc,t,none⟩) a3.1).trans (a3.2 t u hu)⟩ ⟨by have:=i.lt;have:=hb3.size;omega⟩ ((hb3.cell (p:=⟨bx,0,none⟩) i.lt).trans hx));rw[hk]at this;exact this
 have a4:=fun(ww:World) (hb:Below w.heap.size w ww)=>iP (h.later hb) hl d.num ⟨#[]⟩;obtain⟨ao,co,rfl,hato⟩:=hr.1.at_;rw[lM]at c1 a2;obtain⟨bo,offo,rfl,iO0,iO,hco⟩:=hato w (bel _ _) k d.cells (by rw[gM,hd];rfl);have o2:w.cell? ⟨bo,offo+k*3+2,none⟩=some (.int .i64 d.num):=hco 2 _ rfl;have a6:(k:Int)<S.op.length:=by omega
 clear hr a1 hato hco hgb a3 hk a0 hd a5 h c0 c2 hfd;go_enter Tryz.func112,Tryz.ntmps112;go_upto_region 2 with(go_at_call 136;refine aE (a2 _ _ (bel _ _) inferInstance (by go_simp)) λp=>?_)
 refine aC [12] true (λw'=>w'.cell? ⟨w.heap.size,0,none⟩=some (.pointer (some ⟨w0.heap.size,0,none⟩))/\w'.cell? ⟨w0.heap.size,0,none⟩=some (.pointer (some ⟨bs,0,none⟩))/\w'.cell? ⟨bs,1,none⟩=some (.slice (some ⟨bo,offo,none⟩) S.op.length co)/\w'.cell? ⟨bo,offo+k*3+2,none⟩=some (.int .i64 d.num)) (by kernel_rfl) (by kernel_rfl) ?_ ?_
 · (try dsimp only);(repeat' apply And.intro)<;>go_simp
 repeat
  refine aH rfl rfl ?_;apply Exists.intro;refine⟨?_,?_⟩
  focus
   rintro w' ⟨s0,s1,s2,s3⟩;go_simp
   first|done|rfl
  simp only[Act.put,sA,sZ,sS]
 refine aZ rfl rfl ?_;refine aS 113 #[.pointer (some ⟨w0.heap.size,0,none⟩),.int .i64 d.num,.string ⟨#[]⟩] ?_ ((a4 ((w.alloc (.cells #[.pointer (some ⟨w0.heap.size,0,none⟩)] 103)).junk p).drew (bel w _)).mono ?_)
 .go_simp
  first|done|rfl
 rintro e w2 ⟨rfl,hg,hk⟩;refine⟨_,rfl,.inr ⟨rfl,rfl⟩,?_⟩;refine aQ ?_;exact xC (v:=.tuple #[]) (by simp[results,go_sem]) rfl ⟨rfl,hg,dW (eO (bel w _)) hk⟩
end
end
end Go.Proofs.YtmkapobnfigedaaGreatDoor
