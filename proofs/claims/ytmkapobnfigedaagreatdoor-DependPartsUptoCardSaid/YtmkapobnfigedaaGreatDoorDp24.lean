/- A part of a proof of a law. Conditions: none. -/
import Derived.Test.YtmkapobnfigedaaGreatDoorDp16
import Derived.Test.YtmkapobnfigedaaGreatDoorDp20
set_option linter.unusedVariables false
set_option linter.unusedSimpArgs false
set_option maxRecDepth 100000
set_option maxHeartbeats 40000000
namespace Go.Proofs.YtmkapobnfigedaaGreatDoor
open Go.Proofs.Tryz List Go.RowKit
section
theorem aBS (S:PSt):∀(l:List PDesc) (p:Option PDesc),fL S p l=true->(match p with|none=>True|some q=>q.fd<4)->((match p with|none=>0|some q=>q.core*4+q.fd+1:Int)<=(S.made.length:Int)*4)->(match p with|none=>0|some q=>q.core*4+q.fd+1:Int)+(l.length:Int)<=(S.made.length:Int)*4
 |[],p,_,_,h=>by simpa using h
 | d :: l, p,h,hq,hp=>by
   unfold fL at h;split at h
   .cases h
   split at h
   .cases h
   split at h
   .cases h
   split at h
   .cases h
   split at h
   .cases h
   split at h
   .cases h
   rename_i c0 c1 f0 f1 hpr _;split at h
   .split at h
    .cases h
    have ih:=aBS S l (some d) h (by show d.fd<4;omega) (by show d.core*4+d.fd+1<=(S.made.length:Int)*4;omega);have a0:d.core*4+d.fd+1+(l.length:Int)<=(S.made.length:Int)*4:=ih;rw[zK];rcases p with _|q
    .show(0:Int)+((l.length+1:Nat):Int)<=_
     push_cast;omega
    show q.core*4+q.fd+1+((l.length+1:Nat):Int)<=_;have a1:q.fd<4:=hq;unfold kN at hpr;simp only[yI,zI,zE]at hpr;have a2:q.core*4+q.fd+1<=(S.made.length:Int)*4:=hp;push_cast;by_cases e:q.core=d.core
    .have:¬d.fd<=q.fd:=λh=>hpr (.inr ⟨e,h⟩)
     omega
    have:¬d.core<q.core:=λh=>hpr (.inl h);omega
   cases h
structure MayBounds (S:PSt):Prop where
 small:Small S
 op:S.op.length<=32
 data:∀x∈S.ins,x.data.size<=256
 made0:0<S.made.length
variable {S:PSt} {c:PCall}
theorem qZ (hwf:S.wf) (hm:cO S=true):MayBounds S:=by
 have T:=pQ hwf hm;have a0:=hm;unfold cO at a0;split at a0
 .rename_i h1
  simp only[zE]at h1;obtain⟨⟨hmd,_⟩,hop⟩:=h1;unfold dS at hmd;simp only[zE,yL,yV,yW]at hmd;obtain⟨⟨m1,m8⟩,hall⟩:=hmd;refine⟨⟨T.small,λx hx=>zD (T.many x hx) (by decide),by omega,λm hm=>?_⟩,?_,T.data,by omega⟩
  .have:=any_eq_false.1 hall m hm;unfold eC at this;simp at this;omega
  have:=aBS S S.op none hop trivial (by show(0:Int)<=(S.made.length:Int)*4;omega);have a1:(0:Int)+(S.op.length:Int)<=(S.made.length:Int)*4:=this;omega
 cases a0
def rX (S:PSt) (c:PCall) (r:PRes):Except Int (PSt × PRes):=if(aA c.path).1≠0 then .error (eE (aA c.path).1)else rK S c r
theorem aVO (B d b:Nat) (S:PSt) (c:PCall) (r:PRes) (w:World) (h:DoAt B w d b S c r) (hB:B<=w.heap.size) (hf:Fine S) (hop:S.op.length<=100000):
 Calls prog 142 #[.pointer d] w (bL B w d b c (rX S c r)):=by
 unfold rX;by_cases hp:(aA c.path).1=0
 .rw[zA (by simpa using hp)];exact aYU B d b S c r w h hB hf hop hp (zD (dC hp) (by decide))
 rw[zB hp];have a0:∀ww,Bl w ww->Calls prog 178 #[.pointer d,c.path] ww _:=λww hb=>aIH d b S c c.path ww (h.read.below hb (zC _)) hp;obtain⟨iv,ov,mv,nv,hBb,hBd,hD,hbk,hst,hnv⟩:=h;have d6:w.cell? ⟨d,6,none⟩=some (.string c.path):=hD.cell 6;have iD:=hD.lt;clear hD hbk hst hnv hf;go_in;go_wp2_with(go_at_call 178;refine aE (a0 _ (bel _ _)) λp=>?_);exact⟨rfl,(bel w _).mono hB,rfl⟩
theorem aRC (B d b:Nat) (S:PSt) (c:PCall) (r:PRes) (w:World) (h:DoAt B w d b S c r) (hk:c.kind=0\/c.kind=1) (R:Except Int (PSt × PRes)) (ht:Calls prog 141 #[.pointer d] w (bL B w d b c R)):
 Calls prog 108 #[.pointer d] w (bL B w d b c R):=by
 obtain⟨iD,d1⟩:=h.kind;rcases hk with hk|hk
 all_goals
  rw[hk]at d1;clear h;rcases R with k|⟨S',r'⟩
  all_goals(go_in)
  .go_wp2_with(go_at_call 141;refine ht.mono ?_;rintro e w1 ⟨hb1,hr1⟩;obtain rfl:e=bR k:=hr1)
   exact⟨rfl,hb1,rfl⟩
  go_wp2_with(go_at_call 141;refine ht.mono ?_;rintro e w1 ⟨hb1,hr1⟩;have a0:e=.returned (.tuple #[])/\DoAt B w1 d b S' c r':=hr1;clear hr1;obtain⟨rfl,hd1⟩:=a0;have HD:=aC hd1;clear hd1);exact xE (v:=.tuple #[]) (by simp[results,go_sem]) rfl ⟨hb1,rfl,HD.out⟩
theorem aIQ (B d b:Nat) (S:PSt) (c:PCall) (r:PRes) (w:World) (h:DoAt B w d b S c r) (hk:c.kind=6) (R:Except Int (PSt × PRes)) (ht:Calls prog 146 #[.pointer d] w (bL B w d b c R)):
 Calls prog 108 #[.pointer d] w (bL B w d b c R):=by
 obtain⟨iD,d1⟩:=h.kind
 all_goals
  rw[hk]at d1;clear h;rcases R with k|⟨S',r'⟩
  all_goals(go_in)
  .go_wp2_with(go_at_call 146;refine ht.mono ?_;rintro e w1 ⟨hb1,hr1⟩;obtain rfl:e=bR k:=hr1)
   exact⟨rfl,hb1,rfl⟩
  go_wp2_with(go_at_call 146;refine ht.mono ?_;rintro e w1 ⟨hb1,hr1⟩;have a0:e=.returned (.tuple #[])/\DoAt B w1 d b S' c r':=hr1;clear hr1;obtain⟨rfl,hd1⟩:=a0;have HD:=aC hd1;clear hd1);exact xE (v:=.tuple #[]) (by simp[results,go_sem]) rfl ⟨hb1,rfl,HD.out⟩
theorem aIR (B d b:Nat) (S:PSt) (c:PCall) (r:PRes) (w:World) (h:DoAt B w d b S c r) (hk:c.kind=8) (R:Except Int (PSt × PRes)) (ht:Calls prog 147 #[.pointer d] w (bL B w d b c R)):
 Calls prog 108 #[.pointer d] w (bL B w d b c R):=by
 obtain⟨iD,d1⟩:=h.kind
 all_goals
  rw[hk]at d1;clear h;rcases R with k|⟨S',r'⟩
  all_goals(go_in)
  .go_wp2_with(go_at_call 147;refine ht.mono ?_;rintro e w1 ⟨hb1,hr1⟩;obtain rfl:e=bR k:=hr1)
   exact⟨rfl,hb1,rfl⟩
  go_wp2_with(go_at_call 147;refine ht.mono ?_;rintro e w1 ⟨hb1,hr1⟩;have a0:e=.returned (.tuple #[])/\DoAt B w1 d b S' c r':=hr1;clear hr1;obtain⟨rfl,hd1⟩:=a0;have HD:=aC hd1;clear hd1);exact xE (v:=.tuple #[]) (by simp[results,go_sem]) rfl ⟨hb1,rfl,HD.out⟩
theorem aFP (B d b:Nat) (S:PSt) (c:PCall) (r:PRes) (w:World) (h:DoAt B w d b S c r) (hk:c.kind=9\/c.kind=10) (R:Except Int (PSt × PRes)) (ht:Calls prog 148 #[.pointer d] w (bL B w d b c R)):
 Calls prog 108 #[.pointer d] w (bL B w d b c R):=by
 obtain⟨iD,d1⟩:=h.kind;rcases hk with hk|hk
 all_goals
  rw[hk]at d1;clear h;rcases R with k|⟨S',r'⟩
  all_goals(go_in)
  .go_wp2_with(go_at_call 148;refine ht.mono ?_;rintro e w1 ⟨hb1,hr1⟩;obtain rfl:e=bR k:=hr1)
   exact⟨rfl,hb1,rfl⟩
  go_wp2_with(go_at_call 148;refine ht.mono ?_;rintro e w1 ⟨hb1,hr1⟩;have a0:e=.returned (.tuple #[])/\DoAt B w1 d b S' c r':=hr1;clear hr1;obtain⟨rfl,hd1⟩:=a0;have HD:=aC hd1;clear hd1);exact xE (v:=.tuple #[]) (by simp[results,go_sem]) rfl ⟨hb1,rfl,HD.out⟩
theorem aFQ (B d b:Nat) (S:PSt) (c:PCall) (r:PRes) (w:World) (h:DoAt B w d b S c r) (hk:c.kind=11) (R:Except Int (PSt × PRes)) (ht:Calls prog 149 #[.pointer d] w (bL B w d b c R)):
 Calls prog 108 #[.pointer d] w (bL B w d b c R):=by
 obtain⟨iD,d1⟩:=h.kind
 all_goals
  rw[hk]at d1;clear h;rcases R with k|⟨S',r'⟩
  all_goals(go_in)
  .go_wp2_with(go_at_call 149;refine ht.mono ?_;rintro e w1 ⟨hb1,hr1⟩;obtain rfl:e=bR k:=hr1)
   exact⟨rfl,hb1,rfl⟩
  go_wp2_with(go_at_call 149;refine ht.mono ?_;rintro e w1 ⟨hb1,hr1⟩;have a0:e=.returned (.tuple #[])/\DoAt B w1 d b S' c r':=hr1;clear hr1;obtain⟨rfl,hd1⟩:=a0;have HD:=aC hd1;clear hd1);exact xE (v:=.tuple #[]) (by simp[results,go_sem]) rfl ⟨hb1,rfl,HD.out⟩
theorem aRD (hwf:S.wf) (hc:aRL c) (hm:fP S c=true) {B:Nat} {ww:World} {d b:Nat} (hd:DoAt B ww d b S c PRes.zero) (hB:B<=ww.heap.size):Calls prog 108 #[.pointer d] ww (bL B ww d b c (mS S c)):=by
 have a0:=(mQ hm).1;have hf:=jF hwf a0;have a1:=aFU a0;unfold mS;by_cases k4:c.kind=4
 .rw[zB k4];exact tI B d b S c PRes.zero ww hd (.inl k4) _ (aII B d b S c PRes.zero ww hd hB hf k4 λx hx=>by have:=a1 x hx;omega)
 rw[zA k4];by_cases k7:c.kind=7
 .rw[zB k7];exact tI B d b S c PRes.zero ww hd (.inr (.inr k7)) _ (aIJ B d b S c PRes.zero ww hd hB hf k7)
 rw[zA k7];have hk:c.kind=12\/c.kind=13\/c.kind=14:=by
  rcases hc with h|h|h|h|h
  .exact absurd h k4
  .exact absurd h k7
  .exact .inl h
  .exact .inr (.inl h)
  exact .inr (.inr h)
 refine aRK B d b S c PRes.zero ww hd hk _ ?_;by_cases hp:(aA c.path).1=0
 .rw[zA (by simpa using hp)];have hl:=dC hp;rcases hk with k|k|k
  .rw[zB k];exact aOR B d b S c PRes.zero ww hd hB hf k (by simp[PRes.zero]) hp (by omega)
  .rw[zA (by omega),zB k];exact aQP B d b S c PRes.zero ww hd hB hf k hp (by omega)
  rw[zA (by omega),zA (by omega)];exact aLA B d b S c PRes.zero ww hd hB hf k hp
 rw[zB hp];exact aZT B d b S c PRes.zero ww hd hB hp
def eM (S:PSt) (c:PCall):Except Int (PSt × PRes):=
 if c.kind=0\/c.kind=1 then jW S c PRes.zero else if c.kind=2 then rX S c PRes.zero else if c.kind=3 then mH S c PRes.zero else
 if c.kind=5 then lR S c PRes.zero else if c.kind=6 then lS S c PRes.zero else if c.kind=8 then oC S c PRes.zero else
 if c.kind=9\/c.kind=10 then iP S c PRes.zero else if c.kind=11 then iU S c PRes.zero else
 if c.kind=15 then mF S c PRes.zero else if c.kind=16 then .ok (S,PRes.zero)else mS S c
def kX (S:PSt) (c:PCall):PSt × PRes:=doM S c (eM S c)
theorem aVP (hwf:S.wf) (hcd:c.data.size<=1000000000000000000):Did S c (kX S c).1 (kX S c).2:=by
 refine aYE (eM S c) hwf (by rfl) λhm B ww d b hd hB=>?_;obtain⟨hmay,hc0,hc1⟩:=mQ hm;have hf:=jF hwf hmay;obtain⟨hs,hop,hdat,hmd⟩:=qZ hwf hmay;have a0:∀x∈S.ins,x.data.size<=1000000:=λx hx=>by have:=hdat x hx;omega
 have hk:0<=c.kind/\c.kind<=16:=by unfold fP at hm;simp only[zE,zI]at hm;exact⟨hm.1.1.1.1,hm.1.1.1.2⟩
 unfold eM;by_cases k1:c.kind=0\/c.kind=1
 .rw[zB k1];exact aRC B d b S c PRes.zero ww hd k1 _ (aOQ B d b S c PRes.zero ww hd hB hf hs hc0 hc1)
 rw[zA k1];by_cases k2:c.kind=2
 .rw[zB k2];exact aRG B d b S c PRes.zero ww hd k2 _ (aVO B d b S c PRes.zero ww hd hB hf (by omega))
 rw[zA k2];by_cases k3:c.kind=3
 .rw[zB k3];exact aKZ B d b S c PRes.zero ww hd hB hf k3
 rw[zA k3];by_cases k5:c.kind=5
 .rw[zB k5];exact tI B d b S c PRes.zero ww hd (.inr (.inl k5)) _ (aDT B d b S c PRes.zero ww hd hB hf k5 a0 hcd)
 rw[zA k5];by_cases k6:c.kind=6
 .rw[zB k6];exact aIQ B d b S c PRes.zero ww hd k6 _ (aFK B d b S c PRes.zero ww hd hB hf k6 a0)
 rw[zA k6];by_cases k8:c.kind=8
 .rw[zB k8];exact aIR B d b S c PRes.zero ww hd k8 _ (aWH B d b S c PRes.zero ww hd hB hf hs hmd)
 rw[zA k8];by_cases k9:c.kind=9\/c.kind=10
 .rw[zB k9];exact aFP B d b S c PRes.zero ww hd k9 _ (aUL B d b S c PRes.zero ww hd hB hf hs hmd)
 rw[zA k9];by_cases k11:c.kind=11
 .rw[zB k11];exact aFQ B d b S c PRes.zero ww hd k11 _ (aPY B d b S c PRes.zero ww hd hB hf hs hmd)
 rw[zA k11];by_cases k15:c.kind=15
 .rw[zB k15];exact aQG B d b S c PRes.zero ww hd hB hf k15
 rw[zA k15];by_cases k16:c.kind=16
 .rw[zB k16];exact aUR B d b S c PRes.zero ww hd hB k16
 rw[zA k16];exact aRD hwf (show aRL c by unfold aRL;omega) hm hd hB
end
def bI:List ByteArray->ByteArray->ByteArray
 |[],s=>s
 |n::r,s=>bI r (s++(⟨#[47]⟩++n))
def eD (ns:List ByteArray):ByteArray × Int:=if ns.all dP=true then(if 4<ns.length then(⟨#[]⟩,1102)else if 64<(bI ns ⟨#[]⟩).size then(⟨#[]⟩,1101)else if(bI ns ⟨#[]⟩).size=0 then(⟨#[47]⟩,0)else(bI ns ⟨#[]⟩,0))else(⟨#[]⟩,1100)
def eV (S:PSt) (p:ByteArray):Int × Int:=if(aA p).1≠0 then(0,eE (aA p).1)else if cO S=true then(if (aL S 0 (aA p).2).2≠0 then(0,(aL S 0 (aA p).2).2)else(gP S (aL S 0 (aA p).2).1,0))else(0,9)
def aBV (S:PSt) (ns:List ByteArray):List PKey:=(List.range ns.length).map λk=>⟨(eV S (eD (ns.take k)).1).1,⟨#[46]⟩⟩
def kY (S:PSt) (ns:List ByteArray):Int:=(eV S (eD (ns.take (ns.length-1))).1).1
def cG (n:ByteArray):ByteArray:=⟨#[47,UInt8.ofNat (48+(aV n).toNat)]⟩
def gA (S:PSt) (p:ByteArray):List PKey:=aBV S (aA p).2
def dH (S:PSt) (p:ByteArray):List PKey:=gA S p++[⟨kY S (aA p).2,cG ((aA p).2.getLastD ⟨#[]⟩)⟩]
def cP (S:PSt) (p:ByteArray):List PKey:=[⟨(eV S p).1,⟨#[]⟩⟩]
def fG (S:PSt) (c:PCall):List PKey:=[⟨match S.op[(cV (eW c) S.op).toNat]? with|some d=>d.num|none=>0,⟨#[]⟩⟩]
def cH (S S':PSt) (c:PCall):Option (List PKey):=
 let l:Option (List PKey):=if c.kind=0\/c.kind=1 then some (dH S c.path++cP S' c.path)else if c.kind=2 then some (gA S c.path++cP S c.path)else
  if c.kind=3\/c.kind=6 then some (fG S c)else if c.kind=5 then(if c.data.size=0 then none else some (fG S c))else
  if c.kind=8 then some (gA S c.path++dH S c.path2++cP S c.path)else if c.kind=9\/c.kind=10 then some (dH S c.path++cP S c.path)else
  if c.kind=11 then some (dH S c.path++dH S c.path2++cP S c.path)else none
 l.map λl=>l++[⟨-1-c.core,⟨#[]⟩⟩]
section
def jP (p:ByteArray):Prop:=(aA p).1=0/\(aA p).2≠[]
structure GatherOk (S:PSt) (c:PCall):Prop where
 may:cO S=true
 core:0<=c.core/\c.core<S.made.length
 kind:0<=c.kind/\c.kind<=16
 path:(c.kind=0\/c.kind=1\/c.kind=2\/c.kind=8\/c.kind=9\/c.kind=10\/c.kind=11)->jP c.path
 path2:(c.kind=8\/c.kind=11)->jP c.path2
 fd:(c.kind=3\/c.kind=5\/c.kind=6)->0<=cV (eW c) S.op
theorem mR {c:Int} (h:c≠0):eE c≠0:=by
 unfold eE;rw[zA h];split<;>decide
variable {K:Nat} {S:PSt} {c:PCall} {k:Int} {l s:ByteArray} {ns:List ByteArray}
theorem rA (h:bC S ns=.error k):k≠0:=by
 unfold bC at h;split at h
 .cases h;decide
 split at h
 .rename_i hc;cases h;exact hc
 split at h
 .split at h
  .cases h
  cases h;decide
 cases h;decide
theorem aEC {x:Nat × ByteArray} (h:bC S ns=.ok x):ns≠[]:=by intro e;subst e;cases h
theorem rY (h:bC S ns=.ok (K,l)):∃x,S.ins[K]? =some x/\x.dir=true:=by
 unfold bC at h;split at h
 .cases h
 split at h
 .cases h
 split at h
 .rename_i x hx
  split at h
  .rename_i hd
   simp only[Except.ok.injEq,Prod.mk.injEq]at h;rw[<-h.1];exact⟨x,hx,hd⟩
  cases h
 cases h
theorem tJ {x:Nat × ByteArray} (h:bW S s=.ok x):jP s:=by
 unfold bW at h;split at h
 .cases h
 rename_i hp;exact⟨Decidable.of_not_not hp,aEC h⟩
theorem aLP (h:bW S s=.error k):k≠0:=by
 unfold bW at h;split at h
 .rename_i hp
  cases h;exact mR hp
 exact rA h
theorem aNN (h:bW S s=.ok (K,l)):∃x,S.ins[K]? =some x/\x.dir=true:=by
 unfold bW at h;split at h
 .cases h
 exact rY h
theorem aRH (h:rM S s=.error k):k≠0:=by
 unfold rM at h;split at h
 .rename_i hp
  cases h;exact mR hp
 split at h
 .rename_i hp
  cases h;exact hp
 cases h
theorem aFS (hm:cO S=true):∃x,S.ins[0]? =some x/\x.num=1/\x.dir=true:=by
 unfold cO at hm;split at hm;rotate_left
 .cases hm
 rename_i h1;simp only[zE]at h1;obtain⟨⟨-,hins⟩,-⟩:=h1;unfold dW at hins;rcases e:S.ins with _|⟨x0,r⟩
 .rw[e]at hins;cases hins
 rw[e]at hins;simp only at hins;split at hins;rotate_left
 .cases hins
 rename_i h2;refine⟨x0,rfl,?_,?_⟩
 .simp_all
 simp_all
theorem aRI {y:Nat × PIn} (h:eL S c=some y):0<=cV (eW c) S.op:=by
 unfold eL at h;split at h
 .cases h
 omega
theorem aIT (h:(kX S c).2.code=0):fP S c=true/\((∃y,eM S c=.ok y/\kX S c=y)\/(eM S c=.error 0/\(kX S c).1=S)):=by
 unfold kX doM at h |-;split at h;rotate_left
 .cases h
 rename_i hm;refine⟨hm,?_⟩;rw[zB hm];split at h
 .rename_i y e
  exact .inl ⟨y,e,rfl⟩
 rename_i k e;have hk:k=0:=h;subst hk;exact .inr ⟨e,rfl⟩
theorem aRJ {es:List PEnt} (h:bT es s=true):∃e,es[cZ es s]? =some e:=⟨_,gE (sV h)⟩
theorem aFT (hm:cO S=true) (h:eM S c≠.error 0->∀k,eM S c≠.error k) (hk:c.kind=0\/c.kind=1\/c.kind=2\/c.kind=8\/c.kind=9\/c.kind=10\/c.kind=11):jP c.path:=by
 have key:∀k,k≠0->eM S c=.error k->False:=λk h0 e=>by refine h ?_ k e;rw[e];intro e2;cases e2;exact h0 rfl
 unfold eM at key;by_cases k1:c.kind=0\/c.kind=1
 .rw[zB k1]at key;unfold jW pV at key;by_cases hp:(aA c.path).1=0
  .refine⟨hp,λe=>?_⟩;rw[zA (by simpa using hp),e]at key;exact key 9 (by decide) rfl
  rw[zB hp]at key;exact(key _ (mR hp) rfl).elim
 rw[zA k1]at key;by_cases k2:c.kind=2
 .rw[zB k2]at key;unfold rX rK at key;by_cases hp:(aA c.path).1=0
  .refine⟨hp,λe=>?_⟩;rw[zA (by simpa using hp),e]at key;obtain⟨x0,h0,-,h2⟩:=aFS hm;rw[zA (by unfold aL;simp)]at key;have h3:S.ins[(aL S 0 []).1]? =some x0:=h0;rw[h3]at key;simp only[h2,if_true]at key;exact key 8 (by decide) rfl
  rw[zB hp]at key;exact(key _ (mR hp) rfl).elim
 rw[zA k2,zA (by omega),zA (by omega),zA (by omega)]at key;by_cases k8:c.kind=8
 .rw[zB k8]at key;unfold oC at key;rcases ha:rM S c.path with k|K
  .rw[ha]at key;exact(key k (aRH ha) rfl).elim
  rw[ha]at key;simp only at key;have hp:(aA c.path).1=0:=by
   unfold rM at ha;split at ha
   .cases ha
   rename_i hp;exact Decidable.of_not_not hp
  refine⟨hp,λe=>?_⟩;unfold rM at ha;rw[e,zA (by simpa using hp),zA (by unfold aL;simp)]at ha;obtain⟨x0,h0,-,h2⟩:=aFS hm;cases ha;have h3:S.ins[(aL S 0 []).1]? =some x0:=h0;rw[h3]at key;simp only[h2,if_true]at key;exact key 8 (by decide) rfl
 rw[zA k8]at key;by_cases k9:c.kind=9\/c.kind=10
 .rw[zB k9]at key;unfold iP at key;rcases ha:bW S c.path with k|y
  .rw[ha]at key;exact(key k (aLP ha) rfl).elim
  exact tJ ha
 rw[zA k9,zB (by omega)]at key;unfold iU fW at key;by_cases hp:(aA c.path).1=0
 .refine⟨hp,λe=>?_⟩;rw[zA (by simpa using hp),e]at key;by_cases hp2:(aA c.path2).1=0
  .rw[zB hp2]at key;exact key 9 (by decide) rfl
  rw[zA hp2]at key;unfold nY at key;rw[e]at key;exact key 9 (by decide) rfl
 rw[zB hp]at key;exact(key _ (mR hp) rfl).elim
theorem aNO (hwf:S.wf) (hm:cO S=true) (h:eM S c≠.error 0->∀k,eM S c≠.error k) (hk:c.kind=8\/c.kind=11) (hpo:jP c.path):jP c.path2:=by
 have key:∀k,k≠0->eM S c=.error k->False:=λk h0 e=>by refine h ?_ k e;rw[e];intro e2;cases e2;exact h0 rfl
 unfold eM at key;rw[zA (by omega),zA (by omega),zA (by omega),zA (by omega),zA (by omega)]at key;by_cases k8:c.kind=8
 .rw[zB k8]at key;unfold oC at key;rcases ha:rM S c.path with k|K
  .rw[ha]at key;exact(key k (aRH ha) rfl).elim
  rw[ha]at key;simp only at key;rcases hx:S.ins[K]? with _|x
  .exfalso;obtain⟨x,hx2⟩:=aUJ (jF hwf hm) ha;rw[hx]at hx2;cases hx2
  rw[hx]at key;simp only at key;by_cases hd:x.dir=true
  .rw[zB hd]at key;exact(key 8 (by decide) rfl).elim
  rw[zA hd]at key;rcases hq:bW S c.path2 with k|y
  .rw[hq]at key;exact(key k (aLP hq) rfl).elim
  exact tJ hq
 rw[zA k8,zA (by omega),zB (by omega)]at key;unfold iU fW at key;rw[zA (by simpa using hpo.1)]at key;rcases ha:bC S (aA c.path).2 with k|⟨K,s⟩
 .rw[ha]at key;by_cases hp2:(aA c.path2).1=0
  .rw[zB hp2]at key;exact(key k (rA ha) rfl).elim
  rw[zA hp2]at key;unfold nY at key;rw[ha]at key;exact(key k (rA ha) rfl).elim
 obtain⟨x,hx,hxd⟩:=rY ha;unfold nY at key;rw[ha]at key;simp only[hx]at key;by_cases hp2:(aA c.path2).1=0
 .refine⟨hp2,λe=>?_⟩;rw[zB hp2,e]at key;unfold lE at key;rcases hh:bT x.ents s with _|_
  .rw[zB hh]at key;exact key 1 (by decide) rfl
  rw[zA (by rw[hh];decide)]at key;obtain⟨en,hen⟩:=aRJ hh;rw[hen]at key;exact key 9 (by decide) rfl
 rw[zA hp2]at key;exfalso;rcases hh:bT x.ents s with _|_
 .rw[hh]at key;exact key 1 (by decide) rfl
 rw[zA (by rw[hh];decide)]at key;exact key _ (mR hp2) rfl
theorem aYF (h:eM S c≠.error 0->∀k,eM S c≠.error k) (hk:c.kind=3\/c.kind=5\/c.kind=6):0<=cV (eW c) S.op:=by
 have key:∀k,k≠0->eM S c=.error k->False:=λk h0 e=>by refine h ?_ k e;rw[e];intro e2;cases e2;exact h0 rfl
 unfold eM at key;rw[zA (by omega),zA (by omega)]at key;rcases hf:eL S c with _|y
 .exfalso;rcases hk with hk|hk|hk
  .rw[zB hk]at key;unfold mH at key;rw[hf]at key;exact key 4 (by decide) rfl
  .rw[zA (by omega),zB hk]at key;unfold lR at key;rw[hf]at key;exact key 4 (by decide) rfl
  rw[zA (by omega),zA (by omega),zB hk]at key;unfold lS at key;rw[hf]at key;exact key 4 (by decide) rfl
 exact aRI hf
theorem aBU (hwf:S.wf) (h:(kX S c).2.code=0):GatherOk S c:=by
 obtain⟨hm,hr⟩:=aIT h;obtain⟨hmay,h0,h1⟩:=mQ hm;have hk:0<=c.kind/\c.kind<=16:=by unfold fP at hm;simp only[zE,zI]at hm;exact⟨hm.1.1.1.1,hm.1.1.1.2⟩
 have hq:eM S c≠.error 0->∀k,eM S c≠.error k:=λh0 k e=>by
  rcases hr with⟨y,e2,-⟩|⟨e2,-⟩
  .rw[e2]at e;cases e
  exact h0 e2
 exact⟨hmay,⟨h0,h1⟩,hk,λk=>aFT hmay hq k,λk=>aNO hwf hmay hq k (aFT hmay hq (by omega)),λk=>aYF hq k⟩
end
theorem aPE {α:Type} (p:α->Bool) (l:List α) (q:Nat) {x:α} (h:l[q]? =some x):(l.drop q).all p=(p x&&(l.drop (q+1)).all p):=by obtain⟨hl,rfl⟩:=gI.1 h;rw[yH hl,all_cons]
theorem aKE (l:List ByteArray) (q:Nat) {x:ByteArray} (h:l[q]? =some x) (s:ByteArray):bI (l.drop q) s=bI (l.drop (q+1)) (s++((⟨#[47]⟩:ByteArray)++x)):=by obtain⟨hl,rfl⟩:=gI.1 h;rw[yH hl];rfl
theorem aPF (l:List ByteArray) (q:Nat) (h:¬q<l.length) (s:ByteArray):bI (l.drop q) s=s:=by rw[drop_eq_nil_of_le (by omega)];rfl
theorem aTP (ns:List ByteArray) (v:Value) (w:World) (h:RowAt w 1 v (ns.map λn=>[.string n])) (hlen:ns.length<=1000000):
 vR w 154 #[v] (.tuple #[.string (eD ns).1,.int .i64 (eD ns).2]):=by
 obtain⟨a,cap,rfl,hat⟩:=h.at_;rw[lM];have HA:=aC hat;obtain⟨R,hR⟩:=gAB (eD ns);have HR:=aC hR;rw[hR];clear hat h hR;have a1:=λn ww=>aTB n ww;unfold vR;go_in;go_wp2
 go_loopw[11] (λvi wr=>∃q:Nat,vi=.int .i64 q/\q<=ns.length/\ns.all dP=(ns.drop q).all dP/\Bl w wr) (λvi _=>(ns.length-intOf vi).toNat)
 case atStart=>exact⟨0,rfl,by omega,by simp,bel _ _⟩
 obtain⟨q,rfl,hq,hre,hbr⟩:=hrel;have iB:Bel w wr:=⟨hbr⟩;by_cases hlt:q<ns.length
 .obtain⟨x,hx⟩:=gAA hlt
  obtain⟨be,offe,rfl,iE0,iE,hce⟩:=HA.out wr hbr q [.string x] (by rw[gM,hx];rfl);have e0:=hce 0 _ rfl;rw[zN,Nat.mul_one]at e0;rw[aPE _ _ _ hx]at hre;rcases hm:dP x with _|_
  .have a0:R=(⟨#[]⟩,1100):=by
    rw[<-HR.out];unfold eD;rw[hre,hm,yJ,zA (by decide)]
   subst a0;have h1:=a1 x;rw[hm]at h1;clear hre hx hce hm;go_wp2_with(go_at_call 132;refine aE (h1 _) λp=>?_)
   go_ret2;refine⟨rfl,bel _ _⟩
  have h1:=a1 x;rw[hm]at h1 hre;rw[xC]at hre;have HE:=aC hre;clear hre hx hce hm;go_wp2_with(go_at_call 132;refine aE (h1 _) λp=>?_);go_roundw
  case rel=>exact⟨q+1,by go_num,by omega,HE.out,bel _ _⟩
  simp[intOf];omega
 rw [drop_eq_nil_of_le (by omega)]at hre;have HE:=aC hre;clear hre;by_cases h4:4<ns.length
 .have a0:R=(⟨#[]⟩,1102):=by
   rw[<-HR.out];unfold eD;rw[HE.out,all_nil,zB rfl,zB h4]
  subst a0;have a3:(4:Int)<ns.length:=by omega
  go_wp2
  go_ret2;refine⟨rfl,bel _ _⟩
 have a3:¬(4:Int)<ns.length:=by omega
 have a2:R=if 64<(bI ns ⟨#[]⟩).size then(⟨#[]⟩,1101)else if(bI ns ⟨#[]⟩).size=0 then(⟨#[47]⟩,0)else(bI ns ⟨#[]⟩,0):=by rw[<-HR.out];unfold eD;rw[HE.out,all_nil,zB rfl,zA h4]
 have HJ:=aC a2;clear a2;go_wp2
 go_loopw[4,24] (λvs vi wr=>∃(q:Nat) (s:ByteArray),vi=.int .i64 q/\vs=.string s/\q<=ns.length/\s.size<=13*q/\bI ns ⟨#[]⟩=bI (ns.drop q) s/\Bl w wr) (λ_ vi _=>(ns.length-intOf vi).toNat)
 case atStart=>exact⟨0,⟨#[]⟩,rfl,rfl,by omega,by decide,by simp,bel _ _⟩
 obtain⟨q,s,rfl,rfl,hq,hsz,hre,hbr⟩:=hrel;have iB:Bel w wr:=⟨hbr⟩;by_cases hlt:q<ns.length
 .obtain⟨x,hx⟩:=gAA hlt
  obtain⟨be,offe,rfl,iE0,iE,hce⟩:=HA.out wr hbr q [.string x] (by rw[gM,hx];rfl);have e0:=hce 0 _ rfl;rw[zN,Nat.mul_one]at e0;rw[aKE _ _ hx]at hre;have a6:x.size<=12:=aAY (all_eq_true.1 (HE.out.trans rfl) x (mG hx));have n1:¬9223372036854775807<1+x.size:=by omega
  have n2:¬9223372036854775807<s.size+(1+x.size):=by omega
  have a4:=aC hre;clear hre hx hce;go_wp2;go_roundw
  case rel=>exact⟨q+1,_,by go_num,rfl,by omega,by rw[xA,xA];show s.size+(1+x.size)<=_;omega,a4.out,bel _ _⟩
  simp[intOf];omega
 rw [aPF _ _ hlt]at hre;rw[hre]at HJ;clear hre;by_cases h64:64<s.size
 .have a0:R=(⟨#[]⟩,1101):=by rw[HJ.out,zB h64]
  subst a0;have a5:(64:Int)<s.size:=by omega
  go_wp2
  go_ret2;refine⟨rfl,bel _ _⟩
 have a5:¬(64:Int)<s.size:=by omega
 by_cases h0:s.size=0
 .have a0:R=(⟨#[47]⟩,0):=by rw[HJ.out,zA h64,zB h0]
  subst a0;have i0:s.toList.isEmpty=true:=by rw[zW,isEmpty_iff];exact zT h0
  clear h0;go_wp2
  go_ret2;refine⟨rfl,bel _ _⟩
 have a0:R=(s,0):=by rw[HJ.out,zA h64,zA h0]
 subst a0;have i0:s.toList.isEmpty=false:=by rw[zW,Bool.eq_false_iff];intro h;rw[isEmpty_iff]at h;apply h0;show s.data.toList.length=0;rw[h];rfl
 clear h0;go_wp2
 go_ret2;refine⟨rfl,bel _ _⟩
theorem aBW (s:ByteArray) (w:World):Calls prog 153 #[s] w λe w'=>∃v,e=.returned (.tuple #[v,.int .i64 (aA s).1])/\Bl w w'/\OwnP 0 w' 9 1 v ((aA s).2.map λn=>[.string n])/\∀b,v.ownBlock=some b->w.heap.size<=b:=by refine(xV s w).mono ?_;rintro e w' ⟨v,he,hb,ho,hg⟩;have:=(OwnP.of_own (rows:=(aA s).2.map λn=>[.string n]) (by rw[lM,sX];exact ho) (by decide) (by intro cs h;obtain⟨x,_,rfl⟩:=mem_map.1 h;rfl));exact⟨v,he,hb,this,hg⟩
theorem aLT (iv ov mv:Value) (S:PSt) (p:ByteArray) (w:World) (h:StRead w iv ov mv S) (hwf:S.wf):
 vR w 152 #[.agg #[iv,ov,mv],.string p] (.tuple #[.int .i64 (eV S p).1,.int .i64 (eV S p).2]):=by
 have b3:=h.box 26;have h1:=h.1.one;have h2:=h.2.1.one;have h3:iv.oneCell'=true:=by obtain⟨_,_,_,h3,_⟩:=h;exact h3.one
 have a1:=λww=>aBW p ww;have a3:=λc ww=>vQ c ww;have a0:=λww (hb:Bl w ww)=>aGZ iv ov mv S ww (h.below hb (zC _)) hwf;obtain⟨R,hR⟩:=gAB (eV S p);rw[hR];have HR:=aC hR;clear hR;by_cases hp:(aA p).1=0
 .have b6:=dC hp;rw[hp]at a1;rcases hm:cO S with _|_
  .have a7:R=(0,9):=by
    rw[<-HR.out];unfold eV;rw[zA (by simpa using hp),zA (by rw[hm];decide)]
   subst a7;rw[hm]at a0;generalize(aA p).2=ns at *;clear h hp b3 a3 hm;unfold vR;go_in;go_wp2_with(first|(go_at_call 153;refine(a1 _).mono ?_;rintro e w1 ⟨nv,rfl,hb1,hnm,hng⟩;obtain⟨p1,rfl⟩:=hb1.rest;clear hb1;obtain⟨an,cn,rfl,-⟩:=hnm.row)|(go_at_call 39;refine aE (a0 _ (bel _ _)) λp=>?_))
   go_ret2;refine⟨rfl,bel _ _⟩
  have hf:=jF hwf hm;have a7:R=if(aL S 0 (aA p).2).2≠0 then(0,(aL S 0 (aA p).2).2)else(gP S (aL S 0 (aA p).2).1,0):=by rw[<-HR.out];unfold eV;rw[zA (by simpa using hp),zB hm]
  have b5:=fO hf (aA p).2 0 hf.pos;have a9:∀ww v,Below (w.alloc (.cells #[iv,ov,mv] 26)).heap.size (w.alloc (.cells #[iv,ov,mv] 26)) ww->RowAt ww 1 v ((aA p).2.map λn=>[.string n])->Calls prog 191 #[.pointer w.heap.size,v] ww _:=λww v hb hv=>vY w.heap.size S (aA p).2 v ww (b3.below hb (zC _)) hf.wf hf.pos hf.find hv (zD b6 (by decide));rw[hm]at a0;obtain⟨ai,capi,rfl,hati⟩:=h.ins_at2;have HI:=aC hati;generalize(aA p).2=ns at *;generalize hwr:aL S 0 ns=WR at *;obtain⟨k,cd⟩:=WR;simp only at a7 b5 a9;have HN:=aC hwr;clear h hp b3 a3 hm hati hwr;by_cases hcd:cd=0
  .subst hcd;obtain⟨x,hx⟩:=gAA b5
   have b4:R=(x.num,0):=by rw[a7,zA (by simp)];unfold gP;rw[hx]
   subst b4;clear a7;obtain⟨bi,off,ev,rfl,iG0,ho1,hev,hcl⟩:=HI.out k x hx;have b7:(k:Int)<S.ins.length:=by omega
   clear hev;unfold vR;go_in;go_upto_region 2 with(go_at_call 153;refine(a1 _).mono ?_;rintro e w1 ⟨nv,rfl,hb1,hnm,hng⟩;obtain⟨p1,rfl⟩:=hb1.rest;clear hb1;have a2:=hnm.row;obtain⟨an,cn,rfl,-⟩:=hnm.row)
   rw[lM]at a2;refine aD (F:=λwA=>Below (w.alloc (.cells #[.slice (some ⟨bi,off,none⟩) S.ins.length capi,ov,mv] 26)).heap.size (w.alloc (.cells #[.slice (some ⟨bi,off,none⟩) S.ins.length capi,ov,mv] 26)) wA/\RowAt wA 1 (.slice an ns.length cn) (ns.map λn=>[.string n])) ⟨bel _ _,a2⟩ ?_;clear a2 hnm a1;rintro wA ⟨hbA,hrA⟩;have a4:Blk wA w.heap.size #[.slice (some ⟨bi,off,none⟩) S.ins.length capi,ov,mv] 26:=(Blk.new w _ 26).below hbA (by simp);have b0:wA.cell? w.heap.size=some (.slice (some ⟨bi,off,none⟩) S.ins.length capi):=a4.cell 0;have b1:wA.cell? ⟨w.heap.size,1,none⟩=some ov:=a4.cell 1;have b2:wA.cell? ⟨w.heap.size,2,none⟩=some mv:=a4.cell 2;have iB:=a4.lt;have a6:Bl w wA:=(bel w (w.alloc (.cells #[.slice (some ⟨bi,off,none⟩) S.ins.length capi,ov,mv] 26))).trans (hbA.mono (by simp));have a5:=λww (hb:Bl wA ww)=>a0 ww (a6.trans (hb.mono a6.size));have a8:=λww (hb:Bl wA ww)=>a9 ww _ (hbA.trans (hb.mono hbA.size)) (hrA.below hb (zC _));obtain⟨iGA,y0,-⟩:=hcl wA a6;clear hcl;have HB:=aC a6;clear a9 a0 hbA hrA a4 a6;go_wp2_with(first|(go_at_call 39;refine aE (a5 _ (bel _ _)) λp=>?_)|(go_at_call 191;refine aE (a8 _ (bel _ _)) λp=>?_))
   go_ret2;refine⟨rfl,HB.out.trans ((bel wA _).mono HB.out.size)⟩
  have b4:R=(0,cd):=by rw[a7,zB hcd]
  subst b4;clear a7;have b8:(cd !=0)=true:=by simpa using hcd
  clear hcd;unfold vR;go_in;go_upto_region 2 with(go_at_call 153;refine(a1 _).mono ?_;rintro e w1 ⟨nv,rfl,hb1,hnm,hng⟩;obtain⟨p1,rfl⟩:=hb1.rest;clear hb1;have a2:=hnm.row;obtain⟨an,cn,rfl,-⟩:=hnm.row)
  rw[lM]at a2;refine aD (F:=λwA=>Below (w.alloc (.cells #[.slice ai S.ins.length capi,ov,mv] 26)).heap.size (w.alloc (.cells #[.slice ai S.ins.length capi,ov,mv] 26)) wA/\RowAt wA 1 (.slice an ns.length cn) (ns.map λn=>[.string n])) ⟨bel _ _,a2⟩ ?_;clear a2 hnm a1;rintro wA ⟨hbA,hrA⟩;have a4:Blk wA w.heap.size #[.slice ai S.ins.length capi,ov,mv] 26:=(Blk.new w _ 26).below hbA (by simp);have b0:wA.cell? w.heap.size=some (.slice ai S.ins.length capi):=a4.cell 0;have b1:wA.cell? ⟨w.heap.size,1,none⟩=some ov:=a4.cell 1;have b2:wA.cell? ⟨w.heap.size,2,none⟩=some mv:=a4.cell 2;have iB:=a4.lt;have a6:Bl w wA:=(bel w (w.alloc (.cells #[.slice ai S.ins.length capi,ov,mv] 26))).trans (hbA.mono (by simp));have a5:=λww (hb:Bl wA ww)=>a0 ww (a6.trans (hb.mono a6.size));have a8:=λww (hb:Bl wA ww)=>a9 ww _ (hbA.trans (hb.mono hbA.size)) (hrA.below hb (zC _));have HB:=aC a6;clear a9 a0 hbA hrA a4 a6;go_wp2_with(first|(go_at_call 39;refine aE (a5 _ (bel _ _)) λp=>?_)|(go_at_call 191;refine aE (a8 _ (bel _ _)) λp=>?_))
  go_ret2;refine⟨rfl,HB.out.trans ((bel wA _).mono HB.out.size)⟩
 have a7:R=(0,eE (aA p).1):=by rw[<-HR.out];unfold eV;rw[zB hp]
 subst a7;generalize(aA p).1=pc at *;generalize(aA p).2=ns at *;have b9:(pc !=0)=true:=by simpa using hp
 have hc:=a3 pc;generalize eE pc=cc at *;clear a0 h hp b3;unfold vR;go_in;go_wp2_with(first|(go_at_call 153;refine(a1 _).mono ?_;rintro e w1 ⟨nv,rfl,hb1,hnm,hng⟩;obtain⟨p1,rfl⟩:=hb1.rest;clear hb1;obtain⟨an,cn,rfl,-⟩:=hnm.row)|(go_at_call 190;refine aE (hc _) λp=>?_))
 go_ret2;refine⟨rfl,bel _ _⟩
section
theorem aYN:(prog.info? 61).map (λi=>(i.zero,i.size,i.bytes))=some (some (.agg #[.int .i64 0,.string ⟨#[]⟩]),2,24):=by kernel_rfl
theorem oV:aEX PKey.cells 29 61 2:=vA aYN underlying29 rfl (by decide) (by decide) aTL aHG
def tL (w:World) (g:Nat):Prop:=∃c t,Blk w g c t/\(t=61\/t=106)
theorem aVX {w:World} {g:Nat} {c:Array Value} {t:TypeId} (h:Blk w g c t) (h1:t≠61) (h2:t≠106):¬tL w g:=λ⟨c',t',hb',ht'⟩=>by
 by_cases e:t=t'
 .subst e;rcases ht' with h|h
  .exact h1 h
  exact h2 h
 exact Blk.ne_ h hb' e rfl
structure GAt (w0 w:World) (S S':PSt) (c:PCall) (bs bh bc:Nat) (ks:List PKey):Prop where
 sp:SP w0 bs S
 sh:SP w0 bh S'
 cp:CP w0 bc c
 below:Bl w0 w
 own:∃out,Blk w w0.heap.size #[.pointer bs,.pointer bh,.pointer bc,out] 106/\OwnP w0.heap.size w 61 2 out (ks.map PKey.cells)
section
variable {w0 w w':World} {S S':PSt} {c:PCall} {bs bh bc:Nat} {ks:List PKey}
theorem GAt.later (h:GAt w0 w S S' c bs bh bc ks) (hb:Bl w w'):GAt w0 w' S S' c bs bh bc ks:=by obtain⟨h1,h2,h3,h4,out,h5,h6⟩:=h;exact⟨h1,h2,h3,h4.trans (hb.mono h4.size),out,h5.below hb h5.lt.lt,OwnP.keep h6 (Keep.of_below hb (λ_=>False)) (λ_ _ h=>h)⟩
theorem kL (h:GAt w0 w S S' c bs bh bc ks) (hl:ks.length<=1000000) (n:Int) (s:ByteArray):
 Calls prog 113 #[.pointer w0.heap.size,n,s] w λe w'=>e=.returned (.tuple #[])/\GAt w0 w' S S' c bs bh bc (ks++[⟨n,s⟩])/\Keep (tL w) w w':=by
 obtain⟨h1,h2,h3,h4,out,h5,h6⟩:=h;have iG:=h5.lt;have g3:w.cell? ⟨w0.heap.size,3,none⟩=some out:=h5.cell 3;have a3:=λg hg=>h6.ne_blk h5 (by decide) (g:=g) hg;have b1:=h4.size;have a4:∀g,out.ownBlock=some g->tL w g:=λg hg=>by
  rcases h6 with⟨rfl,_⟩|⟨g',cap,arr,rfl,_,hb,_⟩
  .simp[Value.ownBlock]at hg
  simp[Value.ownBlock]at hg;subst hg;exact⟨_,_,hb,.inl rfl⟩
 have a5:tL w w0.heap.size:=⟨_,_,h5,.inr rfl⟩;have b2:=h6.one;have H6:=aC h6;have H5:=aC h5;clear h6 h5;go_in;go_wp2_with(at_builtin;refine oV rfl _ _ rfl w0.heap.size out (.slice w.heap.size 1 1) ks [⟨n,s⟩] rfl rfl ?c1 ?c2 ?c3 ?c4 ?_)
 case c1=>exact OwnP.keep H6.out (Keep.of_below (bel w _) (λ_=>False)) (λ_ _ h=>h)
 case c2=>exact(OwnP.row (B:=0) (e:=61) (.inr ⟨w.heap.size,1,#[.int .i64 n,.string s],rfl,Nat.zero_le _,Blk.new _ _ _,zC _,by decide,rfl,λq cs hq t u hu=>by
  rcases q with _|q
  .simp only[xB,map_nil,zH,zF]at hq;subst hq;rw[Nat.zero_mul,zM];rcases t with _|_|t
   .exact hu
   .exact hu
   simp[PKey.cells]at hu
  simp at hq⟩))
 case c3=>simp;omega
 case c4=>simp;omega
 intro v' w1 hG;obtain⟨hown,hkeep,-⟩:=hG;rw[show List.map PKey.cells ks++[PKey.cells ⟨n,s⟩]=(ks++([⟨n,s⟩]:List PKey)).map PKey.cells by simp]at hown;have a0:Blk w1 w0.heap.size #[.pointer bs,.pointer bh,.pointer bc,out] 106:=hkeep.blk (H5.out.alloc _) (λhg=>a3 _ hg rfl);have b3:=a0.lt;have b4:w1.cell? ⟨w0.heap.size,3,none⟩=some out:=a0.cell 3;have fz:=a0.frozen 3;have a1:∀g,out.ownBlock=some g->w0.heap.size<=g:=λg hg=>H6.out.ge hg;have a6:Keep (λg=>g=w0.heap.size\/out.ownBlock=some g) w w1:=(Keep.of_below (bel w (w.alloc (.cells #[n,s] 61))) (λg=>g=w0.heap.size\/out.ownBlock=some g)).trans hkeep (λi hi hg=>.inr hg);obtain⟨av,nv,cv,rfl⟩:∃av nv cv,v'=.slice av nv cv:=by obtain⟨a,c,h,-⟩:=hown.row;exact⟨a,_,c,h⟩
 have a2:=a6.setCell (p:=⟨w0.heap.size,3,none⟩) (.inl (.inl rfl)) (.slice av nv cv);have a7:=a2.mono (S':=tL w) (λi hi hg=>hg.elim (λe=>by rw[e];exact a5) (a4 i));have a8:=a0.set_ 3 (.slice av nv cv);have a9:OwnP w0.heap.size (w1.setCell ⟨w0.heap.size,3,none⟩ (.slice av nv cv)) 61 2 (.slice av nv cv) ((ks++([⟨n,s⟩]:List PKey)).map PKey.cells):=OwnP.keep hown (Keep.setCell (S:=λg=>g=w0.heap.size) (p:=⟨w0.heap.size,3,none⟩) (Keep.refl _ w1) (.inl rfl) (.slice av nv cv)) (λg hg a1=>hown.ne_blk a0 (by decide) hg a1);have b0:Bl w0 (w1.setCell ⟨w0.heap.size,3,none⟩ (.slice av nv cv)):=h4.trans (a2.below b1 (λi hi hg=>hg.elim (λe=>by omega) (λe=>by have:=a1 i e;omega)));have HF:=mJ a7 a8 a9 b0;clear hown hkeep a6 a2 a7 a8 a9 b0 a4 a5 h4 g3 iG H6 H5 a3 a1;go_wp2;exact xE (v:=.tuple #[]) (by simp[results,go_sem]) rfl ⟨rfl,⟨h1,h2,h3,HF.out.2.2.2,_,HF.out.2.1,HF.out.2.2.1⟩,HF.out.1⟩
end
end
section
section
variable {w0 w w' w1 w2:World} {S S':PSt} {c:PCall} {bs bh bc:Nat} {ks:List PKey}
theorem eQ (h:Keep (tL w) w w1) (k:Keep (tL w1) w1 w2):Keep (tL w) w w2:=h.trans k λi hi hg=>Classical.byContradiction λhn=>hn (by
 obtain⟨c,t,hb,ht⟩:=hg;have:=h.block i hi hn;exact⟨c,t,by unfold Blk at hb |-;rw[<-this];exact hb,ht⟩)
theorem fH (hb:Bl w w1):Keep (tL w) w w1:=Keep.of_below hb _
def aEI (w0 w:World) (S S':PSt) (c:PCall) (bs bh bc:Nat) (ks:List PKey) (e:Ending) (w':World):Prop:=e=.returned (.tuple #[])/\GAt w0 w' S S' c bs bh bc ks/\Keep (tL w) w w'
theorem oW (h:GAt w0 w S S' c bs bh bc ks) (hl:ks.length<=1000000) {b:Nat} {S1:PSt} (hsp:SP w0 b S1) (hwf:S1.wf) (p:ByteArray):
 Calls prog 110 #[.pointer w0.heap.size,.pointer b,p] w (aEI w0 w S S' c bs bh bc (ks++cP S1 p)):=by
 obtain⟨hl0,iv,ov,mv,c0,c1,c2,hr⟩:=hsp.below h.below (zC _);have ib:BlockLt b w:=⟨hl0⟩;have o1:=hr.1.one;have o2:=hr.2.1.one;have o3:iv.oneCell'=true:=by obtain⟨_,_,_,h3,_⟩:=hr;exact h3.one
 have hf:=aLT iv ov mv S1 p w hr hwf;have a0:=fun(q:Behind)=>kL (h.later (bel w (w.junk q))) hl (eV S1 p).1 ⟨#[]⟩;have HG:=aC h;unfold cP;generalize eV S1 p=F at *;obtain⟨num,code⟩:=F;clear h hr hsp;go_in;go_wp2_with(first|(go_at_call 152;refine hf.mono ?_;rintro e w1 ⟨rfl,hb⟩;obtain⟨q,rfl⟩:=hb.rest;clear hb)|(go_at_call 113;refine(a0 _).mono ?_;rintro e w2 ⟨rfl,hg,hk⟩));exact xE (v:=.tuple #[]) (by simp[results,go_sem]) rfl ⟨rfl,hg,eQ (fH (bel w _)) hk⟩
end
theorem aNS (zs:List PDesc) (v:Value) (l0:Value) (p:PDesc->Bool) (w:World) (h:RowAt w 3 v (zs.map PDesc.cells)) (hlen:zs.length<=1000000000)
 (hg:∀(z:PDesc) (ww:World),z∈zs->Bl w ww->vR ww 155 #[.agg #[z.core,z.fd,z.num],l0] (.bool (p z))):
 vR w 136 #[v,.func (.func 155) #[] #[l0]] (.int .i64 (cV p zs)):=by
 obtain⟨a,cap,rfl,hat⟩:=h.at_;rw[lM];have HA:=aC hat;clear hat h;unfold cV;obtain⟨R,hR⟩:=gAB (bQ p zs 0);rw[hR];have HR:=aC hR;clear hR;unfold vR;go_in;go_wp2
 go_loopw[8] (λi wr=>∃(q:Nat),i=.int .i64 q/\q<=zs.length/\bQ p (zs.drop q) q=R/\Bl w wr) (λi _=>(zs.length-intOf i).toNat)
 case atStart=>exact⟨0,rfl,by omega,HR.out,bel _ _⟩
 case round=>
  obtain⟨q,rfl,hq,hre,hb⟩:=hrel;have iB:Bel w wr:=⟨hb⟩;by_cases hlt:q<zs.length
  .obtain⟨z,hz⟩:=gAA hlt
   obtain⟨b,off,rfl,iG0,iG,hc⟩:=HA.out wr hb q (PDesc.cells z) (by rw[gM,hz];rfl);have c0:=hc 0 _ rfl;have c1:=hc 1 _ rfl;have c2:=hc 2 _ rfl;rw[gQ p zs q z hz]at hre;have a0:vB w 155 #[.agg #[z.core,z.fd,z.num],l0] (.bool (p z)):=λww hww=>hg z ww (mG hz) hww;have HZ:=bJ hz hre;clear hc hz hre hg;rw[zN]at c0;generalize hpz:p z=t at a0 HZ;rcases t with _|_
   .go_wp2_with(go_at_call 155;refine aE (a0 _ (bel _ _)) λp=>?_)
    go_roundw
    case rel=>exact⟨q+1,by go_num,by omega,by have:=HZ.out.2;simpa using this,bel _ _⟩
    simp[intOf];omega
   have hv:R=q:=by have:=HZ.out.2;simpa using this.symm
   subst hv;go_wp2_with(go_at_call 155;refine aE (a0 _ (bel _ _)) λp=>?_);go_ret;exact gAC
  .rw[jN p zs q hlt]at hre;subst hre;clear hg;go_wp2;go_ret;exact gAC

theorem aNT (g bc:Nat) (b1 b2 out:Value) (c:PCall) (x:PDesc) (bx:Nat) (w:World) (hg:Blk w g #[b1,b2,.pointer bc,out] 106) (hc:CP w bc c) (ib:BlockLt bx w) (hx:w.cell? bx=some (.pointer g)):
 vR w 155 #[.agg #[x.core,x.fd,x.num],.pointer bx] (.bool (eW c x)):=by
 have iG:=hg.lt;have g2:w.cell? ⟨g,2,none⟩=some (.pointer bc):=hg.cell 2;have iC:BlockLt bc w:=⟨hc.1⟩;have c1:=hc.2 1 _ rfl;have c2:=hc.2 2 _ rfl;unfold eW;clear hg hc;rcases hb1:(x.core==c.core)with _|_
 .unfold vR;go_in
  go_wp2;refine qR ?_
  repeat(go_big_quiet_step (fail))
  refine QN λp=>?_;go_wp2;go_ret;exact gAC
 unfold vR;go_in;go_wp2;refine qR ?_
 repeat(go_big_quiet_step (fail))
 refine QN λp=>?_;go_wp2;go_ret;exact⟨by first|rfl|simp_all,bel _ _⟩
section
variable {w0 w w' w1 w2:World} {S S':PSt} {c:PCall} {bs bh bc:Nat} {ks:List PKey}
theorem aBX (h:GAt w0 w S S' c bs bh bc ks) (hl:ks.length<=1000000) (hwf:S.wf) (hfd:0<=cV (eW c) S.op):
 Calls prog 112 #[.pointer w0.heap.size] w (aEI w0 w S S' c bs bh bc (ks++fG S c)):=by
 obtain⟨hl0,iv,ov,mv,c0,c1,c2,hr⟩:=h.sp.below h.below (zC _);have ib:BlockLt bs w:=⟨hl0⟩;obtain⟨out,hgb,-⟩:=h.own;have iG:=hgb.lt;have g0:w.cell? w0.heap.size=some (.pointer bs):=hgb.cell 0;have a3:CP w bc c:=⟨zR h.cp.1 h.below.size,λt u hu=>(h.below.cell (p:=⟨bc,t,none⟩) h.cp.1).trans (h.cp.2 t u hu)⟩;have a5:=lK (eW c) S.op;obtain⟨k,hk⟩:∃k:Nat,cV (eW c) S.op=k:=⟨(cV (eW c) S.op).toNat,by omega⟩;rw[hk]at a5;obtain⟨d,hd⟩:∃d,S.op[k]? =some d:=⟨_,gE (by omega)⟩;have a0:fG S c=[⟨d.num,⟨#[]⟩⟩]:=by unfold fG;rw[hk,zJ,hd]
 rw[a0];have a1:∀ww,Bl w ww->RowAt ww 3 ov (S.op.map PDesc.cells):=λww hb=>hr.1.below hb (zC _);have a2:∀ww bx,Bl w ww->BlockLt bx ww->ww.cell? ⟨bx,0,none⟩=some (.pointer w0.heap.size)->vR ww 136 #[ov,.func (.func 155) #[] #[.pointer (some ⟨bx,0,none⟩)]] (.int .i64 k):=λww bx hb i hx=>by have:=aNS S.op ov (.pointer (some ⟨bx,0,none⟩)) (eW c) ww (a1 ww hb) hwf.2.1 (λz w3 _ hb3=>aNT w0.heap.size bc _ _ out c z bx w3 (hgb.below (hb.trans (hb3.mono hb.size)) iG.lt) ⟨by have:=a3.1;have:=hb.size;have:=hb3.size;omega,λt u hu=>((hb.trans (hb3.mono hb.size)).cell (p:=⟨bc,t,none⟩) a3.1).trans (a3.2 t u hu)⟩ ⟨by have:=i.lt;have:=hb3.size;omega⟩ ((hb3.cell (p:=⟨bx,0,none⟩) i.lt).trans hx));rw[hk]at this;exact this
 have a4:=fun(ww:World) (hb:Bl w ww)=>kL (h.later hb) hl d.num ⟨#[]⟩;obtain⟨ao,co,rfl,hato⟩:=hr.1.at_;rw[lM]at c1 a2;obtain⟨bo,offo,rfl,iO0,iO,hco⟩:=hato w (bel _ _) k d.cells (by rw[gM,hd];rfl);have o2:w.cell? ⟨bo,offo+k*3+2,none⟩=some (.int .i64 d.num):=hco 2 _ rfl;have a6:(k:Int)<S.op.length:=by omega
 clear hr a1 hato hco hgb a3 hk a0 hd a5 h c0 c2 hfd;go_in;go_upto_region 2 with(go_at_call 136;refine aE (a2 _ _ (bel _ _) inferInstance (by go_simp)) λp=>?_)
 refine aH [12] true (λw'=>w'.cell? w.heap.size=some (.pointer w0.heap.size)/\w'.cell? w0.heap.size=some (.pointer bs)/\w'.cell? ⟨bs,1,none⟩=some (.slice (some ⟨bo,offo,none⟩) S.op.length co)/\w'.cell? ⟨bo,offo+k*3+2,none⟩=some (.int .i64 d.num)) (by kernel_rfl) (by kernel_rfl) ?_ ?_
 · (try dsimp only);(repeat' apply And.intro)<;>go_simp
 repeat
  apply aI0 rfl rfl
  focus
   rintro w' ⟨s0,s1,s2,s3⟩;go_simp
   first|done|rfl
  simp only[Act.put,sA,sZ,sS]
 refine bB rfl rfl ?_;refine aS 113 #[.pointer w0.heap.size,.int .i64 d.num,.string ⟨#[]⟩] ?_ ((a4 ((w.alloc (.cells #[.pointer w0.heap.size] 103)).junk p).drew (bel w _)).mono ?_)
 .go_simp
  first|done|rfl
 rintro e w2 ⟨rfl,hg,hk⟩;refine⟨_,rfl,.inr ⟨rfl,rfl⟩,?_⟩;refine aU ?_;exact xE (v:=.tuple #[]) (by simp[results,go_sem]) rfl ⟨rfl,hg,eQ (fH (bel w _)) hk⟩
end
end
section
def qS (S:PSt) (ns:List ByteArray) (q:Nat):List PKey:=(List.range q).map λk=>⟨(eV S (eD (ns.take k)).1).1,⟨#[46]⟩⟩
theorem aIY (S:PSt) (ns:List ByteArray) (q:Nat):qS S ns (q+1)=qS S ns q++[⟨(eV S (eD (ns.take q)).1).1,⟨#[46]⟩⟩]:=by unfold qS;rw[range_succ,yS];rfl
theorem aNU (S:PSt) (ns:List ByteArray) (q:Nat):(qS S ns q).length=q:=by unfold qS;simp
def aNV (S:PSt) (ns:List ByteArray) (q:Nat):Int:=if q=0 then 0 else(eV S (eD (ns.take (q-1))).1).1
section
variable {w0 w w' w1 w2:World} {S S':PSt} {c:PCall} {bs bh bc:Nat} {ks:List PKey}
theorem aEJ (h:GAt w0 w S S' c bs bh bc ks) (hl:ks.length<=100000) (hwf:S.wf) {p:ByteArray} (hpo:jP p):
 Calls prog 111 #[.pointer w0.heap.size,p] w λe w'=>e=.returned (.tuple #[.int .i64 (kY S (aA p).2),.string ((aA p).2.getLastD ⟨#[]⟩)])/\GAt w0 w' S S' c bs bh bc (ks++gA S p)/\Keep (tL w) w w':=by
 obtain⟨hp,hne⟩:=hpo;have b9:=dC hp;have a1:=λww=>aBW p ww;rw[hp]at a1;unfold gA aBV;rw[show ((List.range (aA p).2.length).map λk=>(⟨(eV S (eD ((aA p).2.take k)).1).1,⟨#[46]⟩⟩:PKey))=qS S (aA p).2 (aA p).2.length from rfl];have a0:kY S (aA p).2=aNV S (aA p).2 (aA p).2.length:=by unfold kY aNV;rw[zA (by intro e;exact hne (zT e))]
 rw[a0];generalize(aA p).2=ns at*;have b6:0<ns.length:=by
  rcases ns with _|⟨a,r⟩
  .exact absurd rfl hne
  simp
 have a8:ns[ns.length-1]? =some (ns.getLastD ⟨#[]⟩):=by rw[getLastD_eq_getLast?,getLast?_eq_getElem?,gE (by omega)];rfl
 have HG:=aC h;clear h a0 hp;go_in;go_upto_region 2 with(go_at_call 153;refine(a1 _).mono ?_;rintro e w1 ⟨nv,rfl,hb1,a4,hng⟩;obtain⟨p1,rfl⟩:=hb1.rest;clear hb1)
 have a9:=aC a4;clear a4 hng a1;have a4:=a9.out;rcases a4 with⟨rfl,h2⟩|⟨nb,cap,arr,he,-,hbk,hn,hcm,hsz,hrows⟩
 .exfalso;have:=congrArg List.length h2;rw[lM,yX]at this;omega
 rw[lM]at he hn;subst he;refine aD (F:=λwA=>GAt w0 wA S S' c bs bh bc ks/\Keep (tL w) w wA/\Blk wA nb arr 9) ⟨HG.out.later (bel w _),fH (bel w _),hbk⟩ ?_;clear hbk a9;rintro wA ⟨hGA,hkA,hbA⟩;have HA:=eH hGA hkA hbA;have HR:=aC hrows;clear hGA hkA hbA hrows;go_wp2
 go_loopw[8,19] (λvn vi wr=>∃q:Nat,vi=.int .i64 q/\vn=.int .i64 (aNV S ns q)/\q<=ns.length/\GAt w0 wr S S' c bs bh bc (ks++qS S ns q)/\Keep (tL w) w wr/\Blk wr nb arr 9) (λ_ vi _=>(ns.length-intOf vi).toNat)
 case atStart=>exact⟨0,rfl,rfl,by omega,by simpa[qS]using HA.out.1,HA.out.2.1,HA.out.2.2⟩
 obtain⟨q,rfl,rfl,hq,hG,hk,hb⟩:=hrel;obtain⟨hl0,iv,ov,mv,c0,c1,c2,hr⟩:=hG.sp.below hG.below (zC _);have ib:BlockLt bs wr:=⟨hl0⟩;have o1:=hr.1.one;have o2:=hr.2.1.one;have o3:iv.oneCell'=true:=by obtain⟨_,_,_,h3,_⟩:=hr;exact h3.one
 obtain⟨out,hgb,-⟩:=hG.own;have iG:=hgb.lt;have g0:wr.cell? w0.heap.size=some (.pointer bs):=hgb.cell 0;have iN:=hb.lt;by_cases hlt:q<ns.length
 .have a3:RowAt wr 1 (.slice nb q cap) ((ns.take q).map λn=>[.string n]):=by
   have b0:(ns.take q).length=q:=by rw[zU];omega
   refine OwnP.row (B:=0) (e:=9) (.inr ⟨nb,cap,arr,by rw[lM,b0],Nat.zero_le _,hb,by rw[lM,b0];omega,hcm,hsz,λq' cs hq' t u hu=>?_⟩);rw[gM,yO]at hq';split at hq'
   .exact HR.out q' cs (by rw[gM];exact hq') t u hu
   cases hq'
  have b4:=aTP (ns.take q) _ wr a3 (by rw[zU];omega);have a7:=fun(ww:World) (hb:Bl wr ww)=>aLT iv ov mv S (eD (ns.take q)).1 ww (hr.below hb (zC _)) hwf;have a2:=fun(ww:World) (hb:Bl wr ww)=>kL (hG.later hb) (by rw[lP,aNU];omega) (eV S (eD (ns.take q)).1).1 ⟨#[46]⟩;have a5:aNV S ns (q+1)=(eV S (eD (ns.take q)).1).1:=by unfold aNV;rw[zA (by omega)];rfl
  have a6:ks++qS S ns (q+1)=ks++qS S ns q++[⟨(eV S (eD (ns.take q)).1).1,⟨#[46]⟩⟩]:=by rw[aIY,yU]
  generalize eD (ns.take q)=PR at *;obtain⟨ps,pe⟩:=PR;simp only at b4 a7 a2 a5 a6;generalize eV S ps=FR at *;obtain⟨fn,fe⟩:=FR;simp only at a7 a2 a5 a6;have b1:(q:Int)<=ns.length:=by omega
  have b2:(q:Int)<=cap:=by omega
  have b3:q<=cap:=by omega
  have HK:=mJ hk hb a5 a6;clear hr hG hgb hk hb a3 a5 a6;go_wp2_with(first|(go_at_call 154;refine b4.mono ?_;rintro e w1 ⟨rfl,hb⟩;obtain⟨q1,rfl⟩:=hb.rest;clear hb)|(go_at_call 152;refine(a7 _ (bel _ _)).mono ?_;rintro e w1 ⟨rfl,hb⟩;obtain⟨q2,rfl⟩:=hb.rest;clear hb)|(go_at_call 113;refine(a2 _ (bel _ _)).mono ?_;rintro e w2 ⟨rfl,hg,hk2⟩));go_roundw
  case rel=>exact⟨q+1,by go_num,by rw[HK.out.2.2.1],by omega,by rw[HK.out.2.2.2];exact hg,eQ (eQ HK.out.1 (fH (bel wr _))) hk2,hk2.blk (HK.out.2.1.below (bel wr _) iN.lt) (aVX (HK.out.2.1.below (bel wr _) iN.lt) (by decide) (by decide))⟩
  simp[intOf];omega
 have b7:q=ns.length:=by omega
 subst b7;have b8:wr.cell? ⟨nb,ns.length-1,none⟩=some (.string (ns.getLastD ⟨#[]⟩)):=by rw[hb.cell];have:=HR.out (ns.length-1) [.string (ns.getLastD ⟨#[]⟩)] (by rw[gM,a8];rfl) 0 _ rfl;rw[Nat.mul_one,zN]at this;exact this
 obtain⟨m,hm⟩:∃m,ns.length=m+1:=⟨ns.length-1,by omega⟩;have HF:=bJ hG hk;generalize hNU:aNV S ns ns.length=NU at *;generalize hLS:ns.getLastD ⟨#[]⟩=lst at *;have b5:=bJ hNU hLS;clear hNU hLS;rw[hm,Nat.add_sub_cancel]at b8;clear hr hG hgb hk hb c0 c1 c2;have ew:IntKind.i64.wrap ((ns.length:Int)-1)=m:=by rw[show (ns.length:Int)-1=m by omega];exact I64.wrap (by unfold I64;omega)
 have b1:(m:Int)<ns.length:=by omega
 have HM:=aC hm;clear hm hq hlt a8;go_wp2;refine qR ?_
 repeat(go_big_quiet_step (fail))
 refine QN λp=>?_;go_wp2
 go_ret2;exact⟨by rw[b5.out.1,b5.out.2];rfl,HF.out.1.later (bel wr _),eQ HF.out.2 (fH (bel wr _))⟩
theorem aSB (n:ByteArray):∃i:Nat,aV n=i/\i<8/\((⟨#[47]⟩:ByteArray)++⟨(Lib.decDigits i).toArray⟩)=cG n:=by
 have h0:0<=aV n/\aV n<8:=by have hb:0<=pG n/\pG n<4294967296:=lD n n.size 0 7 (by omega);unfold aV;omega
 obtain⟨i,hi⟩:∃i:Nat,aV n=i:=⟨(aV n).toNat,by omega⟩;have a0:i<8:=by omega
 refine⟨i,hi,a0,?_⟩;unfold cG;rw[hi,zJ];have key:∀j:Nat,j<8->((⟨#[47]⟩:ByteArray)++⟨(Lib.decDigits j).toArray⟩)=⟨#[47,UInt8.ofNat (48+j)]⟩:=by decide +kernel
 exact key i a0
theorem oX (h:GAt w0 w S S' c bs bh bc ks) (hl:ks.length<=100000) (hwf:S.wf) {p:ByteArray} (hpo:jP p):
 Calls prog 109 #[.pointer w0.heap.size,p] w (aEI w0 w S S' c bs bh bc (ks++dH S p)):=by
 have a3:=aEJ h hl hwf hpo;have a5:(gA S p).length<=1000:=by have:=dC hpo.1;unfold gA aBV;rw[lM,length_range];omega
 have a0:ks++dH S p=ks++gA S p++[⟨kY S (aA p).2,cG ((aA p).2.getLastD ⟨#[]⟩)⟩]:=by unfold dH;rw[yU]
 rw[a0];generalize kY S (aA p).2=NU at *;generalize(aA p).2.getLastD ⟨#[]⟩=lst at *;generalize gA S p=WK at *;obtain⟨i,hbi,hi8,hbn⟩:=aSB lst;have a2:=λww=>nB lst ww;rw[hbi]at a2;have a4:=λww=>Tryz.strconv_Itoa_small i (by omega) ww;rw[<-hbn];have a6:((⟨(Lib.decDigits i).toArray⟩:ByteArray)).size<=10:=by
  have key:∀j:Nat,j<8->((⟨(Lib.decDigits j).toArray⟩:ByteArray)).size<=10:=by decide +kernel
  exact key i hi8
 generalize(⟨(Lib.decDigits i).toArray⟩:ByteArray)=dig at *;have n1:¬9223372036854775807<1+dig.size:=by omega
 clear hbn hbi a0 h;go_in;go_upto_region 1 with(go_at_call 111;refine a3.mono ?_;rintro e w1 ⟨rfl,hg1,hk1⟩)
 have a1:=fun(ww:World) (hb:Bl w1 ww)=>kL (hg1.later hb) (by rw[lP];omega) NU ((⟨#[47]⟩:ByteArray)++dig);go_wp2_with(first|(go_at_call 133;refine(a2 _).mono ?_;rintro e w2 ⟨rfl,hb⟩;obtain⟨q2,rfl⟩:=hb.rest;clear hb)|(go_at_call 151;refine(a4 _).mono ?_;rintro e w2 ⟨rfl,rfl⟩)|(go_at_call 113;refine(a1 _ (bel _ _)).mono ?_;rintro e w3 ⟨rfl,hg,hk2⟩));exact xE (v:=.tuple #[]) (by simp[results,go_sem]) rfl ⟨rfl,hg,eQ (eQ hk1 (fH (bel w1 _))) hk2⟩
end
end
section
section
variable {w0 w w' w1 w2:World} {S S':PSt} {c:PCall} {bs bh bc:Nat} {ks:List PKey}
theorem GAt.facts (h:GAt w0 w S S' c bs bh bc ks):BlockLt w0.heap.size w/\w.cell? w0.heap.size=some (.pointer bs)/\w.cell? ⟨w0.heap.size,1,none⟩=some (.pointer bh)/\w.cell? ⟨w0.heap.size,2,none⟩=some (.pointer bc)/\BlockLt bc w/\(∀(t:Nat) (u:Value),c.cells[t]? =some u->w.cell? ⟨bc,t,none⟩=some u)/\w.cell? ⟨bc,1,none⟩=some (.int .i64 c.core)/\w.cell? ⟨bc,5,none⟩=some (.string c.path)/\w.cell? ⟨bc,6,none⟩=some (.string c.path2)/\w.cell? ⟨bc,7,none⟩=some (.string c.data):=by obtain⟨out,hg,-⟩:=h.own;have cp:∀(t:Nat) (u:Value),c.cells[t]? =some u->w.cell? ⟨bc,t,none⟩=some u:=λt u hu=>(h.below.cell (p:=⟨bc,t,none⟩) h.cp.1).trans (h.cp.2 t u hu);exact⟨hg.lt,hg.cell 0,hg.cell 1,hg.cell 2,⟨zR h.cp.1 h.below.size⟩,cp,cp 1 _ rfl,cp 5 _ rfl,cp 6 _ rfl,cp 7 _ rfl⟩
theorem rC (ok:GatherOk S c) (hwf:S.wf):IntKind.i64.wrap (-1-c.core)=-1-c.core:=by have:=ok.core;have:=hwf.2.2.1;exact I64.wrap (by unfold I64;omega)
theorem rD (p:ByteArray) (hp:jP p):(gA S p).length<=10/\(dH S p).length<=11:=by have:=dC hp.1;unfold dH gA aBV;rw[lP,lM,length_range];exact⟨by omega,by simp;omega⟩
theorem aBY (h:GAt w0 w S S' c bs bh bc ks) (hl:ks.length<=1000) (hwf:S.wf) (hwf':S'.wf) (ok:GatherOk S c) (hk:c.kind=0\/c.kind=1):
 Calls prog 74 #[.pointer w0.heap.size] w λe w'=>e=.returned (.bool true)/\GAt w0 w' S S' c bs bh bc (ks++((dH S c.path++cP S' c.path)++[⟨-1-c.core,⟨#[]⟩⟩])):=by
 rcases hk with hk|hk
 iterate 2
  .obtain⟨iG0,ga0,gb0,gc0,iC0,cp0,cc0,cf0,cg0,cd0⟩:=h.facts;have ck:w.cell? bc=some (.int .i64 c.kind):=cp0 0 _ rfl;have a0:=ok.core;have a4:=hwf.2.2.1;have ew:=rC ok hwf;have lw:=@rD S;have a1:=oX h (by omega) hwf (ok.path (by omega));clear cp0
   go_in;go_upto_region 6 with(go_at_call 109;refine a1.mono ?_;rintro e w1 ⟨rfl,hg1,hk1⟩)
   obtain⟨iG1,ga1,gb1,gc1,iC1,cp1,cc1,cf1,cg1,cd1⟩:=hg1.facts;have a2:=oW (hg1.later (bel w1 w1.drew)) (by simp only[lP];have q2:=(lw c.path (ok.path (by omega))).2;omega) hg1.sh hwf' c.path;refine aH [12] true (λw'=>w'.cell? ⟨w0.heap.size,1,none⟩=some (.pointer bh)/\w'.cell? ⟨w0.heap.size,2,none⟩=some (.pointer bc)/\w'.cell? ⟨bc,5,none⟩=some (.string c.path)) (by kernel_rfl) (by kernel_rfl) ?_ ?_
   · (try dsimp only);(repeat' apply And.intro)<;>go_simp
   repeat
    apply aI0 rfl rfl
    focus
     rintro w' ⟨s0,s1,s2⟩;go_simp
     first|done|rfl
    simp only[Act.put,sA,sZ,sS]
   refine bB rfl rfl ?_;refine aS 110 #[.pointer w0.heap.size,.pointer bh,.string c.path] ?_ ((a2).mono ?_)
   .go_simp
    first|done|rfl
   rintro e w2 ⟨rfl,hg2,hk2⟩;refine⟨_,rfl,.inr ⟨rfl,rfl⟩,?_⟩;refine aU ?_;obtain⟨iG2,ga2,gb2,gc2,iC2,cp2,cc2,cf2,cg2,cd2⟩:=hg2.facts;have a3:=kL hg2 (by simp only[lP];have q2:=(lw c.path (ok.path (by omega))).2;simp only[cP,zK,yX];omega) (-1-c.core) ⟨#[]⟩;go_wp2_with(go_at_call 113;refine a3.mono ?_;rintro e w3 ⟨rfl,hg3,hk3⟩);go_ret;refine⟨rfl,?_⟩;simpa only[yU]using hg3
theorem aNW (h:GAt w0 w S S' c bs bh bc ks) (hl:ks.length<=1000) (hwf:S.wf) (hwf':S'.wf) (ok:GatherOk S c) (hk:c.kind=2):
 Calls prog 74 #[.pointer w0.heap.size] w λe w'=>e=.returned (.bool true)/\GAt w0 w' S S' c bs bh bc (ks++((gA S c.path++cP S c.path)++[⟨-1-c.core,⟨#[]⟩⟩])):=by
 obtain⟨iG0,ga0,gb0,gc0,iC0,cp0,cc0,cf0,cg0,cd0⟩:=h.facts;have ck:w.cell? bc=some (.int .i64 2):=by rw[<-hk];exact cp0 0 _ rfl
 have a0:=ok.core;have a4:=hwf.2.2.1;have ew:=rC ok hwf;have lw:=@rD S;have a1:=aEJ h (by omega) hwf (ok.path (by omega));clear cp0;go_in;go_upto_region 9 with(go_at_call 111;refine a1.mono ?_;rintro e w1 ⟨rfl,hg1,hk1⟩)
 obtain⟨iG1,ga1,gb1,gc1,iC1,cp1,cc1,cf1,cg1,cd1⟩:=hg1.facts;have a2:=oW (hg1.later (bel w1 w1.drew)) (by simp only[lP];have q1:=(lw c.path (ok.path (by omega))).1;omega) hg1.sp hwf c.path;refine aH [12] true (λw'=>w'.cell? w0.heap.size=some (.pointer bs)/\w'.cell? ⟨w0.heap.size,2,none⟩=some (.pointer bc)/\w'.cell? ⟨bc,5,none⟩=some (.string c.path)) (by kernel_rfl) (by kernel_rfl) ?_ ?_
 · (try dsimp only);(repeat' apply And.intro)<;>go_simp
 repeat
  apply aI0 rfl rfl
  focus
   rintro w' ⟨s0,s1,s2⟩;go_simp
   first|done|rfl
  simp only[Act.put,sA,sZ,sS]
 refine bB rfl rfl ?_;refine aS 110 #[.pointer w0.heap.size,.pointer bs,.string c.path] ?_ ((a2).mono ?_)
 .go_simp
  first|done|rfl
 rintro e w2 ⟨rfl,hg2,hk2⟩;refine⟨_,rfl,.inr ⟨rfl,rfl⟩,?_⟩;refine aU ?_;obtain⟨iG2,ga2,gb2,gc2,iC2,cp2,cc2,cf2,cg2,cd2⟩:=hg2.facts;have a3:=kL hg2 (by simp only[lP];have q1:=(lw c.path (ok.path (by omega))).1;simp only[cP,zK,yX];omega) (-1-c.core) ⟨#[]⟩;go_wp2_with(go_at_call 113;refine a3.mono ?_;rintro e w3 ⟨rfl,hg3,hk3⟩);go_ret;refine⟨rfl,?_⟩;simpa only[yU]using hg3
theorem aBZ (h:GAt w0 w S S' c bs bh bc ks) (hl:ks.length<=1000) (hwf:S.wf) (hwf':S'.wf) (ok:GatherOk S c) (hk:c.kind=3\/c.kind=6):
 Calls prog 74 #[.pointer w0.heap.size] w λe w'=>e=.returned (.bool true)/\GAt w0 w' S S' c bs bh bc (ks++(fG S c++[⟨-1-c.core,⟨#[]⟩⟩])):=by
 rcases hk with hk|hk
 iterate 2
  .obtain⟨iG0,ga0,gb0,gc0,iC0,cp0,cc0,cf0,cg0,cd0⟩:=h.facts;have ck:w.cell? bc=some (.int .i64 c.kind):=cp0 0 _ rfl;have a0:=ok.core;have a3:=hwf.2.2.1;have ew:=rC ok hwf;have lw:=@rD S;have a1:=aBX h (by omega) hwf (ok.fd (by omega));clear cp0
   go_in;go_upto_region 29 with(go_at_call 112;refine a1.mono ?_;rintro e w1 ⟨rfl,hg1,hk1⟩)
   obtain⟨iG1,ga1,gb1,gc1,iC1,cp1,cc1,cf1,cg1,cd1⟩:=hg1.facts;have a2:=kL hg1 (by simp only[lP];simp only[fG,zK,yX];omega) (-1-c.core) ⟨#[]⟩;go_wp2_with(go_at_call 113;refine a2.mono ?_;rintro e w2 ⟨rfl,hg2,hk2⟩);go_ret;refine⟨rfl,?_⟩;simpa only[yU]using hg2
theorem aNX (h:GAt w0 w S S' c bs bh bc ks) (hl:ks.length<=1000) (hwf:S.wf) (hwf':S'.wf) (ok:GatherOk S c) (hk:c.kind=5) (hd:c.data.size≠0):
 Calls prog 74 #[.pointer w0.heap.size] w λe w'=>e=.returned (.bool true)/\GAt w0 w' S S' c bs bh bc (ks++(fG S c++[⟨-1-c.core,⟨#[]⟩⟩])):=by
 obtain⟨iG0,ga0,gb0,gc0,iC0,cp0,cc0,cf0,cg0,cd0⟩:=h.facts;have ck:w.cell? bc=some (.int .i64 5):=by rw[<-hk];exact cp0 0 _ rfl
 have a0:=ok.core;have a3:=hwf.2.2.1;have ew:=rC ok hwf;have lw:=@rD S;have a1:=aBX h (by omega) hwf (ok.fd (by omega));clear cp0;have a4:c.data.toList.isEmpty=false:=by rw[zW,Bool.eq_false_iff];intro hz;rw[isEmpty_iff]at hz;apply hd;show c.data.data.toList.length=0;rw[hz];rfl
 go_in;go_upto_region 29 with(go_at_call 112;refine a1.mono ?_;rintro e w1 ⟨rfl,hg1,hk1⟩)
 obtain⟨iG1,ga1,gb1,gc1,iC1,cp1,cc1,cf1,cg1,cd1⟩:=hg1.facts;have a2:=kL hg1 (by simp only[lP];simp only[fG,zK,yX];omega) (-1-c.core) ⟨#[]⟩;go_wp2_with(go_at_call 113;refine a2.mono ?_;rintro e w2 ⟨rfl,hg2,hk2⟩);go_ret;refine⟨rfl,?_⟩;simpa only[yU]using hg2
theorem aNY (h:GAt w0 w S S' c bs bh bc ks) (hl:ks.length<=1000) (hwf:S.wf) (hwf':S'.wf) (ok:GatherOk S c) (hk:c.kind=8):
 Calls prog 74 #[.pointer w0.heap.size] w λe w'=>e=.returned (.bool true)/\GAt w0 w' S S' c bs bh bc (ks++((gA S c.path++dH S c.path2++cP S c.path)++[⟨-1-c.core,⟨#[]⟩⟩])):=by
 obtain⟨iG0,ga0,gb0,gc0,iC0,cp0,cc0,cf0,cg0,cd0⟩:=h.facts;have ck:w.cell? bc=some (.int .i64 8):=by rw[<-hk];exact cp0 0 _ rfl
 have a0:=ok.core;have a5:=hwf.2.2.1;have ew:=rC ok hwf;have lw:=@rD S;have a1:=aEJ h (by omega) hwf (ok.path (by omega));clear cp0;go_in;go_upto_region 19 with(go_at_call 111;refine a1.mono ?_;rintro e w1 ⟨rfl,hg1,hk1⟩)
 obtain⟨iG1,ga1,gb1,gc1,iC1,cp1,cc1,cf1,cg1,cd1⟩:=hg1.facts;have a2:=oX hg1 (by simp only[lP];have q1:=(lw c.path (ok.path (by omega))).1;omega) hwf (ok.path2 (by omega));go_upto_region 20 with(go_at_call 109;refine a2.mono ?_;rintro e w2 ⟨rfl,hg2,hk2⟩)
 obtain⟨iG2,ga2,gb2,gc2,iC2,cp2,cc2,cf2,cg2,cd2⟩:=hg2.facts;have a3:=oW (hg2.later (bel w2 w2.drew)) (by simp only[lP];have q1:=(lw c.path (ok.path (by omega))).1;have q3:=(lw c.path2 (ok.path2 (by omega))).2;omega) hg2.sp hwf c.path;refine aH [12] true (λw'=>w'.cell? w0.heap.size=some (.pointer bs)/\w'.cell? ⟨w0.heap.size,2,none⟩=some (.pointer bc)/\w'.cell? ⟨bc,5,none⟩=some (.string c.path)) (by kernel_rfl) (by kernel_rfl) ?_ ?_
 · (try dsimp only);(repeat' apply And.intro)<;>go_simp
 repeat
  apply aI0 rfl rfl
  focus
   rintro w' ⟨s0,s1,s2⟩;go_simp
   first|done|rfl
  simp only[Act.put,sA,sZ,sS]
 refine bB rfl rfl ?_;refine aS 110 #[.pointer w0.heap.size,.pointer bs,.string c.path] ?_ ((a3).mono ?_)
 .go_simp
  first|done|rfl
 rintro e w3 ⟨rfl,hg3,hk3⟩;refine⟨_,rfl,.inr ⟨rfl,rfl⟩,?_⟩;refine aU ?_;obtain⟨iG3,ga3,gb3,gc3,iC3,cp3,cc3,cf3,cg3,cd3⟩:=hg3.facts;have a4:=kL hg3 (by simp only[lP];have q1:=(lw c.path (ok.path (by omega))).1;have q3:=(lw c.path2 (ok.path2 (by omega))).2;simp only[cP,zK,yX];omega) (-1-c.core) ⟨#[]⟩;go_wp2_with(go_at_call 113;refine a4.mono ?_;rintro e w4 ⟨rfl,hg4,hk4⟩);go_ret;refine⟨rfl,?_⟩;simpa only[yU]using hg4
theorem aCA (h:GAt w0 w S S' c bs bh bc ks) (hl:ks.length<=1000) (hwf:S.wf) (hwf':S'.wf) (ok:GatherOk S c) (hk:c.kind=9\/c.kind=10):
 Calls prog 74 #[.pointer w0.heap.size] w λe w'=>e=.returned (.bool true)/\GAt w0 w' S S' c bs bh bc (ks++((dH S c.path++cP S c.path)++[⟨-1-c.core,⟨#[]⟩⟩])):=by
 rcases hk with hk|hk
 iterate 2
  .obtain⟨iG0,ga0,gb0,gc0,iC0,cp0,cc0,cf0,cg0,cd0⟩:=h.facts;have ck:w.cell? bc=some (.int .i64 c.kind):=cp0 0 _ rfl;have a0:=ok.core;have a4:=hwf.2.2.1;have ew:=rC ok hwf;have lw:=@rD S;have a1:=oX h (by omega) hwf (ok.path (by omega));clear cp0
   go_in;go_upto_region 24 with(go_at_call 109;refine a1.mono ?_;rintro e w1 ⟨rfl,hg1,hk1⟩)
   obtain⟨iG1,ga1,gb1,gc1,iC1,cp1,cc1,cf1,cg1,cd1⟩:=hg1.facts;have a2:=oW (hg1.later (bel w1 w1.drew)) (by simp only[lP];have q2:=(lw c.path (ok.path (by omega))).2;omega) hg1.sp hwf c.path;refine aH [12] true (λw'=>w'.cell? w0.heap.size=some (.pointer bs)/\w'.cell? ⟨w0.heap.size,2,none⟩=some (.pointer bc)/\w'.cell? ⟨bc,5,none⟩=some (.string c.path)) (by kernel_rfl) (by kernel_rfl) ?_ ?_
   · (try dsimp only);(repeat' apply And.intro)<;>go_simp
   repeat
    apply aI0 rfl rfl
    focus
     rintro w' ⟨s0,s1,s2⟩;go_simp
     first|done|rfl
    simp only[Act.put,sA,sZ,sS]
   refine bB rfl rfl ?_;refine aS 110 #[.pointer w0.heap.size,.pointer bs,.string c.path] ?_ ((a2).mono ?_)
   .go_simp
    first|done|rfl
   rintro e w2 ⟨rfl,hg2,hk2⟩;refine⟨_,rfl,.inr ⟨rfl,rfl⟩,?_⟩;refine aU ?_;obtain⟨iG2,ga2,gb2,gc2,iC2,cp2,cc2,cf2,cg2,cd2⟩:=hg2.facts;have a3:=kL hg2 (by simp only[lP];have q2:=(lw c.path (ok.path (by omega))).2;simp only[cP,zK,yX];omega) (-1-c.core) ⟨#[]⟩;go_wp2_with(go_at_call 113;refine a3.mono ?_;rintro e w3 ⟨rfl,hg3,hk3⟩);go_ret;refine⟨rfl,?_⟩;simpa only[yU]using hg3
theorem aIZ (h:GAt w0 w S S' c bs bh bc ks) (hl:ks.length<=1000) (hwf:S.wf) (hwf':S'.wf) (ok:GatherOk S c) (hk:c.kind=11):
 Calls prog 74 #[.pointer w0.heap.size] w λe w'=>e=.returned (.bool true)/\GAt w0 w' S S' c bs bh bc (ks++((dH S c.path++dH S c.path2++cP S c.path)++[⟨-1-c.core,⟨#[]⟩⟩])):=by
 obtain⟨iG0,ga0,gb0,gc0,iC0,cp0,cc0,cf0,cg0,cd0⟩:=h.facts;have ck:w.cell? bc=some (.int .i64 11):=by rw[<-hk];exact cp0 0 _ rfl
 have a0:=ok.core;have a5:=hwf.2.2.1;have ew:=rC ok hwf;have lw:=@rD S;have a1:=oX h (by omega) hwf (ok.path (by omega));clear cp0;go_in;go_upto_region 27 with(go_at_call 109;refine a1.mono ?_;rintro e w1 ⟨rfl,hg1,hk1⟩)
 obtain⟨iG1,ga1,gb1,gc1,iC1,cp1,cc1,cf1,cg1,cd1⟩:=hg1.facts;have a2:=oX hg1 (by simp only[lP];have q2:=(lw c.path (ok.path (by omega))).2;omega) hwf (ok.path2 (by omega));go_upto_region 28 with(go_at_call 109;refine a2.mono ?_;rintro e w2 ⟨rfl,hg2,hk2⟩)
 obtain⟨iG2,ga2,gb2,gc2,iC2,cp2,cc2,cf2,cg2,cd2⟩:=hg2.facts;have a3:=oW (hg2.later (bel w2 w2.drew)) (by simp only[lP];have q2:=(lw c.path (ok.path (by omega))).2;have q3:=(lw c.path2 (ok.path2 (by omega))).2;omega) hg2.sp hwf c.path;refine aH [12] true (λw'=>w'.cell? w0.heap.size=some (.pointer bs)/\w'.cell? ⟨w0.heap.size,2,none⟩=some (.pointer bc)/\w'.cell? ⟨bc,5,none⟩=some (.string c.path)) (by kernel_rfl) (by kernel_rfl) ?_ ?_
 · (try dsimp only);(repeat' apply And.intro)<;>go_simp
 repeat
  apply aI0 rfl rfl
  focus
   rintro w' ⟨s0,s1,s2⟩;go_simp
   first|done|rfl
  simp only[Act.put,sA,sZ,sS]
 refine bB rfl rfl ?_;refine aS 110 #[.pointer w0.heap.size,.pointer bs,.string c.path] ?_ ((a3).mono ?_)
 .go_simp
  first|done|rfl
 rintro e w3 ⟨rfl,hg3,hk3⟩;refine⟨_,rfl,.inr ⟨rfl,rfl⟩,?_⟩;refine aU ?_;obtain⟨iG3,ga3,gb3,gc3,iC3,cp3,cc3,cf3,cg3,cd3⟩:=hg3.facts;have a4:=kL hg3 (by simp only[lP];have q2:=(lw c.path (ok.path (by omega))).2;have q3:=(lw c.path2 (ok.path2 (by omega))).2;simp only[cP,zK,yX];omega) (-1-c.core) ⟨#[]⟩;go_wp2_with(go_at_call 113;refine a4.mono ?_;rintro e w4 ⟨rfl,hg4,hk4⟩);go_ret;refine⟨rfl,?_⟩;simpa only[yU]using hg4
end
end
section
section
variable {w0 w w' w1 w2:World} {S S':PSt} {c:PCall} {bs bh bc:Nat} {ks:List PKey}
theorem aJF (h:GAt w0 w S S' c bs bh bc ks) (hl:ks.length<=1000) (hwf:S.wf) (hwf':S'.wf) (ok:GatherOk S c) {l:List PKey} (hk:cH S S' c=some l):
 Calls prog 74 #[.pointer w0.heap.size] w λe w'=>e=.returned (.bool true)/\GAt w0 w' S S' c bs bh bc (ks++l):=by
 unfold cH at hk;simp only at hk;obtain⟨m,hm,rfl⟩:=Option.map_eq_some_iff.1 hk;by_cases k0:c.kind=0
 .rw[zB (.inl k0)]at hm;cases hm;exact aBY h hl hwf hwf' ok (.inl k0)
 by_cases k1:c.kind=1
 .rw[zB (.inr k1)]at hm;cases hm;exact aBY h hl hwf hwf' ok (.inr k1)
 rw[zA (by omega)]at hm;by_cases k2:c.kind=2
 .rw[zB k2]at hm;cases hm;exact aNW h hl hwf hwf' ok k2
 rw[zA k2]at hm;by_cases k3:c.kind=3
 .rw[zB (.inl k3)]at hm;cases hm;exact aBZ h hl hwf hwf' ok (.inl k3)
 by_cases k6:c.kind=6
 .rw[zB (.inr k6)]at hm;cases hm;exact aBZ h hl hwf hwf' ok (.inr k6)
 rw[zA (by omega)]at hm;by_cases k5:c.kind=5
 .rw[zB k5]at hm;by_cases hd:c.data.size=0
  .rw[zB hd]at hm;cases hm
  rw[zA hd]at hm;cases hm;exact aNX h hl hwf hwf' ok k5 hd
 rw[zA k5]at hm;by_cases k8:c.kind=8
 .rw[zB k8]at hm;cases hm;exact aNY h hl hwf hwf' ok k8
 rw[zA k8]at hm;by_cases k9:c.kind=9
 .rw[zB (.inl k9)]at hm;cases hm;exact aCA h hl hwf hwf' ok (.inl k9)
 by_cases k10:c.kind=10
 .rw[zB (.inr k10)]at hm;cases hm;exact aCA h hl hwf hwf' ok (.inr k10)
 rw[zA (by omega)]at hm;by_cases k11:c.kind=11
 .rw[zB k11]at hm;cases hm;exact aIZ h hl hwf hwf' ok k11
 rw[zA k11]at hm;cases hm
theorem aOL (h:GAt w0 w S S' c bs bh bc ks) (hk:cH S S' c=none):
 Calls prog 74 #[.pointer w0.heap.size] w λe w'=>e=.returned (.bool false)/\GAt w0 w' S S' c bs bh bc ks:=by
 obtain⟨out,hgb,-⟩:=h.own;have iG:=hgb.lt;have gc:w.cell? ⟨w0.heap.size,2,none⟩=some (.pointer bc):=hgb.cell 2;have iC:BlockLt bc w:=⟨zR h.cp.1 h.below.size⟩;have cp:∀(t:Nat) (u:Value),c.cells[t]? =some u->w.cell? ⟨bc,t,none⟩=some u:=λt u hu=>(h.below.cell (p:=⟨bc,t,none⟩) h.cp.1).trans (h.cp.2 t u hu);have ck:=cp 0 _ rfl;have cd:=cp 7 _ rfl;have HG:=aC h;unfold cH at hk;simp only[Option.map_eq_none_iff]at hk;have a0:¬(c.kind=0\/c.kind=1):=λhh=>by rw[zB hh]at hk;cases hk
 rw[zA a0]at hk;have n2:¬c.kind=2:=λhh=>by rw[zB hh]at hk;cases hk
 rw[zA n2]at hk;have a1:¬(c.kind=3\/c.kind=6):=λhh=>by rw[zB hh]at hk;cases hk
 rw[zA a1]at hk;by_cases k5:c.kind=5
 .rw[zB k5]at hk;have hd:c.data.size=0:=Classical.byContradiction λhn=>by rw[zA hn]at hk;cases hk
  have a3:c.data.toList.isEmpty=true:=by rw[zW,isEmpty_iff];exact zT hd
  rw[k5]at ck;clear h hgb cp hk a0 n2 a1 hd;go_in;go_wp2;go_ret;exact⟨rfl,HG.out.later (bel w _)⟩
 rw[zA k5]at hk;have n8:¬c.kind=8:=λhh=>by rw[zB hh]at hk;cases hk
 rw[zA n8]at hk;have n9:¬(c.kind=9\/c.kind=10):=λhh=>by rw[zB hh]at hk;cases hk
 rw[zA n9]at hk;have a2:¬c.kind=11:=λhh=>by rw[zB hh]at hk;cases hk
 have e0:(c.kind==0)=false:=by simp;omega
 have e1:(c.kind==1)=false:=by simp;omega
 have e2:(c.kind==2)=false:=by simp;omega
 have e3:(c.kind==3)=false:=by simp;omega
 have e6:(c.kind==6)=false:=by simp;omega
 have e5:(c.kind==5)=false:=by simp;omega
 have e8:(c.kind==8)=false:=by simp;omega
 have e9:(c.kind==9)=false:=by simp;omega
 have a4:(c.kind==10)=false:=by simp;omega
 have a5:(c.kind==11)=false:=by simp;omega
 clear h hgb cp hk a0 n2 a1 k5 n8 n9 a2;go_in;go_wp2;go_ret;exact⟨rfl,HG.out.later (bel w _)⟩
end
def sE (code:Int) (o:Option (List PKey)):List PKey:=if code≠0 then[]else match o with|none=>[]|some l=>cE (oG l)
def jK (S:PSt) (c:PCall):List PKey:=sE (kX S c).2.code (cH S (kX S c).1 c)
theorem pX {code:Int} {o:Option (List PKey)} (h:¬code=0):sE code o=[]:=by unfold sE;rw[zB h]
theorem nU (code:Int):sE code none=[]:=by unfold sE;split<;>rfl
theorem rG {code:Int} {l:List PKey} (h:code=0):sE code (some l)=cE (oG l):=by unfold sE;rw[zA (by simpa using h)]
end
section
variable {S S':PSt} {c:PCall} {l:List PKey}
theorem aJG (h:cH S S' c=some l):l≠[]:=by unfold cH at h;simp only at h;obtain⟨m,_,rfl⟩:=Option.map_eq_some_iff.1 h;simp
theorem aGI (ok:GatherOk S c) (h:cH S S' c=some l):l.length<=1000:=by
 have lw:∀S p,jP p->(gA S p).length<=10/\(dH S p).length<=11:=λS p hp=>by have:=dC hp.1;unfold dH gA aBV;rw[lP,lM,length_range];exact⟨by omega,by simp;omega⟩
 have li:∀S p,(cP S p).length=1:=λ_ _=>rfl;have lo:∀S c,(fG S c).length=1:=λ_ _=>rfl;unfold cH at h;simp only at h;obtain⟨m,hm,rfl⟩:=Option.map_eq_some_iff.1 h
 have:m.length<=100:=by
  by_cases k0:c.kind=0\/c.kind=1
  .rw[zB k0]at hm;cases hm;have:=(lw S c.path (ok.path (by omega))).2;rw[lP,li];omega
  rw[zA k0]at hm;by_cases k2:c.kind=2
  .rw[zB k2]at hm;cases hm;have:=(lw S c.path (ok.path (by omega))).1;rw[lP,li];omega
  rw[zA k2]at hm;by_cases k3:c.kind=3\/c.kind=6
  .rw[zB k3]at hm;cases hm;rw[lo];omega
  rw[zA k3]at hm;by_cases k5:c.kind=5
  .rw[zB k5]at hm
   split at hm
   .cases hm
   cases hm;rw[lo];omega
  rw[zA k5]at hm;by_cases k8:c.kind=8
  .rw[zB k8]at hm;cases hm;have h1:=(lw S c.path (ok.path (by omega))).1;have h2:=(lw S c.path2 (ok.path2 (by omega))).2;rw[lP,lP,li];omega
  rw[zA k8]at hm;by_cases k9:c.kind=9\/c.kind=10
  .rw[zB k9]at hm;cases hm;have:=(lw S c.path (ok.path (by omega))).2;rw[lP,li];omega
  rw[zA k9]at hm;by_cases k11:c.kind=11
  .rw[zB k11]at hm;cases hm;have h1:=(lw S c.path (ok.path (by omega))).2;have h2:=(lw S c.path2 (ok.path2 (by omega))).2;rw[lP,lP,li];omega
  rw[zA k11]at hm;cases hm
 rw[lP];simp;omega
def aYQ (B:Nat) (S':PSt) (ks:List PKey) (e:Ending) (w':World):Prop:=∃kv iv ov mv,e=.returned (.tuple #[kv,.agg #[iv,ov,mv]])/\OwnP B w' 61 2 kv (ks.map PKey.cells)/\StOwn B w' iv ov mv S'
structure KW (w:World) (S S':PSt) (c:PCall) (r:PRes) (iv ov mv iv1 ov1 mv1 nv1:Value) (b6 b7:Nat) (wA:World):Prop where
 below:Bl w wA
 s:Blk wA w.heap.size #[iv,ov,mv] 26
 c:Blk wA (w.heap.size+1) #[c.kind,c.core,c.fd,c.off,c.num,c.path,c.path2,c.data] 28
 o:Blk wA (w.heap.size+1+1) #[.slice none 0 0,.slice none 0 0,.slice none 0 0] 26
 h:Blk wA b6 #[iv1,ov1,mv1] 26
 r:Blk wA b7 #[r.code,r.fd,r.num,r.dir,r.data,nv1] 52
 n6:w.heap.size+1+1<b6
 sr:StRead wA iv ov mv S
 sr1:StOwn w.heap.size wA iv1 ov1 mv1 S'
theorem aSQ (iv ov mv:Value) (S:PSt) (c:PCall) (w:World) (h:StRead w iv ov mv S) (hwf:S.wf) (hwf':(kX S c).1.wf) (hcd:c.data.size<=1000000000000000000):
 Calls prog 40 #[.agg #[iv,ov,mv],c.val] w λe w'=>Bl w w'/\aYQ w.heap.size (kX S c).1 (jK S c) e w':=by
 have D:=aVP hwf hcd;have a8:(kX S c).2.code=0->GatherOk S c:=λhc=>aBU hwf hc;unfold jK;generalize kX S c=SR at *;obtain⟨S',r⟩:=SR;simp only at D a8 hwf' |-;obtain⟨RR,hRR⟩:=gAB (sE r.code (cH S S' c));rw[hRR];have b4:=aC hRR;clear hRR;have o1:=h.1.one;have o2:=h.2.1.one;have o3:iv.oneCell'=true:=by obtain⟨_,_,_,h3,_⟩:=h;exact h3.one
 have HS:=aC h;clear h;unfold PCall.val;go_in;go_upto_region 2 with(go_at_call 73;refine(D _ _ _ _ (HS.out.below (bel w _) (zC _))).mono ?_;rintro e wa ⟨hb,iv1,ov1,mv1,nv1,rfl,hs1,hn1⟩;obtain⟨pa,rfl⟩:=hb.rest;clear hb;obtain⟨a11,a12,a13,a14,a15,a16,a17,a18,a19,rfl,rfl,rfl⟩:=hs1.forms;obtain⟨n11,n12,rfl,-⟩:=hn1.row)
 refine aD (F:=λwA=>KW w S S' c r iv ov mv (.slice a11 a12 a13) (.slice a14 a15 a16) (.slice a17 a18 a19) (.slice n11 r.names.length n12) (w.heap.size+1+1+1+pa.len) (w.heap.size+1+1+1+pa.len+1) wA) ?_ ?_
 .refine⟨bel w _,?_,?_,?_,?_,?_,by omega,HS.out.below (bel w _) (zC _),?_⟩
  .repeat(first|exact Blk.new_i _ _ _ _|refine Blk.alloc ?_ _|refine Blk.junk ?_ _)
  .repeat(first|exact Blk.new_i _ _ _ _|refine Blk.alloc ?_ _|refine Blk.junk ?_ _)
  .repeat(first|exact Blk.new_i _ _ _ _|refine Blk.alloc ?_ _|refine Blk.junk ?_ _)
  .repeat(first|exact Blk.new_i _ _ _ _|refine Blk.alloc ?_ _|refine Blk.junk ?_ _)
  .repeat(first|exact Blk.new_i _ _ _ _|refine Blk.alloc ?_ _|refine Blk.junk ?_ _)
  exact StOwn.mono (StOwn.keep hs1 (Keep.of_below (bel _ _) (λ_=>False)) (λ_ h=>h.elim)) (by simp;omega)
 generalize w.heap.size+1+1+1+pa.len=b6;generalize b6+1=b7;clear hs1 hn1 pa HS D;intro wA K;have k0:wA.cell? b7=some (.int .i64 r.code):=K.r.cell 0;have i7:=K.r.lt;have i6:=K.h.lt;have h0:wA.cell? b6=some (.slice a11 a12 a13):=K.h.cell 0;have h1:wA.cell? ⟨b6,1,none⟩=some (.slice a14 a15 a16):=K.h.cell 1;have h2:wA.cell? ⟨b6,2,none⟩=some (.slice a17 a18 a19):=K.h.cell 2;have i5:=K.o.lt;have p0:wA.cell? ⟨w.heap.size+1+1,0,none⟩=some (.slice none 0 0):=K.o.cell 0;have p1:wA.cell? ⟨w.heap.size+1+1,1,none⟩=some (.slice none 0 0):=K.o.cell 1;have p2:wA.cell? ⟨w.heap.size+1+1,2,none⟩=some (.slice none 0 0):=K.o.cell 2;have f0:=K.o.frozen 0;have f1:=K.o.frozen 1;have f2:=K.o.frozen 2;have a9:GAt wA (wA.alloc (.cells #[.pointer w.heap.size,.pointer b6,.pointer (some ⟨w.heap.size+1,0,none⟩),.slice none 0 0] 106)) S S' c w.heap.size b6 (w.heap.size+1) []:=
  ⟨⟨K.s.lt.lt,iv,ov,mv,K.s.cell 0,K.s.cell 1,K.s.cell 2,K.sr⟩,⟨i6.lt,_,_,_,h0,h1,h2,K.sr1.read⟩,⟨K.c.lt.lt,λt u hu=>by rw[K.c.cell];simpa[PCall.cells]using hu⟩,bel wA _,.slice none 0 0,Blk.new _ _ _,.inl ⟨rfl,rfl⟩⟩
 have HK:=bJ K a9;have HN:=K.n6;by_cases hcode:r.code=0
 .have c7:(r.code !=0)=false:=by simpa using hcode
  rcases hg:cH S S' c with _|l
  .have b5:RR=[]:=by rw[<-b4.out,hg,nU]
   have c8:=aOL a9 hg;clear K a9 hcode a8;go_upto_region 4 with(go_at_call 74;refine c8.mono ?_;rintro e w2 ⟨rfl,hg2⟩)
   have a0:=hg2.below;have q0:w2.cell? b6=some (.slice a11 a12 a13):=(a0.cell (p:=b6) i6.lt).trans h0;have q1:w2.cell? ⟨b6,1,none⟩=some (.slice a14 a15 a16):=(a0.cell (p:=⟨b6,1,none⟩) i6.lt).trans h1;have q2:w2.cell? ⟨b6,2,none⟩=some (.slice a17 a18 a19):=(a0.cell (p:=⟨b6,2,none⟩) i6.lt).trans h2;have ko:Blk w2 (w.heap.size+1+1) #[.slice none 0 0,.slice none 0 0,.slice none 0 0] 26:=HK.out.1.o.below a0 i5.lt;have p0:w2.cell? ⟨w.heap.size+1+1,0,none⟩=some (.slice none 0 0):=ko.cell 0;have p1:w2.cell? ⟨w.heap.size+1+1,1,none⟩=some (.slice none 0 0):=ko.cell 1;have p2:w2.cell? ⟨w.heap.size+1+1,2,none⟩=some (.slice none 0 0):=ko.cell 2;have f0:=ko.frozen 0;have f1:=ko.frozen 1;have f2:=ko.frozen 2;have j6:BlockLt b6 w2:=⟨by have:=i6.lt;have:=a0.size;omega⟩;have j5:=ko.lt;refine aH [2] true (λw'=>w'.cell? b6=some (.slice a11 a12 a13)/\w'.cell? ⟨b6,1,none⟩=some (.slice a14 a15 a16)/\w'.cell? ⟨b6,2,none⟩=some (.slice a17 a18 a19)) (by kernel_rfl) (by kernel_rfl) ?_ ?_
   · (try dsimp only);(repeat' apply And.intro)<;>go_simp
   repeat
    apply aI0 rfl rfl
    focus
     rintro w' ⟨s0,s1,s2⟩;go_simp
     first|done|rfl
    simp only[Act.put,sA,sZ,sS]
   refine aW rfl rfl ?_;apply Exists.intro;apply And.intro
   focus
    go_simp
    first|done|rfl
   apply And.intro
   focus
    exact .inr ⟨rfl,rfl⟩
   refine aU ?_;have a2:Keep (λg=>g=w.heap.size+1+1) wA ((((w2.drew).setCell ⟨w.heap.size+1+1,0,none⟩ (.slice a11 a12 a13)).setCell ⟨w.heap.size+1+1,1,none⟩ (.slice a14 a15 a16)).setCell ⟨w.heap.size+1+1,2,none⟩ (.slice a17 a18 a19)):=(((Keep.of_below a0.drew (λg=>g=w.heap.size+1+1)).setCell (p:=⟨w.heap.size+1+1,0,none⟩) (.inl rfl) _).setCell (p:=⟨w.heap.size+1+1,1,none⟩) (.inl rfl) _).setCell (p:=⟨w.heap.size+1+1,2,none⟩) (.inl rfl) _;have a1:Blk ((((w2.drew).setCell ⟨w.heap.size+1+1,0,none⟩ (.slice a11 a12 a13)).setCell ⟨w.heap.size+1+1,1,none⟩ (.slice a14 a15 a16)).setCell ⟨w.heap.size+1+1,2,none⟩ (.slice a17 a18 a19)) (w.heap.size+1+1) #[(.slice a11 a12 a13),(.slice a14 a15 a16),(.slice a17 a18 a19)] 26:=(((HK.out.1.o.below a0.drew i5.lt).set_ 0 (.slice a11 a12 a13)).set_ 1 (.slice a14 a15 a16)).set_ 2 (.slice a17 a18 a19);obtain⟨wF,hwF⟩:∃wF,((((w2.drew).setCell ⟨w.heap.size+1+1,0,none⟩ (.slice a11 a12 a13)).setCell ⟨w.heap.size+1+1,1,none⟩ (.slice a14 a15 a16)).setCell ⟨w.heap.size+1+1,2,none⟩ (.slice a17 a18 a19))=wF:=⟨_,rfl⟩;change Exit.then _ _ .normal _ (((w2.drew.setCell ⟨w.heap.size+1+1,0,none⟩ (.slice a11 a12 a13)).setCell ⟨w.heap.size+1+1,1,none⟩ (.slice a14 a15 a16)).setCell ⟨w.heap.size+1+1,2,none⟩ (.slice a17 a18 a19))
   rw[hwF]at a2 a1 |-;have c9:=a2;have e0:wF.cell? ⟨w.heap.size+1+1,0,none⟩=some (.slice a11 a12 a13):=a1.cell 0;have e1:wF.cell? ⟨w.heap.size+1+1,1,none⟩=some (.slice a14 a15 a16):=a1.cell 1;have e2:wF.cell? ⟨w.heap.size+1+1,2,none⟩=some (.slice a17 a18 a19):=a1.cell 2;have c0:=a1.lt;have b1:StOwn w.heap.size wF (.slice a11 a12 a13) (.slice a14 a15 a16) (.slice a17 a18 a19) S':=StOwn.keep HK.out.1.sr1 a2 (λg hg=>by rw[hg];exact⟨_,26,HK.out.1.o,by decide,by decide,by decide,by decide⟩);have b2:Bl w wF:=HK.out.1.below.trans (a2.below HK.out.1.below.size (λi hi hg=>by omega));clear q0 q1 q2 p0 p1 p2 f0 f1 f2 ko;go_wp2;exact xD (v:=.tuple #[.slice none 0 0,.agg #[(.slice a11 a12 a13),(.slice a14 a15 a16),(.slice a17 a18 a19)]]) (by simp[results,Tryz.results40,go_sem,e0,e1,e2]) rfl ⟨b2,_,_,_,_,rfl,.inl ⟨rfl,by rw[b5];rfl⟩,b1⟩
  have d0:=aJF a9 (by simp) hwf hwf' (a8 hcode) hg;have e3:l.length<=1000:=aGI (a8 hcode) hg;have c1:RR=cE (oG l):=by rw[<-b4.out,hg,rG hcode]
  have b8:=aJG hg;clear K a9 hcode a8 p0 p1 p2 f0 f1 f2;go_upto_region 5 with(go_at_call 74;refine d0.mono ?_;rintro e w2 ⟨rfl,hg2⟩)
  rw[nil_append]at hg2;obtain⟨out,hgb,hown⟩:=hg2.own;have c2:=aC hown;rcases hown with⟨-,h2'⟩|⟨gk,cap,arr,rfl,hgkB,hgkb,-⟩
  .exact absurd (map_eq_nil_iff.1 h2') b8
  rw[lM]at c2 hgb;have a4:=sort75 wA.heap.size gk cap l w2 c2.out (by omega);have e4:=hgb.lt;have d1:w2.cell? ⟨wA.heap.size,3,none⟩=some (.slice gk l.length cap):=hgb.cell 3;have b3:=hgkb.ne_ hgb (by decide);have a0:=hg2.below;go_upto_region 6 with(go_at_call 75;refine a4.mono ?_;rintro e w3 ⟨rfl,ho3,hk3⟩)
  have a5:Bl wA w3:=a0.trans (hk3.below a0.size (λi hi hg=>by omega));have a6:=hk3.blk hgb (λe=>b3 e.symm);have e5:=a6.lt;have d2:w3.cell? ⟨wA.heap.size,3,none⟩=some (.slice gk l.length cap):=a6.cell 3;rw[<-kC l]at ho3;have a7:=aNJ wA.heap.size gk cap (oG l) w3.drew (OwnP.keep ho3 (Keep.of_below (bel w3 w3.drew) (λ_=>False)) (λ_ _ h=>h)) (by rw[kC];omega);rw[kC]at a7;rw[<-c1]at a7;clear d1 hgb a4;have q0:w3.cell? b6=some (.slice a11 a12 a13):=(a5.cell (p:=b6) i6.lt).trans h0;have q1:w3.cell? ⟨b6,1,none⟩=some (.slice a14 a15 a16):=(a5.cell (p:=⟨b6,1,none⟩) i6.lt).trans h1;have q2:w3.cell? ⟨b6,2,none⟩=some (.slice a17 a18 a19):=(a5.cell (p:=⟨b6,2,none⟩) i6.lt).trans h2;have ko:Blk w3 (w.heap.size+1+1) #[.slice none 0 0,.slice none 0 0,.slice none 0 0] 26:=HK.out.1.o.below a5 i5.lt;have p0:w3.cell? ⟨w.heap.size+1+1,0,none⟩=some (.slice none 0 0):=ko.cell 0;have p1:w3.cell? ⟨w.heap.size+1+1,1,none⟩=some (.slice none 0 0):=ko.cell 1;have p2:w3.cell? ⟨w.heap.size+1+1,2,none⟩=some (.slice none 0 0):=ko.cell 2;have f0:=ko.frozen 0;have f1:=ko.frozen 1;have f2:=ko.frozen 2;have j6:BlockLt b6 w3:=⟨by have:=i6.lt;have:=a5.size;omega⟩;have j5:=ko.lt;refine aH [4,7] true (λw'=>w'.cell? ⟨wA.heap.size,3,none⟩=some (.slice gk l.length cap)/\w'.cell? b6=some (.slice a11 a12 a13)/\w'.cell? ⟨b6,1,none⟩=some (.slice a14 a15 a16)/\w'.cell? ⟨b6,2,none⟩=some (.slice a17 a18 a19)) (by kernel_rfl) (by kernel_rfl) ?_ ?_
  · (try dsimp only);(repeat' apply And.intro)<;>go_simp
  repeat
   apply aI0 rfl rfl
   focus
    rintro w' ⟨s9,s0,s1,s2⟩;go_simp
    first|done|rfl
   simp only[Act.put,sA,sZ,sS]
  refine bB rfl rfl ?_;refine aS 80 #[.slice gk l.length cap] ?_ (a7.mono ?_)
  .go_simp
   first|done|rfl
  rintro e w4 ⟨rfl,ho4,hk4⟩;have b0:Bl wA w4:=a5.trans ((bel w3 w3.drew).mono a5.size |>.trans (hk4.below a5.size (λi hi hg=>by omega)));have b9:=hk4.blk (a6.drew) (λe=>b3 e.symm);have c3:w4.cell? b6=some (.slice a11 a12 a13):=(b0.cell (p:=b6) i6.lt).trans h0;have c4:w4.cell? ⟨b6,1,none⟩=some (.slice a14 a15 a16):=(b0.cell (p:=⟨b6,1,none⟩) i6.lt).trans h1;have c5:w4.cell? ⟨b6,2,none⟩=some (.slice a17 a18 a19):=(b0.cell (p:=⟨b6,2,none⟩) i6.lt).trans h2;have a3:Blk w4 (w.heap.size+1+1) #[.slice none 0 0,.slice none 0 0,.slice none 0 0] 26:=HK.out.1.o.below b0 i5.lt;have d3:w4.cell? ⟨w.heap.size+1+1,0,none⟩=some (.slice none 0 0):=a3.cell 0;have d4:w4.cell? ⟨w.heap.size+1+1,1,none⟩=some (.slice none 0 0):=a3.cell 1;have d5:w4.cell? ⟨w.heap.size+1+1,2,none⟩=some (.slice none 0 0):=a3.cell 2;have d6:=a3.frozen 0;have d7:=a3.frozen 1;have d8:=a3.frozen 2;have e6:BlockLt b6 w4:=⟨by have:=i6.lt;have:=b0.size;omega⟩;have e7:=a3.lt;refine⟨_,rfl,.inl ⟨b9.cell 3,c3,c4,c5⟩,?_⟩;simp only[Act.put,sA,sZ,sS]
  repeat
   apply aI0 rfl rfl
   focus
    rintro w' ⟨s9,s0,s1,s2⟩;go_simp
    first|done|rfl
   simp only[Act.put,sA,sZ,sS]
  refine aW rfl rfl ?_;apply Exists.intro;apply And.intro
  focus
   go_simp
   first|done|rfl
  apply And.intro
  focus
   exact .inr ⟨rfl,rfl⟩
  refine aU ?_;have a2:Keep (λg=>g=w.heap.size+1+1) wA (((w4.setCell ⟨w.heap.size+1+1,0,none⟩ (.slice a11 a12 a13)).setCell ⟨w.heap.size+1+1,1,none⟩ (.slice a14 a15 a16)).setCell ⟨w.heap.size+1+1,2,none⟩ (.slice a17 a18 a19)):=(((Keep.of_below b0 (λg=>g=w.heap.size+1+1)).setCell (p:=⟨w.heap.size+1+1,0,none⟩) (.inl rfl) _).setCell (p:=⟨w.heap.size+1+1,1,none⟩) (.inl rfl) _).setCell (p:=⟨w.heap.size+1+1,2,none⟩) (.inl rfl) _;have c6:Keep (λg=>g=w.heap.size+1+1) w4 (((w4.setCell ⟨w.heap.size+1+1,0,none⟩ (.slice a11 a12 a13)).setCell ⟨w.heap.size+1+1,1,none⟩ (.slice a14 a15 a16)).setCell ⟨w.heap.size+1+1,2,none⟩ (.slice a17 a18 a19)):=(((Keep.refl (λg=>g=w.heap.size+1+1) w4).setCell (p:=⟨w.heap.size+1+1,0,none⟩) (.inl rfl) _).setCell (p:=⟨w.heap.size+1+1,1,none⟩) (.inl rfl) _).setCell (p:=⟨w.heap.size+1+1,2,none⟩) (.inl rfl) _;have a1:Blk (((w4.setCell ⟨w.heap.size+1+1,0,none⟩ (.slice a11 a12 a13)).setCell ⟨w.heap.size+1+1,1,none⟩ (.slice a14 a15 a16)).setCell ⟨w.heap.size+1+1,2,none⟩ (.slice a17 a18 a19)) (w.heap.size+1+1) #[(.slice a11 a12 a13),(.slice a14 a15 a16),(.slice a17 a18 a19)] 26:=((a3.set_ 0 (.slice a11 a12 a13)).set_ 1 (.slice a14 a15 a16)).set_ 2 (.slice a17 a18 a19);obtain⟨wF,hwF⟩:∃wF,(((w4.setCell ⟨w.heap.size+1+1,0,none⟩ (.slice a11 a12 a13)).setCell ⟨w.heap.size+1+1,1,none⟩ (.slice a14 a15 a16)).setCell ⟨w.heap.size+1+1,2,none⟩ (.slice a17 a18 a19))=wF:=⟨_,rfl⟩;change Exit.then _ _ .normal _ (((w4.setCell ⟨w.heap.size+1+1,0,none⟩ (.slice a11 a12 a13)).setCell ⟨w.heap.size+1+1,1,none⟩ (.slice a14 a15 a16)).setCell ⟨w.heap.size+1+1,2,none⟩ (.slice a17 a18 a19))
  rw[hwF]at a2 c6 a1 |-;have e0:wF.cell? ⟨w.heap.size+1+1,0,none⟩=some (.slice a11 a12 a13):=a1.cell 0;have e1:wF.cell? ⟨w.heap.size+1+1,1,none⟩=some (.slice a14 a15 a16):=a1.cell 1;have e2:wF.cell? ⟨w.heap.size+1+1,2,none⟩=some (.slice a17 a18 a19):=a1.cell 2;have c0:=a1.lt;have b1:StOwn w.heap.size wF (.slice a11 a12 a13) (.slice a14 a15 a16) (.slice a17 a18 a19) S':=StOwn.keep HK.out.1.sr1 a2 (λg hg=>by rw[hg];exact⟨_,26,HK.out.1.o,by decide,by decide,by decide,by decide⟩);have b2:Bl w wF:=HK.out.1.below.trans (a2.below HK.out.1.below.size (λi hi hg=>by omega));have d9:OwnP w.heap.size wF 61 2 (.slice gk RR.length cap) (RR.map PKey.cells):=OwnP.mono (OwnP.keep ho4 c6 (λg hg hge=>by
   rw[hge]at hg;exact ho4.ne_blk a3 (by decide) hg rfl)) (by have:=HK.out.1.below.size;omega)
  clear q0 q1 q2 p0 p1 p2 f0 f1 f2 ko c3 c4 c5 d3 d4 d5 d6 d7 d8 a3 d2;go_wp2;exact xD (v:=.tuple #[.slice gk RR.length cap,.agg #[(.slice a11 a12 a13),(.slice a14 a15 a16),(.slice a17 a18 a19)]]) (by simp[results,Tryz.results40,go_sem,e0,e1,e2,c1]) rfl ⟨b2,_,_,_,_,rfl,d9,b1⟩
 have c7:(r.code !=0)=true:=by simpa using hcode
 have b5:RR=[]:=by rw[<-b4.out,pX hcode]
 clear K a9 hcode a8;go_upto_region 4 with fail;have a0:=bel wA (wA.alloc (.cells #[.pointer w.heap.size,.pointer b6,.pointer (some ⟨w.heap.size+1,0,none⟩),.slice none 0 0] 106));obtain⟨w2,hw2⟩:∃w2,wA.alloc (.cells #[.pointer w.heap.size,.pointer b6,.pointer (some ⟨w.heap.size+1,0,none⟩),.slice none 0 0] 106)=w2:=⟨_,rfl⟩;rw[hw2]at a0 |-;clear hw2;have q0:w2.cell? b6=some (.slice a11 a12 a13):=(a0.cell (p:=b6) i6.lt).trans h0;have q1:w2.cell? ⟨b6,1,none⟩=some (.slice a14 a15 a16):=(a0.cell (p:=⟨b6,1,none⟩) i6.lt).trans h1;have q2:w2.cell? ⟨b6,2,none⟩=some (.slice a17 a18 a19):=(a0.cell (p:=⟨b6,2,none⟩) i6.lt).trans h2;have ko:Blk w2 (w.heap.size+1+1) #[.slice none 0 0,.slice none 0 0,.slice none 0 0] 26:=HK.out.1.o.below a0 i5.lt;have p0:w2.cell? ⟨w.heap.size+1+1,0,none⟩=some (.slice none 0 0):=ko.cell 0;have p1:w2.cell? ⟨w.heap.size+1+1,1,none⟩=some (.slice none 0 0):=ko.cell 1;have p2:w2.cell? ⟨w.heap.size+1+1,2,none⟩=some (.slice none 0 0):=ko.cell 2;have f0:=ko.frozen 0;have f1:=ko.frozen 1;have f2:=ko.frozen 2;have j6:BlockLt b6 w2:=⟨by have:=i6.lt;have:=a0.size;omega⟩;have j5:=ko.lt;refine aH [2] true (λw'=>w'.cell? b6=some (.slice a11 a12 a13)/\w'.cell? ⟨b6,1,none⟩=some (.slice a14 a15 a16)/\w'.cell? ⟨b6,2,none⟩=some (.slice a17 a18 a19)) (by kernel_rfl) (by kernel_rfl) ?_ ?_
 · (try dsimp only);(repeat' apply And.intro)<;>go_simp
 repeat
  apply aI0 rfl rfl
  focus
   rintro w' ⟨s0,s1,s2⟩;go_simp
   first|done|rfl
  simp only[Act.put,sA,sZ,sS]
 refine aW rfl rfl ?_;apply Exists.intro;apply And.intro
 focus
  go_simp
  first|done|rfl
 apply And.intro
 focus
  exact .inr ⟨rfl,rfl⟩
 refine aU ?_;have a2:Keep (λg=>g=w.heap.size+1+1) wA ((((w2.drew).setCell ⟨w.heap.size+1+1,0,none⟩ (.slice a11 a12 a13)).setCell ⟨w.heap.size+1+1,1,none⟩ (.slice a14 a15 a16)).setCell ⟨w.heap.size+1+1,2,none⟩ (.slice a17 a18 a19)):=(((Keep.of_below a0.drew (λg=>g=w.heap.size+1+1)).setCell (p:=⟨w.heap.size+1+1,0,none⟩) (.inl rfl) _).setCell (p:=⟨w.heap.size+1+1,1,none⟩) (.inl rfl) _).setCell (p:=⟨w.heap.size+1+1,2,none⟩) (.inl rfl) _;have a1:Blk ((((w2.drew).setCell ⟨w.heap.size+1+1,0,none⟩ (.slice a11 a12 a13)).setCell ⟨w.heap.size+1+1,1,none⟩ (.slice a14 a15 a16)).setCell ⟨w.heap.size+1+1,2,none⟩ (.slice a17 a18 a19)) (w.heap.size+1+1) #[(.slice a11 a12 a13),(.slice a14 a15 a16),(.slice a17 a18 a19)] 26:=(((HK.out.1.o.below a0.drew i5.lt).set_ 0 (.slice a11 a12 a13)).set_ 1 (.slice a14 a15 a16)).set_ 2 (.slice a17 a18 a19);obtain⟨wF,hwF⟩:∃wF,((((w2.drew).setCell ⟨w.heap.size+1+1,0,none⟩ (.slice a11 a12 a13)).setCell ⟨w.heap.size+1+1,1,none⟩ (.slice a14 a15 a16)).setCell ⟨w.heap.size+1+1,2,none⟩ (.slice a17 a18 a19))=wF:=⟨_,rfl⟩;change Exit.then _ _ .normal _ (((w2.drew.setCell ⟨w.heap.size+1+1,0,none⟩ (.slice a11 a12 a13)).setCell ⟨w.heap.size+1+1,1,none⟩ (.slice a14 a15 a16)).setCell ⟨w.heap.size+1+1,2,none⟩ (.slice a17 a18 a19))
 rw[hwF]at a2 a1 |-;have c9:=a2;have e0:wF.cell? ⟨w.heap.size+1+1,0,none⟩=some (.slice a11 a12 a13):=a1.cell 0;have e1:wF.cell? ⟨w.heap.size+1+1,1,none⟩=some (.slice a14 a15 a16):=a1.cell 1;have e2:wF.cell? ⟨w.heap.size+1+1,2,none⟩=some (.slice a17 a18 a19):=a1.cell 2;have c0:=a1.lt;have b1:StOwn w.heap.size wF (.slice a11 a12 a13) (.slice a14 a15 a16) (.slice a17 a18 a19) S':=StOwn.keep HK.out.1.sr1 a2 (λg hg=>by rw[hg];exact⟨_,26,HK.out.1.o,by decide,by decide,by decide,by decide⟩);have b2:Bl w wF:=HK.out.1.below.trans (a2.below HK.out.1.below.size (λi hi hg=>by omega));clear q0 q1 q2 p0 p1 p2 f0 f1 f2 ko;go_wp2;exact xD (v:=.tuple #[.slice none 0 0,.agg #[(.slice a11 a12 a13),(.slice a14 a15 a16),(.slice a17 a18 a19)]]) (by simp[results,Tryz.results40,go_sem,e0,e1,e2]) rfl ⟨b2,_,_,_,_,rfl,.inl ⟨rfl,by rw[b5];rfl⟩,b1⟩
end
end Go.Proofs.YtmkapobnfigedaaGreatDoor
