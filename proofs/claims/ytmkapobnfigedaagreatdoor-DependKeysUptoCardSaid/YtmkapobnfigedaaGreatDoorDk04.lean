/- A part of a proof of a law. Conditions: none. -/
import Derived.Test.YtmkapobnfigedaaGreatDoorDk01
import Derived.Shelf.Small.Strs
set_option linter.unusedVariables false
set_option linter.unusedSimpArgs false
set_option maxRecDepth 100000
set_option maxHeartbeats 8000000
namespace Go.Proofs.YtmkapobnfigedaaGreatDoor
open Go.Proofs.Tryz List Go.RowKit
def dF (a b:ByteArray):Int:=Lib.compareBytes a.data.toList b.data.toList
theorem aXN (a b:ByteArray) (w:World):
 vR w 211 #[.string a,.string b] (.int .i64 (dF a b)):=by
 unfold vR;go_in;go_wp2;rw[run_callFunc_extern func220 (by kernel_rfl) (by kernel_rfl) (by kernel_rfl) (e:=Extern.BytealgCompare.compare) (by kernel_rfl),Lib.run_compareString];simp only[Result.andThen];rw[Oper.upon_value];go_wp2;go_ret;exact⟨rfl,bel _ _⟩
theorem aXO (a b:ByteArray) (w:World):
 vR w 201 #[.string a,.string b] (.int .i64 (dF a b)):=by
 unfold vR;go_in;go_wp2_with((go_at_call 211;refine aE (aXN _ _ _) λp=>?_));go_ret;exact⟨rfl,bel _ _⟩
theorem aQX (a b:ByteArray) (n:Int) (w:World):
 vR w 200 #[.agg #[a,n],.string b] (.int .i64 (dF a b)):=by
 unfold vR;go_in;go_wp2_with((go_at_call 201;refine aE (aXO _ _ _) λp=>?_));go_ret;exact⟨rfl,bel _ _⟩
def aAM (es:List PEnt) (s:ByteArray) (q:Nat):Int:=match es[q]? with|some x=>dF x.name s|none=>0
def cY (es:List PEnt) (s:ByteArray):Nat:=dL (aAM es s) es.length 0 es.length
def bR (es:List PEnt) (s:ByteArray):Bool:=decide (cY es s<es.length)&&(aAM es s (cY es s)==0)
theorem aZQ (is:List PEnt) (v:Value) (n:ByteArray) (w:World) (h:RowAt w 2 v (is.map PEnt.cells)) (hlen:is.length<=1000000000):
 vR w 199 #[v,.string n,.func (.func 200) #[] #[]] (.tuple #[.int .i64 (cY is n),.bool (bR is n)]):=by
 obtain⟨a,cap,rfl,_,hrow⟩:=h;rw[lM]at hrow |-;have cell:∀(wr:World),Bl w wr->∀(q:Nat),q<is.length->∃(b off:Nat) (x:PEnt),a=some ⟨b,off,none⟩/\BlockLt b wr/\is[q]? =some x/\aAM is n q=dF x.name n/\wr.cell? ⟨b,off+q*2,none⟩=some (.string x.name)/\wr.cell? ⟨b,off+q*2+1,none⟩=some (.int .i64 x.num):=by
  intro wr hb q hq;obtain⟨b,off,rfl,hlt,hc⟩:=hrow (by omega);obtain⟨x,hx⟩:∃x,is[q]? =some x:=⟨_,gE hq⟩;have hm:(is.map PEnt.cells)[q]? =some x.cells:=by rw[gM,hx];rfl
  have hs:=hb.size;have key:∀(t:Nat) (u:Value),x.cells[t]? =some u->wr.cell? ⟨b,off+q*2+t,none⟩=some u:=λt u hu=>(hb.cell (p:=⟨b,_,none⟩) hlt).trans (hc q _ hm t u hu);exact⟨b,off,x,rfl,⟨by omega⟩,hx,by unfold aAM;rw[hx],key 0 _ rfl,key 1 _ rfl⟩
 have HC:=aC cell;clear cell hrow;obtain⟨P,hP⟩:∃P,cY is n=P:=⟨_,rfl⟩;obtain⟨T,hT⟩:∃T,bR is n=T:=⟨_,rfl⟩;rw[hP,hT];have HP:=bG hP hT;clear hP hT;unfold vR;go_in;go_wp2
 go_loopw[9,10] (λi j wr=>∃(lo hi b:Nat),i=.int .i64 lo/\j=.int .i64 hi/\lo<=hi/\hi<=is.length/\hi<=lo+b/\dL (aAM is n) b lo hi=P/\Bl w wr) (λi j _=>(intOf j-intOf i).toNat)
 case atStart=>exact⟨0,is.length,is.length,rfl,rfl,by omega,by omega,by omega,HP.out.1,bel _ _⟩
 obtain⟨lo,hi,b,rfl,rfl,hlh,hhn,hfu,hbs,hb⟩:=hrel;have iB:Bel w wr:=⟨hb⟩;by_cases hlt:lo<hi
 .obtain⟨b',rfl⟩:∃b',b=b'+1:=⟨b-1,by omega⟩
  obtain⟨m,hm⟩:∃m,(lo+hi)/2=m:=⟨_,rfl⟩;obtain⟨b0,off,x,rfl,iG,hx,hcm,c0,c1⟩:=HC.out wr hb m (by omega);rw[dL,zB hlt,hm,hcm]at hbs;have HS:=aC hbs;clear hbs hcm;have a5:((lo:Int)+hi)/2=m:=by omega
  have a6:m<is.length:=by omega
  have a3:(m:Int)<is.length:=by omega
  have a0:∀ww,vR ww 200 #[.agg #[x.name,x.num],.string n] (.int .i64 (dF x.name n)):=λww=>aQX x.name n x.num ww;have HM:=aC hm;clear hm;by_cases hneg:dF x.name n<0
  .generalize hcv:dF x.name n=cv at a0 hneg;go_wp2_with(go_at_call 200;refine aE (a0 _) λp=>?_)
   go_roundw
   case rel=>exact⟨m+1,hi,b',by go_num,rfl,by have:=HM.out;omega,by omega,by have:=HM.out;omega,by have:=HS.out;rw[hcv,zB hneg]at this;exact this,bel _ _⟩
   have:=HM.out;simp[intOf];omega
  generalize hcv:dF x.name n=cv at a0 hneg;go_wp2_with(go_at_call 200;refine aE (a0 _) λp=>?_);go_roundw
  case rel=>exact⟨lo,m,b',rfl,rfl,by have:=HM.out;omega,by omega,by have:=HM.out;omega,by have:=HS.out;rw[hcv,zA (by omega)]at this;exact this,bel _ _⟩
  have:=HM.out;simp[intOf];omega
 obtain rfl:lo=hi:=by omega
 rw[qS _ _ _ _ hlt]at hbs;have a4:P=lo:=hbs.symm;subst a4;by_cases hln:P<is.length
 .obtain⟨b0,off,x,rfl,iG,hx,hcm,c0,c1⟩:=HC.out wr hb P hln;have a2:(P:Int)<is.length:=by omega
  have a0:∀ww,vR ww 200 #[.agg #[x.name,x.num],.string n] (.int .i64 (dF x.name n)):=λww=>aQX x.name n x.num ww;have a1:T=(dF x.name n==0):=by have h1:=HP.out.2;have h2:=HP.out.1;rw[<-h1];unfold bR;rw[h2,hcm];simp[hln]
  clear hcm;generalize dF x.name n=cv at a0 a1;subst a1;go_wp2_with(go_at_call 200;refine aE (a0 _) λp=>?_)
  go_ret2;refine⟨rfl,bel _ _⟩
 have a2:¬(P:Int)<is.length:=by omega
 have a1:T=false:=by have h1:=HP.out.2;have h2:=HP.out.1;rw[<-h1];unfold bR;rw[h2];simp[hln]
 subst a1;go_wp2
 go_ret2;refine⟨rfl,bel _ _⟩
theorem oJ (es:List PEnt) (v:Value) (s:ByteArray) (w:World) (h:RowAt w 2 v (es.map PEnt.cells)) (hlen:es.length<=1000000000):
 vR w 171 #[v,.string s] (.tuple #[.int .i64 (cY es s),.bool (bR es s)]):=by
 have hv:=h.one;have a0:=aZQ es v s w h hlen;generalize cY es s=P at a0 |-;generalize bR es s=T at a0 |-;clear h;unfold vR;go_in;go_wp2_with(go_at_call 199;refine a0.mono ?_;rintro e w' ⟨rfl,hb⟩;obtain⟨p,rfl⟩:=hb.rest;clear hb)
 go_ret2;exact⟨rfl,bel _ _⟩
theorem vT:(prog.info? 68).map (λi=>(i.zero,i.size,i.bytes))=some (some (.agg #[.int .i64 0,false,.slice none 0 0,ByteArray.empty]),4,56):=by kernel_rfl
theorem aDD:(prog.info? 97).map (λi=>(i.zero,i.size,i.bytes))=some (some (.agg #[ByteArray.empty,.int .i64 0]),2,24):=by kernel_rfl
theorem aDE:(prog.info? 95).map (λi=>(i.zero,i.size,i.bytes))=some (some (.agg #[.int .i64 0,.int .i64 0,.int .i64 0]),3,24):=by kernel_rfl
theorem pM {α:Type} (k:Nat):∀(rows:List (List α)),(∀cs∈rows,cs.length=k)->∀q t,t<k->rows.flatten[q*k+t]? =(rows[q]?).bind λcs=>cs[t]?
 |[],_,q,t,_=>by simp
 | c::r,h,q,t,ht=>by
   have hc:c.length=k:=h c (by simp);rw[flatten_cons];rcases q with _|q
   .rw[Nat.zero_mul,zM,zZ (by omega)];rfl
   rw[yC (by rw[hc,Nat.add_mul];omega),hc,show(q+1)*k+t-k=q*k+t by rw[Nat.add_mul];omega,pM k r (λcs hcs=>h cs (by simp[hcs])) q t ht];rfl
theorem eT {α:Type} (k:Nat):∀(rows:List (List α)),(∀cs∈rows,cs.length=k)->rows.flatten.length=rows.length*k
 |[],_=>by simp
 | c::r,h=>by rw[flatten_cons,lP,eT k r (λcs hcs=>h cs (by simp[hcs])),h c (by simp),zK,Nat.add_mul];omega
theorem RowAt.flat {w:World} {k:Nat} {v:Value} {rows:List (List Value)} (h:RowAt w k v rows) (hk:0<k) (hu:∀cs∈rows,cs.length=k):
 ∃a cap,v=.slice a rows.length cap/\∀x,a=some x->∀j u,rows.flatten[j]? =some u->w.cell? (x.add j)=some u:=by
 obtain⟨a,cap,rfl,hm,hr⟩:=h;refine⟨a,cap,rfl,λx hx j u hj=>?_⟩;have a1:j<rows.length*k:=by
  obtain⟨h,_⟩:=gI.1 hj
  rwa [eT k rows hu]at h
 have a0:0<rows.length:=by
  rcases Nat.eq_zero_or_pos rows.length with h0|h0
  .rw[h0,Nat.zero_mul]at a1;omega
  exact h0
 obtain⟨b,off,hab,_,hc⟩:=hr a0;subst hx;obtain rfl:x=⟨b,off,none⟩:=by simpa using hab
 have a2:j=j/k*k+j%k:=by rw[Nat.mul_comm];exact(Nat.div_add_mod j k).symm
 rw[a2]at hj |-;have ht:j%k<k:=Nat.mod_lt _ hk;rw[pM k rows hu _ _ ht]at hj;obtain⟨cs,hcs,hcu⟩:=Option.bind_eq_some_iff.1 hj;rw[Addr.add_lit];show w.cell? ⟨b,off+(j/k*k+j%k),none⟩=some u;rw[<-Nat.add_assoc];exact hc _ _ hcs _ _ hcu
structure InsT (sl e m bytes:Nat) (z:Value) (i0:TypeInfo):Prop where
 ht:prog.underlying sl=some (.slice e)
 hi:prog.info? e=some i0
 hz:i0.zero=some z
 h1:i0.size=m
 h2:i0.bytes=bytes
 hc:z.cells.size=m
 hk:0<m
 hm:m<=100
 hb:bytes<=100
def nZ (n e k:Nat):Prop:=∀(rows:List (List Value)) (v:Value) (w:World),RowAt w k v rows->(∀cs∈rows,cs.length=k)->(∀cs∈rows,∀u∈cs,u.oneCell'=true)->rows.length<=1000000000->
 Calls prog n #[v] w λx w'=>∃v',x=.returned v'/\w'.ownsRow w.heap.size e k v' rows.length rows.flatten/\Bl w w'
theorem aDF:nZ 137 68 4/\nZ 138 97 2/\nZ 139 95 3/\nZ 140 3 1:=by
 obtain⟨i1,hi1,hz1,hs1,hb1⟩:=info_parts vT;obtain⟨i2,hi2,hz2,hs2,hb2⟩:=info_parts aDD;obtain⟨i3,hi3,hz3,hs3,hb3⟩:=info_parts aDE;obtain⟨i4,hi4,hz4,hs4,hb4⟩:=info_parts aAB;refine⟨have T:InsT 22 68 4 56 (.agg #[.int .i64 0,false,.slice none 0 0,ByteArray.empty]) i1:=⟨underlying22,hi1,hz1,hs1,hb1,rfl,by decide,by decide,by decide⟩;?_,have T:InsT 66 97 2 24 (.agg #[ByteArray.empty,.int .i64 0]) i2:=⟨underlying66,hi2,hz2,hs2,hb2,rfl,by decide,by decide,by decide⟩;?_,have T:InsT 23 95 3 24 (.agg #[.int .i64 0,.int .i64 0,.int .i64 0]) i3:=⟨underlying23,hi3,hz3,hs3,hb3,rfl,by decide,by decide,by decide⟩;?_,have T:InsT 24 3 1 8 (.int .i64 0) i4:=⟨underlying24,hi4,hz4,hs4,hb4,rfl,by decide,by decide,by decide⟩;?_⟩
 all_goals
  intro rows v w h hu h1 hn;have hl:=eT _ rows hu;have a0:∀u∈rows.flatten,u.oneCell'=true:=λu hm=>by obtain⟨cs,hc,hm⟩:=mem_flatten.1 hm;exact h1 cs hc u hm
  have a1:=h;obtain⟨a,cap,rfl,hc⟩:=h.flat T.hk hu;have q:=fun(w:World) (a:Option Addr) (n c n' c':Nat)=>Lib.run_eql_slice_nil w _ _ a n c n' c' T.ht;rcases a with _|x
  .obtain⟨a',c',e1,_,hr⟩:=a1;have hz:rows.length=0:=by
    rcases Nat.eq_zero_or_pos rows.length with h0|h0
    .exact h0
    obtain⟨b,off,hb,_⟩:=hr h0;rw[hb]at e1;simp at e1
   obtain rfl:rows=[]:=zT hz;clear hc h1 a0 hr h
   go_in
   go_wp2;go_ret;exact⟨_,rfl,⟨rfl,.inl ⟨rfl,rfl⟩⟩,bel _ _⟩
  have A:=aC (hc x rfl);clear hc h a1
  go_in
  go_wp2_with(at_builtin;refine wpList_append_own _ rfl _ _ _ rfl w.heap.size _ _ _ _ _ T.ht T.hi T.hz T.h1 T.h2 T.hc T.hk _ _ _ rfl (World.ownsRow_made w #[] 0 (zC _) (Nat.zero_le _) (by simp)) x rows.length cap rows.flatten rfl ?qc1 ?qc2 ?qc3 ?qc4 ?qc5 ?qc6 ?_)
  case qc1=>exact hl
  case qc2=>intro j u hj;exact Lib.cell?_alloc_some _ (A.out j u hj)
  case qc3=>exact a0
  case qc4=>unfold maxLen;omega
  case qc5=>omega
  case qc6=>simp
  intro v' w1 hown hgrow hnil;go_wp2;go_ret;refine⟨v',rfl,by simpa using hown,?_⟩;exact((Keep.refl (λ_=>False) w).alloc _ |>.grown hgrow (λk hk=>.inr (by simp[Value.ownBlock]at hk;omega))).below (zC _) (λi _ h=>h)
theorem aUM:nZ 137 68 4:=aDF.1
theorem aUN:nZ 138 97 2:=aDF.2.1
theorem aUO:nZ 139 95 3:=aDF.2.2.1
theorem aUP:nZ 140 3 1:=aDF.2.2.2
section
def RowsIn (arr:Array Value) (k:Nat) (rows:List (List Value)):Prop:=∀(q:Nat) (cs:List Value),rows[q]? =some cs->∀(t:Nat) (u:Value),cs[t]? =some u->arr[q*k+t]? =some u
def OwnP (B:Nat) (w:World) (e:TypeId) (k:Nat) (v:Value) (rows:List (List Value)):Prop:=
 (v=.slice none 0 0/\rows=[])\/∃g cap arr,v=.slice (some ⟨g,0,none⟩) rows.length cap/\B<=g/\Blk w g arr e/\rows.length<=cap/\cap<=maxLen/\arr.size=cap*k/\RowsIn arr k rows
variable {B g k:Nat} {e t:TypeId} {rows:List (List Value)} {v:Value} {w:World}
theorem OwnP.of_own (h:w.ownsRow B e k v rows.length rows.flatten) (hk:0<k) (hu:∀cs∈rows,cs.length=k):OwnP B w e k v rows:=by
 obtain⟨hl,h0|⟨g,cap,cur,rfl,hg,hb,hn,hm,hs,ht⟩⟩:=h
 .exact .inl ⟨h0.1,zT h0.2⟩
 refine .inr ⟨g,cap,cur,rfl,hg,hb,hn,hm,hs,λq cs hq t u hc=>?_⟩;have a0:t<k:=by have:=hu cs (mG hq);obtain⟨h,_⟩:=gI.1 hc;omega
 obtain⟨hql,_⟩:=gI.1 hq;have h1:rows.flatten[q*k+t]? =some u:=by rw[pM k rows hu q t a0,hq];exact hc
 rw[<-ht,yO]at h1;have:q*k+t<rows.length*k:=by have h2:(q+1)*k<=rows.length*k:=Nat.mul_le_mul_right _ (by omega);rw[Nat.add_mul,Nat.one_mul]at h2;omega
 rw[zB this]at h1;simpa using h1
theorem OwnP.own (h:OwnP B w e k v rows) (hk:0<k) (hu:∀cs∈rows,cs.length=k):w.ownsRow B e k v rows.length rows.flatten:=by
 refine⟨eT k rows hu,?_⟩;rcases h with⟨rfl,rfl⟩|⟨g,cap,cur,rfl,hg,hb,hn,hm,hs,hr⟩
 .exact .inl ⟨rfl,rfl⟩
 refine .inr ⟨g,cap,cur,rfl,hg,hb,hn,hm,hs,?_⟩;apply ext_getElem?;intro i;have hl:=eT k rows hu;rw[yO];by_cases hi:i<rows.length*k
 .rw[zB hi];have a0:i=i/k*k+i%k:=by rw[Nat.mul_comm];exact(Nat.div_add_mod i k).symm
  have ht:i%k<k:=Nat.mod_lt _ hk;have hq:i/k<rows.length:=Nat.div_lt_of_lt_mul (by rwa [Nat.mul_comm]);have a1:=hu rows[i/k] (getElem_mem hq);have h1:=hr (i/k) rows[i/k] (gE hq) (i%k) rows[i/k][i%k] (gE (by omega));have key:∀j,j=i/k*k+i%k->cur.toList[j]? =rows.flatten[j]? :=by intro j hj;rw[hj,pM k rows hu _ _ ht,gE hq];show _=rows[i/k][i%k]?;rw[show rows[i/k][i%k]? =some rows[i/k][i%k]from gE (by omega),<-h1];simp
  exact key i a0
 rw[zA hi,getElem?_eq_none (by omega)]
theorem OwnP.row (h:OwnP B w e k v rows):RowAt w k v rows:=by
 rcases h with⟨rfl,rfl⟩|⟨g,cap,cur,rfl,hg,hb,hn,hm,hs,hr⟩
 .exact⟨none,0,rfl,by simp,λh=>absurd h (by simp)⟩
 exact⟨_,_,rfl,by omega,λ_=>⟨g,0,rfl,hb.lt.lt,λq cs hq t u hc=>by rw[hb.cell,zM];exact hr q cs hq t u hc⟩⟩
theorem OwnP.keep {w':World} {S:Nat->Prop} (h:OwnP B w e k v rows) (hk:Keep S w w') (hn:∀g,v.ownBlock=some g->¬S g):OwnP B w' e k v rows:=by
 rcases h with h|⟨g,cap,cur,rfl,hg,hb,r⟩
 .exact .inl h
 exact .inr ⟨g,cap,cur,rfl,hg,hk.blk hb (hn g rfl),r⟩
theorem OwnP.mono {B':Nat} (h:OwnP B w e k v rows) (hb:B'<=B):OwnP B' w e k v rows:=by
 rcases h with h|⟨g,cap,cur,rfl,hg,r⟩
 .exact .inl h
 exact .inr ⟨g,cap,cur,rfl,by omega,r⟩
theorem OwnP.ge (h:OwnP B w e k v rows) (hg:v.ownBlock=some g):B<=g:=by
 rcases h with⟨rfl,_⟩|⟨g',cap,cur,rfl,hg',r⟩
 .simp[Value.ownBlock]at hg
 simp[Value.ownBlock]at hg;omega
theorem OwnP.lt (h:OwnP B w e k v rows) (hg:v.ownBlock=some g):g<w.heap.size:=by
 rcases h with⟨rfl,_⟩|⟨g',cap,cur,rfl,hg',hb,r⟩
 .simp[Value.ownBlock]at hg
 simp[Value.ownBlock]at hg;subst hg;exact hb.lt.lt
theorem OwnP.ne_blk {b:Nat} {c:Array Value} (h:OwnP B w e k v rows) (hb:Blk w b c t) (hne:e≠t) (hg:v.ownBlock=some g):g≠b:=by
 rcases h with⟨rfl,_⟩|⟨g',cap,cur,rfl,hg',hb',r⟩
 .simp[Value.ownBlock]at hg
 simp[Value.ownBlock]at hg;subst hg;exact hb'.ne_ hb hne
theorem OwnP.one (h:OwnP B w e k v rows):v.oneCell'=true:=by
 rcases h with⟨rfl,_⟩|⟨g',cap,cur,rfl,_⟩<;>rfl
theorem RowsIn.set {arr:Array Value} (h:RowsIn arr k rows) (hu:∀cs∈rows,cs.length=k) {q t:Nat} {cs:List Value} (hq:rows[q]? =some cs) (ht:t<k) (hs:q*k+t<arr.size) (u:Value):RowsIn (arr.setIfInBounds (q*k+t) u) k (rows.set q (cs.set t u)):=by
 intro q' cs' hq' t' u' hc';obtain⟨hql,_⟩:=gI.1 hq;have a0:=hu cs (mG hq);by_cases e:q=q'
 .subst e;rw[zY hql]at hq';cases hq';by_cases e2:t=t'
  .subst e2;rw[zY (by omega)]at hc';cases hc';rw[yE,zB rfl,zB hs]
  rw[zX e2]at hc';rw[yE,zA (by omega)];exact h q cs hq t' u' hc'
 rw[zX e]at hq';have a1:t'<k:=by have:=hu cs' (mG hq');obtain⟨h,_⟩:=gI.1 hc';omega
 rw[yE,zA ?_]
 .exact h q' cs' hq' t' u' hc'
 intro hh;rcases Nat.lt_or_gt_of_ne e with h|h
 .have:=Nat.mul_le_mul_right k (show q+1<=q' from h);rw[Nat.add_mul]at this;omega
 have:=Nat.mul_le_mul_right k (show q'+1<=q from h);rw[Nat.add_mul]at this;omega
theorem gF:∀(is:List IRec),∀cs∈is.map IRec.cells,cs.length=4:=by intro is cs h;obtain⟨r,_,rfl⟩:=mem_map.1 h;rfl
theorem pC:∀(es:List PEnt),∀cs∈es.map PEnt.cells,cs.length=2:=by intro es cs h;obtain⟨r,_,rfl⟩:=mem_map.1 h;rfl
theorem mS:∀(es:List PDesc),∀cs∈es.map PDesc.cells,cs.length=3:=by intro es cs h;obtain⟨r,_,rfl⟩:=mem_map.1 h;rfl
theorem vC:∀(es:List Int),∀cs∈es.map aL,cs.length=1:=by intro es cs h;obtain⟨r,_,rfl⟩:=mem_map.1 h;rfl
theorem pD:∀(is:List IRec),∀cs∈is.map IRec.cells,∀u∈cs,u.oneCell'=true:=by
 intro is cs h u hu;obtain⟨r,_,rfl⟩:=mem_map.1 h;simp only[IRec.cells,mem_cons,not_mem_nil,or_false]at hu;rcases hu with rfl|rfl|rfl|rfl<;>first|rfl|exact r.one
theorem sB:∀(is:List PEnt),∀cs∈is.map PEnt.cells,∀u∈cs,u.oneCell'=true:=by
 intro is cs h u hu;obtain⟨r,_,rfl⟩:=mem_map.1 h;simp only[PEnt.cells,mem_cons,not_mem_nil,or_false]at hu;rcases hu with rfl|rfl<;>rfl
theorem pS:∀(is:List PDesc),∀cs∈is.map PDesc.cells,∀u∈cs,u.oneCell'=true:=by
 intro is cs h u hu;obtain⟨r,_,rfl⟩:=mem_map.1 h;simp only[PDesc.cells,mem_cons,not_mem_nil,or_false]at hu;rcases hu with rfl|rfl|rfl<;>rfl
theorem aLI:∀(is:List Int),∀cs∈is.map aL,∀u∈cs,u.oneCell'=true:=by intro is cs h u hu;obtain⟨r,_,rfl⟩:=mem_map.1 h;simp only[aL,mem_cons,not_mem_nil,or_false]at hu;subst hu;rfl
def StOwn (B:Nat) (w:World) (iv ov mv:Value) (S:PSt):Prop:=
 OwnP B w 95 3 ov (S.op.map PDesc.cells)/\OwnP B w 3 1 mv (S.made.map aL)/\∃is:List IRec,OwnP B w 68 4 iv (is.map IRec.cells)/\is.length=S.ins.length/\
  (∀(q:Nat) (r:IRec) (x:PIn),is[q]? =some r->S.ins[q]? =some x->r.num=x.num/\r.dir=x.dir/\r.data=x.data/\OwnP B w 97 2 r.ev (x.ents.map PEnt.cells))/\
  ∀(p q:Nat) (r r':IRec),p≠q->is[p]? =some r->is[q]? =some r'->∀g,r.ev.ownBlock=some g->r'.ev.ownBlock≠some g
theorem StOwn.read {iv ov mv:Value} {S:PSt} (h:StOwn B w iv ov mv S):StRead w iv ov mv S:=by
 obtain⟨h1,h2,is,h3,h4,h5,_⟩:=h;exact⟨h1.row,h2.row,is,h3.row,h4,λq r x hr hx=>by
  obtain⟨a1,a2,a3,a4⟩:=h5 q r x hr hx;exact⟨a1,a2,a3,a4.row⟩⟩
end
def aWN (c:Int):List PanicEntry:=[{ v:=.iface 132 (.agg #[c]),recovered:=false}]
abbrev bP (c:Int):Ending:=.panicked (aWN c)
theorem aG (c:Int) (w:World):
 vR w 172 #[.bool false,.int .i64 c] (.tuple #[]):=by
 unfold vR;go_in;go_wp2;exact xE (v:=.tuple #[]) (by simp[results,go_sem]) rfl ⟨rfl,bel _ _⟩
theorem aO (c:Int) (w:World):
 Calls prog 172 #[true,c] w λe w'=>e=bP c/\Bl w w':=by
 go_in;go_wp2_with fail;exact⟨rfl,rfl,Below.refl _ _⟩
theorem xZ {w:World} {B n k:Nat} {e:TypeId} {v:Value} {xs:List Value} (h:w.ownsRow B e k v n xs):v.oneCell'=true:=by
 obtain⟨_,⟨rfl,_⟩|⟨g,cap,cur,rfl,_⟩⟩:=h<;>rfl
def aHB (w:World) (s:ByteArray) (e:Ending) (w':World):Prop:=
 ((aA s).1=0/\∃v,e=.returned v/\Bl w w'/\RowAt w' 1 v ((aA s).2.map λn=>[.string n]))\/((aA s).1≠0/\e=bP (eC (aA s).1)/\Bl w w')
theorem sN {α β:Type} (f:α->β):∀ns:List α,(ns.map λn=>[f n]).flatten=ns.map f
 |[]=>rfl
 |n::ns=>by simp[sN f ns]
theorem aAA (s:ByteArray) (w:World):Calls prog 198 #[s] w (aHB w s):=by
 have hp:=xF s w;unfold aHB;generalize aA s=F at hp |-;obtain⟨c,ns⟩:=F;by_cases h:c=0
 .subst h;have hc:∀ww,Calls prog 190 #[.int .i64 0] ww _:=λww=>vD 0 ww
  go_in;go_wp2_with(first|(go_at_call 153;refine hp.mono ?_;rintro e w1 ⟨v,rfl,hb,hown,hbl⟩;have a0:=xZ hown;have iB:Bel w w1:=⟨hb⟩;have HO:=bG hown hb;clear hown hb hbl)|(go_at_call 190;refine aE (hc _) λp=>?_)|(go_at_call 172;refine aE (aG _ _) λp=>?_));go_ret;refine .inl ⟨by simp,_,rfl,bel _ _,?_⟩;have:=(OwnP.of_own (rows:=ns.map λn=>[.string n]) (by rw[lM,sN];exact HO.out.1) (by decide) (by intro cs h;obtain⟨x,_,rfl⟩:=mem_map.1 h;rfl)).row;exact this.below (bel w1 _) (zC _)
 have hc:∀ww,Calls prog 190 #[c] ww _:=λww=>vD c ww;have a1:(c !=0)=true:=by simpa using h
 generalize hcm:eC c=cm at hc;go_in;go_wp2_with(first|(go_at_call 153;refine hp.mono ?_;rintro e w1 ⟨v,rfl,hb,hown,hbl⟩;have a0:=xZ hown;have iB:Bel w w1:=⟨hb⟩;clear hown hb hbl)|(go_at_call 190;refine aE (hc _) λp=>?_)|(go_at_call 172;refine aE (aO _ _) λp=>?_));exact⟨rfl,.inr ⟨h,rfl,bel _ _⟩⟩
end Go.Proofs.YtmkapobnfigedaaGreatDoor
