/- Part of the proof of a law of chapter 15. Conditions: none. -/
import Derived.Test.YtmkapobnfigedaaGreatDoorDl01
set_option linter.unusedVariables false
set_option linter.unusedSimpArgs false
set_option maxRecDepth 100000
set_option maxHeartbeats 8000000
namespace Go.Proofs.YtmkapobnfigedaaGreatDoor
open Go.RowKit
theorem xS:(Tryz.prog.info? 68).map (λi=>(i.zero,i.size,i.bytes))=some (some (.agg #[.int .i64 0,.bool false,.slice none 0 0,.string ByteArray.empty]),4,56):=by kernel_rfl
theorem xT:(Tryz.prog.info? 97).map (λi=>(i.zero,i.size,i.bytes))=some (some (.agg #[.string ByteArray.empty,.int .i64 0]),2,24):=by kernel_rfl
theorem xU:(Tryz.prog.info? 95).map (λi=>(i.zero,i.size,i.bytes))=some (some (.agg #[.int .i64 0,.int .i64 0,.int .i64 0]),3,24):=by kernel_rfl
theorem nJ {α:Type} (k:Nat):∀(rows:List (List α)),(∀cs∈rows,cs.length=k)->∀q t,t<k->rows.flatten[q*k+t]? =(rows[q]?).bind λcs=>cs[t]?
 |[],_,q,t,_=>by simp
 | c::r,h,q,t,ht=>by
   have hc:c.length=k:=h c (by simp);rw[List.flatten_cons];rcases q with _|q
   .rw[Nat.zero_mul,zM,zZ (by omega)];rfl
   rw[yC (by rw[hc,Nat.add_mul];omega),hc,show(q+1)*k+t-k=q*k+t by rw[Nat.add_mul];omega,nJ k r (λcs hcs=>h cs (by simp[hcs])) q t ht];rfl
theorem bO {α:Type} (k:Nat):∀(rows:List (List α)),(∀cs∈rows,cs.length=k)->rows.flatten.length=rows.length*k
 |[],_=>by simp
 | c::r,h=>by rw[List.flatten_cons,lP,bO k r (λcs hcs=>h cs (by simp[hcs])),h c (by simp),zK,Nat.add_mul];omega
theorem RowAt.flat {w:World} {k:Nat} {v:Value} {rows:List (List Value)} (h:RowAt w k v rows) (hk:0<k) (hu:∀cs∈rows,cs.length=k):
 ∃a cap,v=.slice a rows.length cap/\∀x,a=some x->∀j u,rows.flatten[j]? =some u->w.cell? (x.add j)=some u:=by
 obtain⟨a,cap,rfl,hm,hr⟩:=h;refine⟨a,cap,rfl,λx hx j u hj=>?_⟩;have a1:j<rows.length*k:=by
  obtain⟨h,_⟩:=gI.1 hj
  rwa [bO k rows hu]at h
 have a0:0<rows.length:=by
  rcases Nat.eq_zero_or_pos rows.length with h0|h0
  .rw[h0,Nat.zero_mul]at a1;omega
  exact h0
 obtain⟨b,off,hab,_,hc⟩:=hr a0;subst hx;obtain rfl:x=⟨b,off,none⟩:=by simpa using hab
 have a2:j=j/k*k+j%k:=by rw[Nat.mul_comm];exact(Nat.div_add_mod j k).symm
 rw[a2]at hj |-;have ht:j%k<k:=Nat.mod_lt _ hk;rw[nJ k rows hu _ _ ht]at hj;obtain⟨cs,hcs,hcu⟩:=Option.bind_eq_some_iff.1 hj;rw[Addr.add_lit];show w.cell? ⟨b,off+(j/k*k+j%k),none⟩=some u;rw[<-Nat.add_assoc];exact hc _ _ hcs _ _ hcu
theorem aPH (rows:List (List Value)) (v:Value) (w:World) (h:RowAt w 4 v rows) (hu:∀cs∈rows,cs.length=4) (h1:∀cs∈rows,∀u∈cs,u.oneCell'=true) (hn:rows.length<=1000000000):
 Calls Tryz.prog 137 #[v] w λe w'=>∃v',e=.returned v'/\w'.ownsRow w.heap.size 68 4 v' rows.length rows.flatten/\Below w.heap.size w w':=by
 obtain⟨i0,hi,hz0,hz1,hz2⟩:=info_parts xS;have hl:=bO 4 rows hu;have a0:∀u∈rows.flatten,u.oneCell'=true:=λu hm=>by obtain⟨cs,hc,hm⟩:=List.mem_flatten.1 hm;exact h1 cs hc u hm
 have a1:RowAt w 4 v rows:=h;obtain⟨a,cap,rfl,hc⟩:=h.flat (by decide) hu;have q:∀(w:World) (a:Option Addr) (n c n' c':Nat),(binOp .eql 22 (.slice a n c) (.slice none n' c')).run Tryz.prog w=.ok (.bool a.isNone) w:=λw a n c n' c'=>Lib.run_eql_slice_nil w _ _ a n c n' c' Tryz.underlying22;rcases a with _|x
 .obtain⟨a',c',e1,_,hr⟩:=a1;have hz:rows.length=0:=by
   rcases Nat.eq_zero_or_pos rows.length with h0|h0
   .exact h0
   obtain⟨b,off,hb,_⟩:=hr h0;rw[hb]at e1;simp at e1
  obtain rfl:rows=[]:=zT hz;clear hc h1 a0 hr h;go_enter Tryz.func137,Tryz.ntmps137;go_wp2_with fail;go_ret;exact⟨_,rfl,⟨rfl,.inl ⟨rfl,rfl⟩⟩,bel _ _⟩
 have A:=aG (hc x rfl);clear hc h a1;go_enter Tryz.func137,Tryz.ntmps137;go_wp2_with(at_builtin;refine wpList_append_own _ rfl _ _ 22 rfl w.heap.size 68 i0 (.agg #[.int .i64 0,.bool false,.slice none 0 0,.string ByteArray.empty]) 4 56 Tryz.underlying22 hi hz0 hz1 hz2 rfl (by decide) _ _ _ rfl (World.ownsRow_made w #[] 0 (zC _) (Nat.zero_le _) (by simp)) x rows.length cap rows.flatten rfl ?qc1 ?qc2 ?qc3 ?qc4 ?qc5 ?qc6 ?_)
 case qc1=>exact hl
 case qc2=>intro j u hj;exact Lib.cell?_alloc_some _ (A.out j u hj)
 case qc3=>exact a0
 case qc4=>unfold maxLen;omega
 case qc5=>omega
 case qc6=>simp
 intro v' w1 hown hgrow hnil;go_wp2_with fail;go_ret;refine⟨v',rfl,by simpa using hown,?_⟩;exact((Keep.refl (λ_=>False) w).alloc _ |>.grown hgrow (λk hk=>.inr (by simp[Value.ownBlock]at hk;omega))).below (zC _) (λi _ h=>h)
theorem aPI (rows:List (List Value)) (v:Value) (w:World) (h:RowAt w 2 v rows) (hu:∀cs∈rows,cs.length=2) (h1:∀cs∈rows,∀u∈cs,u.oneCell'=true) (hn:rows.length<=1000000000):
 Calls Tryz.prog 138 #[v] w λe w'=>∃v',e=.returned v'/\w'.ownsRow w.heap.size 97 2 v' rows.length rows.flatten/\Below w.heap.size w w':=by
 obtain⟨i0,hi,hz0,hz1,hz2⟩:=info_parts xT;have hl:=bO 2 rows hu;have a0:∀u∈rows.flatten,u.oneCell'=true:=λu hm=>by obtain⟨cs,hc,hm⟩:=List.mem_flatten.1 hm;exact h1 cs hc u hm
 have a1:RowAt w 2 v rows:=h;obtain⟨a,cap,rfl,hc⟩:=h.flat (by decide) hu;have q:∀(w:World) (a:Option Addr) (n c n' c':Nat),(binOp .eql 66 (.slice a n c) (.slice none n' c')).run Tryz.prog w=.ok (.bool a.isNone) w:=λw a n c n' c'=>Lib.run_eql_slice_nil w _ _ a n c n' c' Tryz.underlying66;rcases a with _|x
 .obtain⟨a',c',e1,_,hr⟩:=a1;have hz:rows.length=0:=by
   rcases Nat.eq_zero_or_pos rows.length with h0|h0
   .exact h0
   obtain⟨b,off,hb,_⟩:=hr h0;rw[hb]at e1;simp at e1
  obtain rfl:rows=[]:=zT hz;clear hc h1 a0 hr h;go_enter Tryz.func138,Tryz.ntmps138;go_wp2_with fail;go_ret;exact⟨_,rfl,⟨rfl,.inl ⟨rfl,rfl⟩⟩,bel _ _⟩
 have A:=aG (hc x rfl);clear hc h a1;go_enter Tryz.func138,Tryz.ntmps138;go_wp2_with(at_builtin;refine wpList_append_own _ rfl _ _ 66 rfl w.heap.size 97 i0 (.agg #[.string ByteArray.empty,.int .i64 0]) 2 24 Tryz.underlying66 hi hz0 hz1 hz2 rfl (by decide) _ _ _ rfl (World.ownsRow_made w #[] 0 (zC _) (Nat.zero_le _) (by simp)) x rows.length cap rows.flatten rfl ?qc1 ?qc2 ?qc3 ?qc4 ?qc5 ?qc6 ?_)
 case qc1=>exact hl
 case qc2=>intro j u hj;exact Lib.cell?_alloc_some _ (A.out j u hj)
 case qc3=>exact a0
 case qc4=>unfold maxLen;omega
 case qc5=>omega
 case qc6=>simp
 intro v' w1 hown hgrow hnil;go_wp2_with fail;go_ret;refine⟨v',rfl,by simpa using hown,?_⟩;exact((Keep.refl (λ_=>False) w).alloc _ |>.grown hgrow (λk hk=>.inr (by simp[Value.ownBlock]at hk;omega))).below (zC _) (λi _ h=>h)
theorem aPJ (rows:List (List Value)) (v:Value) (w:World) (h:RowAt w 3 v rows) (hu:∀cs∈rows,cs.length=3) (h1:∀cs∈rows,∀u∈cs,u.oneCell'=true) (hn:rows.length<=1000000000):
 Calls Tryz.prog 139 #[v] w λe w'=>∃v',e=.returned v'/\w'.ownsRow w.heap.size 95 3 v' rows.length rows.flatten/\Below w.heap.size w w':=by
 obtain⟨i0,hi,hz0,hz1,hz2⟩:=info_parts xU;have hl:=bO 3 rows hu;have a0:∀u∈rows.flatten,u.oneCell'=true:=λu hm=>by obtain⟨cs,hc,hm⟩:=List.mem_flatten.1 hm;exact h1 cs hc u hm
 have a1:RowAt w 3 v rows:=h;obtain⟨a,cap,rfl,hc⟩:=h.flat (by decide) hu;have q:∀(w:World) (a:Option Addr) (n c n' c':Nat),(binOp .eql 23 (.slice a n c) (.slice none n' c')).run Tryz.prog w=.ok (.bool a.isNone) w:=λw a n c n' c'=>Lib.run_eql_slice_nil w _ _ a n c n' c' Tryz.underlying23;rcases a with _|x
 .obtain⟨a',c',e1,_,hr⟩:=a1;have hz:rows.length=0:=by
   rcases Nat.eq_zero_or_pos rows.length with h0|h0
   .exact h0
   obtain⟨b,off,hb,_⟩:=hr h0;rw[hb]at e1;simp at e1
  obtain rfl:rows=[]:=zT hz;clear hc h1 a0 hr h;go_enter Tryz.func139,Tryz.ntmps139;go_wp2_with fail;go_ret;exact⟨_,rfl,⟨rfl,.inl ⟨rfl,rfl⟩⟩,bel _ _⟩
 have A:=aG (hc x rfl);clear hc h a1;go_enter Tryz.func139,Tryz.ntmps139;go_wp2_with(at_builtin;refine wpList_append_own _ rfl _ _ 23 rfl w.heap.size 95 i0 (.agg #[.int .i64 0,.int .i64 0,.int .i64 0]) 3 24 Tryz.underlying23 hi hz0 hz1 hz2 rfl (by decide) _ _ _ rfl (World.ownsRow_made w #[] 0 (zC _) (Nat.zero_le _) (by simp)) x rows.length cap rows.flatten rfl ?qc1 ?qc2 ?qc3 ?qc4 ?qc5 ?qc6 ?_)
 case qc1=>exact hl
 case qc2=>intro j u hj;exact Lib.cell?_alloc_some _ (A.out j u hj)
 case qc3=>exact a0
 case qc4=>unfold maxLen;omega
 case qc5=>omega
 case qc6=>simp
 intro v' w1 hown hgrow hnil;go_wp2_with fail;go_ret;refine⟨v',rfl,by simpa using hown,?_⟩;exact((Keep.refl (λ_=>False) w).alloc _ |>.grown hgrow (λk hk=>.inr (by simp[Value.ownBlock]at hk;omega))).below (zC _) (λi _ h=>h)
theorem aPK (rows:List (List Value)) (v:Value) (w:World) (h:RowAt w 1 v rows) (hu:∀cs∈rows,cs.length=1) (h1:∀cs∈rows,∀u∈cs,u.oneCell'=true) (hn:rows.length<=1000000000):
 Calls Tryz.prog 140 #[v] w λe w'=>∃v',e=.returned v'/\w'.ownsRow w.heap.size 3 1 v' rows.length rows.flatten/\Below w.heap.size w w':=by
 obtain⟨i0,hi,hz0,hz1,hz2⟩:=info_parts uQ;have hl:=bO 1 rows hu;have a0:∀u∈rows.flatten,u.oneCell'=true:=λu hm=>by obtain⟨cs,hc,hm⟩:=List.mem_flatten.1 hm;exact h1 cs hc u hm
 have a1:RowAt w 1 v rows:=h;obtain⟨a,cap,rfl,hc⟩:=h.flat (by decide) hu;have q:∀(w:World) (a:Option Addr) (n c n' c':Nat),(binOp .eql 24 (.slice a n c) (.slice none n' c')).run Tryz.prog w=.ok (.bool a.isNone) w:=λw a n c n' c'=>Lib.run_eql_slice_nil w _ _ a n c n' c' Tryz.underlying24;rcases a with _|x
 .obtain⟨a',c',e1,_,hr⟩:=a1;have hz:rows.length=0:=by
   rcases Nat.eq_zero_or_pos rows.length with h0|h0
   .exact h0
   obtain⟨b,off,hb,_⟩:=hr h0;rw[hb]at e1;simp at e1
  obtain rfl:rows=[]:=zT hz;clear hc h1 a0 hr h;go_enter Tryz.func140,Tryz.ntmps140;go_wp2_with fail;go_ret;exact⟨_,rfl,⟨rfl,.inl ⟨rfl,rfl⟩⟩,bel _ _⟩
 have A:=aG (hc x rfl);clear hc h a1;go_enter Tryz.func140,Tryz.ntmps140;go_wp2_with(at_builtin;refine wpList_append_own _ rfl _ _ 24 rfl w.heap.size 3 i0 (.int .i64 0) 1 8 Tryz.underlying24 hi hz0 hz1 hz2 rfl (by decide) _ _ _ rfl (World.ownsRow_made w #[] 0 (zC _) (Nat.zero_le _) (by simp)) x rows.length cap rows.flatten rfl ?qc1 ?qc2 ?qc3 ?qc4 ?qc5 ?qc6 ?_)
 case qc1=>exact hl
 case qc2=>intro j u hj;exact Lib.cell?_alloc_some _ (A.out j u hj)
 case qc3=>exact a0
 case qc4=>unfold maxLen;omega
 case qc5=>omega
 case qc6=>simp
 intro v' w1 hown hgrow hnil;go_wp2_with fail;go_ret;refine⟨v',rfl,by simpa using hown,?_⟩;exact((Keep.refl (λ_=>False) w).alloc _ |>.grown hgrow (λk hk=>.inr (by simp[Value.ownBlock]at hk;omega))).below (zC _) (λi _ h=>h)
section
def RowsIn (arr:Array Value) (k:Nat) (rows:List (List Value)):Prop:=∀(q:Nat) (cs:List Value),rows[q]? =some cs->∀(t:Nat) (u:Value),cs[t]? =some u->arr[q*k+t]? =some u
def OwnP (B:Nat) (w:World) (e:TypeId) (k:Nat) (v:Value) (rows:List (List Value)):Prop:=
 (v=.slice none 0 0/\rows=[])\/∃g cap arr,v=.slice (some ⟨g,0,none⟩) rows.length cap/\B<=g/\Blk w g arr e/\rows.length<=cap/\cap<=maxLen/\arr.size=cap*k/\RowsIn arr k rows
variable {B g k:Nat} {e t:TypeId} {rows:List (List Value)} {v:Value} {w:World}
theorem OwnP.of_own (h:w.ownsRow B e k v rows.length rows.flatten) (hk:0<k) (hu:∀cs∈rows,cs.length=k):OwnP B w e k v rows:=by
 obtain⟨hl,h0|⟨g,cap,cur,rfl,hg,hb,hn,hm,hs,ht⟩⟩:=h
 .exact .inl ⟨h0.1,zT h0.2⟩
 refine .inr ⟨g,cap,cur,rfl,hg,hb,hn,hm,hs,λq cs hq t u hc=>?_⟩;have a0:t<k:=by have:=hu cs (mG hq);obtain⟨h,_⟩:=gI.1 hc;omega
 obtain⟨hql,_⟩:=gI.1 hq;have h1:rows.flatten[q*k+t]? =some u:=by rw[nJ k rows hu q t a0,hq];exact hc
 rw[<-ht,yO]at h1;have:q*k+t<rows.length*k:=by have h2:(q+1)*k<=rows.length*k:=Nat.mul_le_mul_right _ (by omega);rw[Nat.add_mul,Nat.one_mul]at h2;omega
 rw[zB this]at h1;simpa using h1
theorem OwnP.own (h:OwnP B w e k v rows) (hk:0<k) (hu:∀cs∈rows,cs.length=k):w.ownsRow B e k v rows.length rows.flatten:=by
 refine⟨bO k rows hu,?_⟩;rcases h with⟨rfl,rfl⟩|⟨g,cap,cur,rfl,hg,hb,hn,hm,hs,hr⟩
 .exact .inl ⟨rfl,rfl⟩
 refine .inr ⟨g,cap,cur,rfl,hg,hb,hn,hm,hs,?_⟩;apply List.ext_getElem?;intro i;have hl:=bO k rows hu;rw[yO];by_cases hi:i<rows.length*k
 .rw[zB hi];have a0:i=i/k*k+i%k:=by rw[Nat.mul_comm];exact(Nat.div_add_mod i k).symm
  have ht:i%k<k:=Nat.mod_lt _ hk;have hq:i/k<rows.length:=Nat.div_lt_of_lt_mul (by rwa [Nat.mul_comm]);have a1:=hu rows[i/k] (List.getElem_mem hq);have h1:=hr (i/k) rows[i/k] (gE hq) (i%k) rows[i/k][i%k] (gE (by omega));have key:∀j,j=i/k*k+i%k->cur.toList[j]? =rows.flatten[j]? :=by intro j hj;rw[hj,nJ k rows hu _ _ ht,gE hq];show _=rows[i/k][i%k]?;rw[show rows[i/k][i%k]? =some rows[i/k][i%k]from gE (by omega),<-h1];simp
  exact key i a0
 rw[zA hi,List.getElem?_eq_none (by omega)]
theorem OwnP.row (h:OwnP B w e k v rows):RowAt w k v rows:=by
 rcases h with⟨rfl,rfl⟩|⟨g,cap,cur,rfl,hg,hb,hn,hm,hs,hr⟩
 .exact⟨none,0,rfl,by simp,λh=>absurd h (by simp)⟩
 exact⟨_,_,rfl,by omega,λ_=>⟨g,0,rfl,hb.lt.lt,λq cs hq t u hc=>by rw[hb.cell,zM];exact hr q cs hq t u hc⟩⟩
theorem OwnP.keep {w':World} {S:Nat->Prop} (h:OwnP B w e k v rows) (hk:Keep S w w') (hn:∀g,v.ownBlock=some g->¬S g):OwnP B w' e k v rows:=by
 rcases h with h|⟨g,cap,cur,rfl,hg,hb,r⟩
 .exact .inl h
 exact .inr ⟨g,cap,cur,rfl,hg,hk.blk hb (hn g rfl),r⟩
theorem OwnP.mono {B':Nat} (h:OwnP B w e k v rows) (hb:B'<=B):OwnP B' w e k v rows:=by
 rcases h with h|⟨g,cap,cur,rfl,hg,r⟩
 .exact .inl h
 exact .inr ⟨g,cap,cur,rfl,by omega,r⟩
theorem OwnP.ge (h:OwnP B w e k v rows) (hg:v.ownBlock=some g):B<=g:=by
 rcases h with⟨rfl,_⟩|⟨g',cap,cur,rfl,hg',r⟩
 .simp[Value.ownBlock]at hg
 simp[Value.ownBlock]at hg;omega
theorem OwnP.lt (h:OwnP B w e k v rows) (hg:v.ownBlock=some g):g<w.heap.size:=by
 rcases h with⟨rfl,_⟩|⟨g',cap,cur,rfl,hg',hb,r⟩
 .simp[Value.ownBlock]at hg
 simp[Value.ownBlock]at hg;subst hg;exact hb.lt.lt
theorem OwnP.ne_blk {b:Nat} {c:Array Value} (h:OwnP B w e k v rows) (hb:Blk w b c t) (hne:e≠t) (hg:v.ownBlock=some g):g≠b:=by
 rcases h with⟨rfl,_⟩|⟨g',cap,cur,rfl,hg',hb',r⟩
 .simp[Value.ownBlock]at hg
 simp[Value.ownBlock]at hg;subst hg;exact hb'.ne_ hb hne
theorem OwnP.one (h:OwnP B w e k v rows):v.oneCell'=true:=by
 rcases h with⟨rfl,_⟩|⟨g',cap,cur,rfl,_⟩<;>rfl
theorem RowsIn.set {arr:Array Value} (h:RowsIn arr k rows) (hu:∀cs∈rows,cs.length=k) {q t:Nat} {cs:List Value} (hq:rows[q]? =some cs) (ht:t<k) (hs:q*k+t<arr.size) (u:Value):RowsIn (arr.setIfInBounds (q*k+t) u) k (rows.set q (cs.set t u)):=by
 intro q' cs' hq' t' u' hc';obtain⟨hql,_⟩:=gI.1 hq;have a0:=hu cs (mG hq);by_cases e:q=q'
 .subst e;rw[zY hql]at hq';cases hq';by_cases e2:t=t'
  .subst e2;rw[zY (by omega)]at hc';cases hc';rw[yE,zB rfl,zB hs]
  rw[zX e2]at hc';rw[yE,zA (by omega)];exact h q cs hq t' u' hc'
 rw[zX e]at hq';have a1:t'<k:=by have:=hu cs' (mG hq');obtain⟨h,_⟩:=gI.1 hc';omega
 rw[yE,zA ?_]
 .exact h q' cs' hq' t' u' hc'
 intro hh;rcases Nat.lt_or_gt_of_ne e with h|h
 .have:=Nat.mul_le_mul_right k (show q+1<=q' from h);rw[Nat.add_mul]at this;omega
 have:=Nat.mul_le_mul_right k (show q'+1<=q from h);rw[Nat.add_mul]at this;omega
theorem eU:∀(is:List IRec),∀cs∈is.map IRec.cells,cs.length=4:=by intro is cs h;obtain⟨r,_,rfl⟩:=List.mem_map.1 h;rfl
theorem lD:∀(es:List PEnt),∀cs∈es.map PEnt.cells,cs.length=2:=by intro es cs h;obtain⟨r,_,rfl⟩:=List.mem_map.1 h;rfl
theorem gZ:∀(es:List PDesc),∀cs∈es.map PDesc.cells,cs.length=3:=by intro es cs h;obtain⟨r,_,rfl⟩:=List.mem_map.1 h;rfl
theorem pU:∀(es:List Int),∀cs∈es.map aK,cs.length=1:=by intro es cs h;obtain⟨r,_,rfl⟩:=List.mem_map.1 h;rfl
theorem mZ:∀(is:List IRec),∀cs∈is.map IRec.cells,∀u∈cs,u.oneCell'=true:=by
 intro is cs h u hu;obtain⟨r,_,rfl⟩:=List.mem_map.1 h;simp only[IRec.cells,List.mem_cons,List.not_mem_nil,or_false]at hu;rcases hu with rfl|rfl|rfl|rfl<;>first|rfl|exact r.one
theorem pV:∀(is:List PEnt),∀cs∈is.map PEnt.cells,∀u∈cs,u.oneCell'=true:=by
 intro is cs h u hu;obtain⟨r,_,rfl⟩:=List.mem_map.1 h;simp only[PEnt.cells,List.mem_cons,List.not_mem_nil,or_false]at hu;rcases hu with rfl|rfl<;>rfl
theorem nP:∀(is:List PDesc),∀cs∈is.map PDesc.cells,∀u∈cs,u.oneCell'=true:=by
 intro is cs h u hu;obtain⟨r,_,rfl⟩:=List.mem_map.1 h;simp only[PDesc.cells,List.mem_cons,List.not_mem_nil,or_false]at hu;rcases hu with rfl|rfl|rfl<;>rfl
theorem aHC:∀(is:List Int),∀cs∈is.map aK,∀u∈cs,u.oneCell'=true:=by intro is cs h u hu;obtain⟨r,_,rfl⟩:=List.mem_map.1 h;simp only[aK,List.mem_cons,List.not_mem_nil,or_false]at hu;subst hu;rfl
def StOwn (B:Nat) (w:World) (iv ov mv:Value) (S:PSt):Prop:=
 OwnP B w 95 3 ov (S.op.map PDesc.cells)/\OwnP B w 3 1 mv (S.made.map aK)/\∃is:List IRec,OwnP B w 68 4 iv (is.map IRec.cells)/\is.length=S.ins.length/\
  (∀(q:Nat) (r:IRec) (x:PIn),is[q]? =some r->S.ins[q]? =some x->r.num=x.num/\r.dir=x.dir/\r.data=x.data/\OwnP B w 97 2 r.ev (x.ents.map PEnt.cells))/\
  ∀(p q:Nat) (r r':IRec),p≠q->is[p]? =some r->is[q]? =some r'->∀g,r.ev.ownBlock=some g->r'.ev.ownBlock≠some g
theorem StOwn.read {iv ov mv:Value} {S:PSt} (h:StOwn B w iv ov mv S):StRead w iv ov mv S:=by
 obtain⟨h1,h2,is,h3,h4,h5,_⟩:=h;exact⟨h1.row,h2.row,is,h3.row,h4,λq r x hr hx=>by
  obtain⟨a1,a2,a3,a4⟩:=h5 q r x hr hx;exact⟨a1,a2,a3,a4.row⟩⟩
end
end Go.Proofs.YtmkapobnfigedaaGreatDoor
