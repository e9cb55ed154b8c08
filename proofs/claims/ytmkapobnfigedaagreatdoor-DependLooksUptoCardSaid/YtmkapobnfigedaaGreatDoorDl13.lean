/- Part of the proof of a law of chapter 15. Conditions: none. -/
import Derived.Test.YtmkapobnfigedaaGreatDoorDl11
import Derived.Lib.AppendZerosOnto
set_option linter.unusedVariables false
set_option linter.unusedSimpArgs false
set_option maxRecDepth 100000
set_option maxHeartbeats 8000000
namespace Go.Proofs.YtmkapobnfigedaaGreatDoor
open Go.RowKit
section
structure InsT (sl e m bytes:Nat) (z:Value) (i0:TypeInfo):Prop where
 ht:Tryz.prog.underlying sl=some (.slice e)
 hi:Tryz.prog.info? e=some i0
 hz:i0.zero=some z
 h1:i0.size=m
 h2:i0.bytes=bytes
 hc:z.cells.size=m
 hk:0<m
 hm:m<=100
 hb:bytes<=100
section
variable {sl e m bytes:Nat} {z:Value} {i0:TypeInfo}
theorem tD (T:InsT sl e m bytes z i0) (B:Nat) {rows:List (List Value)} {row:List Value} {i g cap gv:Nat} {arr:Array Value} {w:World} (hgb:Blk w g arr e) (hgv:Blk w gv row.toArray e) (hgn:gv≠g) (hsz:arr.size=cap*m) (hri:RowsIn arr m rows) (hu:∀cs∈rows,cs.length=m) (h1r:∀cs∈rows,∀u∈cs,u.oneCell'=true) (hrl:row.length=m) (h1:∀u∈row,u.oneCell'=true) (hlt:i<rows.length) (hroom:rows.length+1<=cap) (hcm:cap<=maxLen) (hgB:B<=g):
 ∃W1,(∀ty,(Builtin.copy_ #[sl,sl] ty #[.slice (some ⟨g,(i+1)*m,none⟩) (rows.length-i) (cap-(i+1)),.slice (some ⟨g,i*m,none⟩) (rows.length+1-i) (cap-i)]).run Tryz.prog w.drew=.ok (goInt (Nat.min (rows.length+1-i) (rows.length-i))) W1)/\(∀ty,(Builtin.copy_ #[sl,sl] ty #[.slice (some ⟨g,i*m,none⟩) (rows.length+1-i) (cap-i),.slice (some ⟨gv,0,none⟩) 1 1]).run Tryz.prog W1=.ok (goInt (Nat.min 1 (rows.length+1-i))) (W1.setCells g (i*m) row))/\∃v',Ending.returned (.slice (some ⟨g,0,none⟩) (rows.length+1) cap)=.returned v'/\OwnP B (W1.setCells g (i*m) row) e m v' (rows.take i++row::rows.drop i)/\Keep (λk=>(Value.slice (some ⟨g,0,none⟩) rows.length cap).ownBlock=some k) w (W1.setCells g (i*m) row)/\∀k,v'.ownBlock=some k->(Value.slice (some ⟨g,0,none⟩) rows.length cap).ownBlock=some k\/w.heap.size<=k:=by
 have a5:=bO m rows hu;have a6:∀cs∈[rows.flatten],∀u∈cs,u.oneCell'=true:=λcs hc u hm=>by rw[List.mem_singleton.1 hc]at hm;obtain⟨cs',h1',h2'⟩:=List.mem_flatten.1 hm;exact h1r cs' h1' u h2'
 have hi:i<=rows.length:=by omega
 have ig:=hgb.lt;have b0:=hgv.lt;have M1:(i+1)*m=i*m+m:=Nat.succ_mul i m;have M2:i*m+m<=rows.length*m:=by rw[<-M1];exact Nat.mul_le_mul_right m hlt
 have M4:(rows.length-i)*m=rows.length*m-i*m:=Nat.sub_mul _ _ _;have M8:(rows.length+1)*m=rows.length*m+m:=Nat.succ_mul _ m;have M5:(rows.length+1-i)*m=rows.length*m+m-i*m:=by rw[Nat.sub_mul,M8]
 have b1:=T.hk;have M3:rows.length*m+m<=cap*m:=by rw[<-M8];exact Nat.mul_le_mul_right m hroom
 obtain⟨W1,hW1⟩:∃W1,W1=w.drew.setCells g ((i+1)*m) (rows.flatten.drop (i*m)):=⟨_,rfl⟩;have a0:(rows.flatten.drop (i*m)).length=(rows.length-i)*m:=by rw[yK,a5,Nat.sub_mul]
 have a3:=hri.flat hu;obtain⟨c1,e1,e2,e3,e4⟩:=Blk.setCells_at g e (rows.flatten.drop (i*m)) ((i+1)*m) w.drew arr hgb.drew (by rw[a0,hsz];omega);rw[<-hW1]at e1;obtain⟨c2,f1,f2,f3,f4⟩:=Blk.setCells_at g e row (i*m) W1 c1 e1 (by rw[hrl,e2,hsz];omega);have a4:Keep (λk=>k=g) w.drew W1:=by rw[hW1];exact Keep.setCells (S:=λk=>k=g) rfl _ _ (Keep.refl _ _)
 have a7:Blk W1 gv row.toArray e:=a4.blk hgv.drew hgn;have a1:∀ty,(Builtin.copy_ #[sl,sl] ty #[.slice (some ⟨g,(i+1)*m,none⟩) (rows.length-i) (cap-(i+1)),.slice (some ⟨g,i*m,none⟩) (rows.length+1-i) (cap-i)]).run Tryz.prog w.drew=.ok (goInt (Nat.min (rows.length+1-i) (rows.length-i))) W1:=λty=>by
  rw[hW1];refine lU w.drew sl sl ty e g ((i+1)*m) (rows.length-i) (cap-(i+1)) ⟨g,i*m,none⟩ (rows.length+1-i) (cap-i) m (rows.flatten.drop (i*m)) T.ht (by rw[T.hi];simp[T.h1]) (by rw[a0];simp only[Nat.min_def];split<;>omega) ?_ ?_ ?_ (λv hv=>a6 _ (List.mem_singleton.2 rfl) v (List.mem_of_mem_drop hv))
  .intro j v hj;rw[Addr.add_lit];show w.drew.cell? ⟨g,i*m+j,none⟩=some v;rw[hgb.drew.cell];rw[yN]at hj;obtain⟨hjl,_⟩:=gI.1 hj;rw[a3 _ (by omega)];exact hj
  .intro j hj;rw[hgb.drew.cell,yA (by rw[a0]at hj;rw[hsz];omega)];rfl
  intro j hj;exact hgb.drew.frozen _
 have a2:∀ty,(Builtin.copy_ #[sl,sl] ty #[.slice (some ⟨g,i*m,none⟩) (rows.length+1-i) (cap-i),.slice (some ⟨gv,0,none⟩) 1 1]).run Tryz.prog W1=.ok (goInt (Nat.min 1 (rows.length+1-i))) (W1.setCells g (i*m) row):=λty=>by
  refine lU W1 sl sl ty e g (i*m) (rows.length+1-i) (cap-i) ⟨gv,0,none⟩ 1 1 m row T.ht (by rw[T.hi];simp[T.h1]) (by rw[hrl];simp only[Nat.min_def];split<;>omega) ?_ ?_ ?_ h1
  .intro j v hj;rw[Addr.add_lit];show W1.cell? ⟨gv,0+j,none⟩=some v;rw[a7.cell,zM];simpa using hj
  .intro j hj;rw[e1.cell,yA (by rw[e2,hsz];omega)];rfl
  intro j hj;exact e1.frozen _
 refine⟨W1,a1,a2,?_⟩;refine⟨_,rfl,.inr ⟨g,cap,c2,?_,hgB,f1,?_,hcm,by rw[f2,e2,hsz],?_⟩,?_,λk hk=>.inl hk⟩
 .rw[lP,zU,zK,yK,show min i rows.length+(rows.length-i+1)=rows.length+1 by omega]
 .rw[lP,zU,zK,yK];omega
 .refine hri.insert hu hrl hi (λj hj=>?_) (λt ht=>?_) (λj hj1 hj2=>?_)
  .rw[f3 j (.inl hj),e3 j (.inl (by omega))]
  .exact f4 t (by omega)
  rw[f3 (j+m) (.inr (by omega)),show j+m=(i+1)*m+(j-i*m) by omega,e4 (j-i*m) (by omega),yN,show i*m+(j-i*m)=j by omega,<-a3 j hj2]
 have a8:Keep (λk=>k=g) w.drew (W1.setCells g (i*m) row):=Keep.setCells (S:=λk=>k=g) rfl _ _ a4;have a9:Keep (λk=>k=g) w (W1.setCells g (i*m) row):=(show Keep (λk=>k=g) w w.drew from(Keep.refl _ w).drew).trans a8 (λ_ _ h=>h);exact a9.mono (λk _ h=>by rw[h];rfl)
theorem tE (T:InsT sl e m bytes z i0) (B:Nat) {rows:List (List Value)} {row:List Value} {i g cap gv:Nat} {arr:Array Value} {w:World} (hgb:Blk w g arr e) (hgv:Blk w gv row.toArray e) (hgn:gv≠g) (hsz:arr.size=cap*m) (hri:RowsIn arr m rows) (hu:∀cs∈rows,cs.length=m) (h1r:∀cs∈rows,∀u∈cs,u.oneCell'=true) (hrl:row.length=m) (h1:∀u∈row,u.oneCell'=true) (hlt:i<rows.length) (hcap:cap=rows.length) (hcm:cap<=1000000000000) (hB:B<=w.heap.size):
 ∃(G:Nat) (Wa Wb Wc:World),rows.length+1<=G/\G<=maxLen/\(∀ty,(Builtin.append_ #[sl,3] ty #[.slice (some ⟨g,0,none⟩) i rows.length,.int .i64 ((rows.length:Int)+1-(i:Int))]).run Tryz.prog w=.ok (.slice (some ⟨w.heap.size,0,none⟩) (rows.length+1) G) Wa)/\(∀ty,(Builtin.copy_ #[sl,sl] ty #[.slice (some ⟨w.heap.size,i*m,none⟩) (rows.length+1-i) (G-i),.slice (some ⟨gv,0,none⟩) 1 1]).run Tryz.prog Wa=.ok (goInt (Nat.min 1 (rows.length+1-i))) Wb)/\(∀ty,(Builtin.copy_ #[sl,sl] ty #[.slice (some ⟨w.heap.size,(i+1)*m,none⟩) (rows.length-i) (G-(i+1)),.slice (some ⟨g,i*m,none⟩) (rows.length-i) (rows.length-i)]).run Tryz.prog Wb.drew=.ok (goInt (Nat.min (rows.length-i) (rows.length-i))) Wc)/\∃v',Ending.returned (.slice (some ⟨w.heap.size,0,none⟩) (rows.length+1) G)=.returned v'/\OwnP B Wc e m v' (rows.take i++row::rows.drop i)/\Keep (λk=>(Value.slice (some ⟨g,0,none⟩) rows.length rows.length).ownBlock=some k) w Wc/\∀k,v'.ownBlock=some k->(Value.slice (some ⟨g,0,none⟩) rows.length rows.length).ownBlock=some k\/w.heap.size<=k:=by
 subst hcap;have a8:=bO m rows hu;have b4:∀cs∈[rows.flatten],∀u∈cs,u.oneCell'=true:=λcs hc u hm=>by rw[List.mem_singleton.1 hc]at hm;obtain⟨cs',h1',h2'⟩:=List.mem_flatten.1 hm;exact h1r cs' h1' u h2'
 have hi:i<=rows.length:=by omega
 have ig:=hgb.lt;have b5:=hgv.lt;have M1:(i+1)*m=i*m+m:=Nat.succ_mul i m;have M2:i*m+m<=rows.length*m:=by rw[<-M1];exact Nat.mul_le_mul_right m hlt
 have M4:(rows.length-i)*m=rows.length*m-i*m:=Nat.sub_mul _ _ _;have M8:(rows.length+1)*m=rows.length*m+m:=Nat.succ_mul _ m;have M5:(rows.length+1-i)*m=rows.length*m+m-i*m:=by rw[Nat.sub_mul,M8]
 have c0:=T.hk;have a1:=hri.flat hu;obtain⟨G,hG⟩:∃G,G=grownCap w (rows.length+1) rows.length e:=⟨_,rfl⟩;obtain⟨ROW,hROW⟩:∃ROW:Array Value,ROW=(rows.flatten.take (i*m)).toArray++Builtin.zeroCells (z:Value).cells (rows.length+1-i)++Builtin.zeroCells (z:Value).cells (G-(rows.length+1)):=⟨_,rfl⟩;have a9:rows.length+1<=G:=by rw[hG];exact grownCap_ge w _ _ _
 have b0:G<=maxLen:=by rw[hG];exact grownCap_le_maxLen w (rows.length+1) rows.length e (by unfold maxLen;omega)
 have M7:rows.length*m+m<=G*m:=by rw[<-M8];exact Nat.mul_le_mul_right m a9
 have M6:(G-(rows.length+1))*m=G*m-(rows.length*m+m):=by rw[Nat.sub_mul,M8]
 have N1:(rows.length+1-i)*bytes<=(rows.length+1-i)*100:=Nat.mul_le_mul_left _ T.hb;have N2:(rows.length+1)*bytes<=(rows.length+1)*100:=Nat.mul_le_mul_left _ T.hb;have a2:(rows.flatten.take (i*m)).length=i*m:=by rw[zU,a8];omega
 have a0:ROW.size=G*m:=by rw[hROW];simp only[Array.size_append,List.size_toArray,a2,size_zeroCells,T.hc];omega
 obtain⟨Wa,hWa⟩:∃Wa,Wa=w.drew.alloc (.cells ROW e):=⟨_,rfl⟩;have ha:Blk Wa w.heap.size ROW e:=by rw[hWa];exact Blk.new w.drew _ _
 have b6:(rows.length:Int)+1-(i:Int)=((rows.length+1-i:Nat):Int):=by omega
 have b1:i+(rows.length+1-i)=rows.length+1:=by omega
 have a3:(Builtin.firstCells i0.size i (.slice (some ⟨g,0,none⟩) i rows.length)).run Tryz.prog w.drew=.ok (rows.flatten.take (i*m)).toArray w.drew:=by
  rw[T.h1];refine run_firstCells_some w.drew m i ⟨g,0,none⟩ i rows.length (rows.flatten.take (i*m)) a2 (λj u hj=>?_);rw[Addr.add_lit];show w.drew.cell? ⟨g,0+j,none⟩=some u;rw[hgb.drew.cell,zM];rw[yO]at hj;split at hj
  .rw[a1 j (by omega)];exact hj
  cases hj
 have b7:∀ty,(Builtin.append_ #[sl,3] ty #[.slice (some ⟨g,0,none⟩) i rows.length,.int .i64 ((rows.length:Int)+1-(i:Int))]).run Tryz.prog w=.ok (.slice (some ⟨w.heap.size,0,none⟩) (rows.length+1) G) Wa:=λty=>by have h:=Lib.run_append_grow_zeros w sl 3 ty e i0 _ .i64 .i64 T.ht Tryz.underlying3 T.hi T.hz (some ⟨g,0,none⟩) i rows.length (rows.flatten.take (i*m)) a3 (rows.length+1-i) (by omega) (by rw[T.h1];exact T.hk) (by omega) (by omega) (by rw[T.h2];omega) (by rw[T.h2,b1];exact growslice_fits (by omega) (by omega));rw[b1]at h;rw[b6,hWa,hROW,hG];exact h
 obtain⟨c2,f1,f2,f3,f4⟩:=Blk.setCells_at w.heap.size e row (i*m) Wa ROW ha (by rw[hrl,a0];omega);obtain⟨Wb,hWb⟩:∃Wb,Wb=Wa.setCells w.heap.size (i*m) row:=⟨_,rfl⟩;rw[<-hWb]at f1;have a4:(rows.flatten.drop (i*m)).length=(rows.length-i)*m:=by rw[yK,a8,Nat.sub_mul]
 obtain⟨c3,g1,g2,g3,g4⟩:=Blk.setCells_at w.heap.size e (rows.flatten.drop (i*m)) ((i+1)*m) Wb.drew c2 f1.drew (by rw[a4,f2,a0];omega);obtain⟨Wc,hWc⟩:∃Wc,Wc=Wb.drew.setCells w.heap.size ((i+1)*m) (rows.flatten.drop (i*m)):=⟨_,rfl⟩;rw[<-hWc]at g1;have b2:Keep (λk=>k=w.heap.size) w Wa:=by rw[hWa];exact(Keep.refl _ w).drew.alloc _
 have b3:Keep (λk=>k=w.heap.size) w Wb:=by rw[hWb];exact Keep.setCells (S:=λk=>k=w.heap.size) rfl _ _ b2
 have b8:Keep (λk=>k=w.heap.size) w Wc:=by rw[hWc];exact Keep.setCells (S:=λk=>k=w.heap.size) rfl _ _ b3.drew
 have b9:Blk Wa gv row.toArray e:=b2.blk hgv (by have:=b5.lt;omega);have a5:Blk Wb.drew g arr e:=(b3.blk hgb (by have:=ig.lt;omega)).drew;have a6:∀ty,(Builtin.copy_ #[sl,sl] ty #[.slice (some ⟨w.heap.size,i*m,none⟩) (rows.length+1-i) (G-i),.slice (some ⟨gv,0,none⟩) 1 1]).run Tryz.prog Wa=.ok (goInt (Nat.min 1 (rows.length+1-i))) Wb:=λty=>by
  rw[hWb];refine lU Wa sl sl ty e w.heap.size (i*m) (rows.length+1-i) (G-i) ⟨gv,0,none⟩ 1 1 m row T.ht (by rw[T.hi];simp[T.h1]) (by rw[hrl];simp only[Nat.min_def];split<;>omega) ?_ ?_ ?_ h1
  .intro j v hj;rw[Addr.add_lit];show Wa.cell? ⟨gv,0+j,none⟩=some v;rw[b9.cell,zM];simpa using hj
  .intro j hj;rw[ha.cell,yA (by rw[a0];omega)];rfl
  intro j hj;exact ha.frozen _
 have a7:∀ty,(Builtin.copy_ #[sl,sl] ty #[.slice (some ⟨w.heap.size,(i+1)*m,none⟩) (rows.length-i) (G-(i+1)),.slice (some ⟨g,i*m,none⟩) (rows.length-i) (rows.length-i)]).run Tryz.prog Wb.drew=.ok (goInt (Nat.min (rows.length-i) (rows.length-i))) Wc:=λty=>by
  rw[hWc];refine lU Wb.drew sl sl ty e w.heap.size ((i+1)*m) (rows.length-i) (G-(i+1)) ⟨g,i*m,none⟩ (rows.length-i) (rows.length-i) m (rows.flatten.drop (i*m)) T.ht (by rw[T.hi];simp[T.h1]) (by rw[a4];simp only[Nat.min_def];split<;>omega) ?_ ?_ ?_ (λv hv=>b4 _ (List.mem_singleton.2 rfl) v (List.mem_of_mem_drop hv))
  .intro j v hj;rw[Addr.add_lit];show Wb.drew.cell? ⟨g,i*m+j,none⟩=some v;rw[a5.cell];rw[yN]at hj;obtain⟨hjl,_⟩:=gI.1 hj;rw[a1 _ (by omega)];exact hj
  .intro j hj;rw[f1.drew.cell,yA (by rw[a4]at hj;rw[f2,a0];omega)];rfl
  intro j hj;exact f1.drew.frozen _
 refine⟨G,Wa,Wb,Wc,a9,b0,b7,a6,a7,?_⟩;refine⟨_,rfl,.inr ⟨w.heap.size,G,c3,?_,hB,g1,?_,b0,by rw[g2,f2,a0],?_⟩,b8.mono (λk hk h=>by omega),λk hk=>.inr (by simp[Value.ownBlock]at hk;omega)⟩
 .rw[lP,zU,zK,yK,show min i rows.length+(rows.length-i+1)=rows.length+1 by omega]
 .rw[lP,zU,zK,yK];omega
 refine hri.insert hu hrl hi (λj hj=>?_) (λt ht=>?_) (λj hj1 hj2=>?_)
 .rw[g3 j (.inl (by omega)),f3 j (.inl hj),hROW,Array.append_assoc,Array.getElem?_append_left (by simpa[a2]using hj),yD,yO,zB hj,a1 j (by omega)]
 .rw[g3 _ (.inl (by omega))];exact f4 t (by omega)
 rw[show j+m=(i+1)*m+(j-i*m) by omega,g4 (j-i*m) (by omega),yN,show i*m+(j-i*m)=j by omega,<-a1 j hj2]
end
theorem aAG {e gv:Nat} {row:List Value} {w:World} (hgv:Blk w gv row.toArray e):∀j u,row[j]? =some u->w.cell? ((⟨gv,0,none⟩:Addr).add j)=some u:=λj u hj=>by rw[Addr.add_lit];show w.cell? ⟨gv,0+j,none⟩=_;rw[hgv.cell,zM];simpa using hj
theorem aAH {m:Nat} {rows:List (List Value)} {row:List Value} (hu:∀cs∈rows,cs.length=m) (hrl:row.length=m):∀cs∈rows++[row],cs.length=m:=λcs hc=>by
 rcases List.mem_append.1 hc with h|h
 .exact hu cs h
 rw[List.mem_singleton.1 h];exact hrl
theorem aAI {B e m g cap:Nat} {rows:List (List Value)} {row:List Value} {w:World} (hm:0<m) (hu':∀cs∈rows++[row],cs.length=m):∀(v':Value) (w1:World),w1.ownsRow B e m v' (rows.length+1) (rows.flatten++row)->w.grownBy w1 (some g)->(v'.ownBlock=some g\/v'.ownBlock=some w.heap.size)->∃v'',Ending.returned v'=.returned v''/\OwnP B w1 e m v'' (rows.take rows.length++row::rows.drop rows.length)/\Keep (λk=>(Value.slice (some ⟨g,0,none⟩) rows.length cap).ownBlock=some k) w w1/\∀k,v''.ownBlock=some k->(Value.slice (some ⟨g,0,none⟩) rows.length cap).ownBlock=some k\/w.heap.size<=k:=by
 have HF:∀(v':Value) (w1:World),w1.ownsRow B e m v' (rows.length+1) (rows.flatten++row)->OwnP B w1 e m v' (rows.take rows.length++row::rows.drop rows.length):=λv' w1 ho=>by rw[List.take_length,List.drop_length];exact OwnP.of_own (by rw[lP,List.length_singleton,List.flatten_append];simpa using ho) hm hu'
 intro v' w1 ho hg hl;refine⟨v',rfl,HF v' w1 ho,(Keep.refl _ w).grown hg (λk hk=>.inl hk),λk hk=>?_⟩;rcases hl with h|h
 .exact .inl (by rw[h]at hk;exact hk)
 rw[h]at hk;right;simp at hk;omega
theorem aTU (w:World) (gv g o la ca lb cb:Nat) (A C:Array Value) (ha:Blk w gv A 97) (hb:Blk w g C 97) (hne:gv≠g) (hs:C.size≠0):
 (callFunc 212 #[.slice (some ⟨gv,0,none⟩) la ca,.slice (some ⟨g,o,none⟩) lb cb]).run Tryz.prog w=.ok (.value (.bool false)) w:=by
 have a0:w.shape? gv=some (97,A.size):=by unfold World.shape?;rw[show w.heap[gv]? =some (.cells A 97 (0,0))from ha]
 have a1:w.shape? g=some (97,C.size):=by unfold World.shape?;rw[show w.heap[g]? =some (.cells C 97 (0,0))from hb]
 rw[run_callFunc_extern Tryz.func212 (by kernel_rfl) (by kernel_rfl) (by kernel_rfl) (e:=Extern.SlicesOverlaps.overlaps #[66,66] #[4]) (by kernel_rfl),
  Lib.run_overlaps_apart w 66 4 97 Tryz.underlying66 2 (λw=>by kernel_rfl) ⟨gv,0,none⟩ ⟨g,o,none⟩ la ca lb cb hne 97 97 A.size C.size a0 a1 hs (ha.frozen 0) (ha.frozen _)]
 rfl
theorem aIW (B:Nat) (v:Value) (rows:List (List Value)) (i gv:Nat) (row:List Value) (w:World) (h:OwnP B w 97 2 v rows) (hu:∀cs∈rows,cs.length=2) (h1r:∀cs∈rows,∀u∈cs,u.oneCell'=true) (hi:i<=rows.length) (hn:rows.length<=1000000)
 (hgv:Blk w gv row.toArray 97) (hrl:row.length=2) (h1:∀u∈row,u.oneCell'=true) (hne:v.ownBlock≠some gv) (hB:B<=w.heap.size):
 Calls Tryz.prog 202 #[v,.int .i64 i,.slice (some ⟨gv,0,none⟩) 1 1] w λe w'=>∃v',e=.returned v'/\OwnP B w' 97 2 v' (rows.take i++row::rows.drop i)/\Keep (λk=>v.ownBlock=some k) w w'/\∀k,v'.ownBlock=some k->v.ownBlock=some k\/w.heap.size<=k:=by
 obtain⟨i0,hi0,hz0,hz1,hz2⟩:=info_parts xT;have T:InsT 66 97 2 24 (.agg #[.string ByteArray.empty,.int .i64 0]) i0:=⟨Tryz.underlying66,hi0,hz0,hz1,hz2,rfl,by decide,by decide,by decide⟩;have a0:=aAG hgv;have a4:=aAH hu hrl;have b8:=hgv.lt;rcases h with⟨rfl,rfl⟩|⟨g,cap,arr,rfl,hgB,hgb,hnc,hcm,hsz,hri⟩
 .obtain rfl:i=0:=by simpa using hi
  have HR:=aG a0;clear a0 hu a4 h1r hi hn;go_enter Tryz.func202,Tryz.ntmps202;go_wp2_with(at_builtin;refine wpList_append_own_at _ rfl (.tmp 23) (.tmp 24) 66 rfl B 97 i0 (.agg #[.string ByteArray.empty,.int .i64 0]) 2 24 Tryz.underlying66 hi0 hz0 hz1 hz2 rfl (by decide) (.slice none 0 0) 0 [] rfl (World.ownsRow_nil w B 97 2) ⟨gv,0,none⟩ 1 1 row rfl hrl HR.out h1 (by unfold maxLen;omega) (by omega) hB ?_);intro v' w1 hown1 hgrow _ hloc;have a1:=eX hown1;have H1:=dR hown1 hgrow hloc;clear hown1 hgrow hloc;go_wp2_with fail;go_ret;refine⟨v',rfl,OwnP.of_own (rows:=[row]) (by simpa using H1.out.1) (by decide) (λcs h=>by rw[List.mem_singleton.1 h];exact hrl),(Keep.refl _ w).grown H1.out.2.1 (λk hk=>.inl hk),λk hk=>?_⟩;rcases H1.out.2.2 with h|h
  .rw[h]at hk;exact .inl hk
  rw[h]at hk;right;simp at hk;omega
 have h:OwnP B w 97 2 (.slice (some ⟨g,0,none⟩) rows.length cap) rows:=.inr ⟨g,cap,arr,rfl,hgB,hgb,hnc,hcm,hsz,hri⟩;have a6:=hcm;unfold maxLen at a6;by_cases hin:i=rows.length
 .have a5:=h.own (by decide) hu;have HO:=aG a5;have HR:=aG a0;have HK:=aG (aAI (B:=B) (e:=97) (g:=g) (cap:=cap) (w:=w) (by decide) a4);clear a5 a0 h a4 hu hgb hri hsz;have b0:(i:Int)=rows.length:=by omega
  subst hin;by_cases hcc:cap=rows.length
  .subst hcc
   go_enter Tryz.func202,Tryz.ntmps202;go_wp2_with(at_builtin;refine wpList_append_own_at _ rfl (.tmp 23) (.tmp 24) 66 rfl B 97 i0 (.agg #[.string ByteArray.empty,.int .i64 0]) 2 24 Tryz.underlying66 hi0 hz0 hz1 hz2 rfl (by decide) _ _ rows.flatten rfl HO.out ⟨gv,0,none⟩ 1 1 row rfl hrl HR.out h1 (by unfold maxLen;omega) (by omega) hB ?_);intro v' w1 hown1 hgrow _ hloc;have a1:=eX hown1;have H1:=dR hown1 hgrow hloc;clear hown1 hgrow hloc;go_wp2_with fail;go_ret;exact HK.out _ _ H1.out.1 H1.out.2.1 H1.out.2.2
  have b1:¬rows.length=cap:=λe=>hcc e.symm;go_enter Tryz.func202,Tryz.ntmps202;go_wp2_with(at_builtin;refine wpList_append_own_at _ rfl (.tmp 23) (.tmp 24) 66 rfl B 97 i0 (.agg #[.string ByteArray.empty,.int .i64 0]) 2 24 Tryz.underlying66 hi0 hz0 hz1 hz2 rfl (by decide) _ _ rows.flatten rfl HO.out ⟨gv,0,none⟩ 1 1 row rfl hrl HR.out h1 (by unfold maxLen;omega) (by omega) hB ?_);intro v' w1 hown1 hgrow _ hloc;have a1:=eX hown1;have H1:=dR hown1 hgrow hloc;clear hown1 hgrow hloc;go_wp2_with fail;go_ret;exact HK.out _ _ H1.out.1 H1.out.2.1 H1.out.2.2
 have a9:i<rows.length:=by omega
 have a7:gv≠g:=λe=>hne (by rw[e];rfl);have ig:=hgb.lt;have b9:¬((i:Int)=(rows.length:Int)):=by omega
 have c0:¬(cap=i):=by omega
 have b0:(i:Int)<rows.length:=by omega
 by_cases hroom:rows.length+1<=cap
 .have a8:arr.size≠0:=by rw[hsz];omega
  have b2:∀o lb cb,(callFunc 212 #[.slice (some ⟨gv,0,none⟩) 1 1,.slice (some ⟨g,o,none⟩) lb cb]).run Tryz.prog w=.ok (.value (.bool false)) w:=λo lb cb=>aTU w gv g o 1 1 lb cb row.toArray arr hgv hgb a7 a8;have a2:¬((cap:Int)<(rows.length:Int)+1):=by omega
  have c1:(i:Int)<=(rows.length:Int)+1:=by omega
  have c2:i<=rows.length+1:=by omega
  have b3:¬(cap=i+1):=by omega
  have b4:IntKind.i64.wrap ((i:Int)+1)=(i:Int)+1:=by rw[IntKind.wrap_i64];omega
  have b5:IntKind.i64.wrap ((rows.length:Int)+1)=(rows.length:Int)+1:=by rw[IntKind.wrap_i64];omega
  obtain⟨W1,hcp1,hcp2,hfin⟩:=tD T B hgb hgv a7 hsz hri hu h1r hrl h1 a9 hroom hcm hgB;have a3:=aG hfin;clear hfin h hgb hri hgv a0 a4 hu hsz T;go_enter Tryz.func202,Tryz.ntmps202;go_wp2_with(simp only[b2]);refine aC [8] true (λw'=>True) (by kernel_rfl) (by kernel_rfl) ?_ ?_
  .trivial
  repeat
   refine aH rfl rfl ?_;apply Exists.intro;refine⟨?_,?_⟩
   focus
    rintro w' -;go_simp
    first|done|rfl
   simp only[Act.put,sA,sZ,sS]
  refine fJ rfl rfl ?_;refine⟨_,_,gY rfl rfl rfl (hcp1 _),.inr ⟨rfl,rfl⟩,?_⟩;simp only[Act.put,sA,sZ,sS];refine aQ ?_;go_wp2_with(at_builtin;refine cU _ rfl _ _ 66 66 rfl _ _ rfl rfl (hcp2 _) ?_);go_ret;exact a3.out
 obtain rfl:cap=rows.length:=by omega
 obtain⟨G,Wa,Wb,Wc,hGn,hGm,hrz,hcpA,hcpB,hfin⟩:=tE T B hgb hgv a7 hsz hri hu h1r hrl h1 a9 rfl (by omega) hB;have a3:=aG hfin;have a2:(rows.length:Int)<(rows.length:Int)+1:=by omega
 have b4:IntKind.i64.wrap ((i:Int)+1)=(i:Int)+1:=by rw[IntKind.wrap_i64];omega
 have b5:IntKind.i64.wrap ((rows.length:Int)+1)=(rows.length:Int)+1:=by rw[IntKind.wrap_i64];omega
 have c3:¬(G=i):=by omega
 have b6:¬(G=i+1):=by omega
 have c4:¬(rows.length=i):=by omega
 have c5:i<=rows.length+1:=by omega
 have c6:i+1<=rows.length+1:=by omega
 have b7:(G:Int)<=9223372036854775807:=by unfold maxLen at hGm;omega
 clear hfin h hgb hri hgv a0 a4 hu hsz T;go_enter Tryz.func202,Tryz.ntmps202;go_wp2_with(first
  |(at_builtin;refine Lib.wpList_append_run _ rfl _ _ _ _ rfl _ _ rfl rfl _ _ (hrz _) ?_)
  |(at_builtin;refine cU _ rfl _ _ 66 66 rfl _ _ rfl rfl (hcpA _) ?_))
 refine aC [8] true (λw'=>True) (by kernel_rfl) (by kernel_rfl) ?_ ?_
 .trivial
 repeat
  refine aH rfl rfl ?_;apply Exists.intro;refine⟨?_,?_⟩
  focus
   rintro w' -;go_simp
   first|done|rfl
  simp only[Act.put,sA,sZ,sS]
 refine fJ rfl rfl ?_;refine⟨_,_,gY rfl rfl rfl (hcpB _),.inr ⟨rfl,rfl⟩,?_⟩;simp only[Act.put,sA,sZ,sS];refine aQ ?_;go_wp2_with fail;go_ret;exact a3.out
theorem aTV (w:World) (gv g o la ca lb cb:Nat) (A C:Array Value) (ha:Blk w gv A 68) (hb:Blk w g C 68) (hne:gv≠g) (hs:C.size≠0):
 (callFunc 203 #[.slice (some ⟨gv,0,none⟩) la ca,.slice (some ⟨g,o,none⟩) lb cb]).run Tryz.prog w=.ok (.value (.bool false)) w:=by
 have a0:w.shape? gv=some (68,A.size):=by unfold World.shape?;rw[show w.heap[gv]? =some (.cells A 68 (0,0))from ha]
 have a1:w.shape? g=some (68,C.size):=by unfold World.shape?;rw[show w.heap[g]? =some (.cells C 68 (0,0))from hb]
 rw[run_callFunc_extern Tryz.func203 (by kernel_rfl) (by kernel_rfl) (by kernel_rfl) (e:=Extern.SlicesOverlaps.overlaps #[22,22] #[4]) (by kernel_rfl),
  Lib.run_overlaps_apart w 22 4 68 Tryz.underlying22 4 (λw=>by kernel_rfl) ⟨gv,0,none⟩ ⟨g,o,none⟩ la ca lb cb hne 68 68 A.size C.size a0 a1 hs (ha.frozen 0) (ha.frozen _)]
 rfl
theorem aIX (B:Nat) (v:Value) (rows:List (List Value)) (i gv:Nat) (row:List Value) (w:World) (h:OwnP B w 68 4 v rows) (hu:∀cs∈rows,cs.length=4) (h1r:∀cs∈rows,∀u∈cs,u.oneCell'=true) (hi:i<=rows.length) (hn:rows.length<=1000000)
 (hgv:Blk w gv row.toArray 68) (hrl:row.length=4) (h1:∀u∈row,u.oneCell'=true) (hne:v.ownBlock≠some gv) (hB:B<=w.heap.size):
 Calls Tryz.prog 177 #[v,.int .i64 i,.slice (some ⟨gv,0,none⟩) 1 1] w λe w'=>∃v',e=.returned v'/\OwnP B w' 68 4 v' (rows.take i++row::rows.drop i)/\Keep (λk=>v.ownBlock=some k) w w'/\∀k,v'.ownBlock=some k->v.ownBlock=some k\/w.heap.size<=k:=by
 obtain⟨i0,hi0,hz0,hz1,hz2⟩:=info_parts xS;have T:InsT 22 68 4 56 (.agg #[.int .i64 0,.bool false,.slice none 0 0,.string ByteArray.empty]) i0:=⟨Tryz.underlying22,hi0,hz0,hz1,hz2,rfl,by decide,by decide,by decide⟩;have a0:=aAG hgv;have a4:=aAH hu hrl;have b8:=hgv.lt;rcases h with⟨rfl,rfl⟩|⟨g,cap,arr,rfl,hgB,hgb,hnc,hcm,hsz,hri⟩
 .obtain rfl:i=0:=by simpa using hi
  have HR:=aG a0;clear a0 hu a4 h1r hi hn;go_enter Tryz.func177,Tryz.ntmps177;go_wp2_with(at_builtin;refine wpList_append_own_at _ rfl (.tmp 23) (.tmp 24) 22 rfl B 68 i0 (.agg #[.int .i64 0,.bool false,.slice none 0 0,.string ByteArray.empty]) 4 56 Tryz.underlying22 hi0 hz0 hz1 hz2 rfl (by decide) (.slice none 0 0) 0 [] rfl (World.ownsRow_nil w B 68 4) ⟨gv,0,none⟩ 1 1 row rfl hrl HR.out h1 (by unfold maxLen;omega) (by omega) hB ?_);intro v' w1 hown1 hgrow _ hloc;have a1:=eX hown1;have H1:=dR hown1 hgrow hloc;clear hown1 hgrow hloc;go_wp2_with fail;go_ret;refine⟨v',rfl,OwnP.of_own (rows:=[row]) (by simpa using H1.out.1) (by decide) (λcs h=>by rw[List.mem_singleton.1 h];exact hrl),(Keep.refl _ w).grown H1.out.2.1 (λk hk=>.inl hk),λk hk=>?_⟩;rcases H1.out.2.2 with h|h
  .rw[h]at hk;exact .inl hk
  rw[h]at hk;right;simp at hk;omega
 have h:OwnP B w 68 4 (.slice (some ⟨g,0,none⟩) rows.length cap) rows:=.inr ⟨g,cap,arr,rfl,hgB,hgb,hnc,hcm,hsz,hri⟩;have a6:=hcm;unfold maxLen at a6;by_cases hin:i=rows.length
 .have a5:=h.own (by decide) hu;have HO:=aG a5;have HR:=aG a0;have HK:=aG (aAI (B:=B) (e:=68) (g:=g) (cap:=cap) (w:=w) (by decide) a4);clear a5 a0 h a4 hu hgb hri hsz;have b0:(i:Int)=rows.length:=by omega
  subst hin;by_cases hcc:cap=rows.length
  .subst hcc
   go_enter Tryz.func177,Tryz.ntmps177;go_wp2_with(at_builtin;refine wpList_append_own_at _ rfl (.tmp 23) (.tmp 24) 22 rfl B 68 i0 (.agg #[.int .i64 0,.bool false,.slice none 0 0,.string ByteArray.empty]) 4 56 Tryz.underlying22 hi0 hz0 hz1 hz2 rfl (by decide) _ _ rows.flatten rfl HO.out ⟨gv,0,none⟩ 1 1 row rfl hrl HR.out h1 (by unfold maxLen;omega) (by omega) hB ?_);intro v' w1 hown1 hgrow _ hloc;have a1:=eX hown1;have H1:=dR hown1 hgrow hloc;clear hown1 hgrow hloc;go_wp2_with fail;go_ret;exact HK.out _ _ H1.out.1 H1.out.2.1 H1.out.2.2
  have b1:¬rows.length=cap:=λe=>hcc e.symm;go_enter Tryz.func177,Tryz.ntmps177;go_wp2_with(at_builtin;refine wpList_append_own_at _ rfl (.tmp 23) (.tmp 24) 22 rfl B 68 i0 (.agg #[.int .i64 0,.bool false,.slice none 0 0,.string ByteArray.empty]) 4 56 Tryz.underlying22 hi0 hz0 hz1 hz2 rfl (by decide) _ _ rows.flatten rfl HO.out ⟨gv,0,none⟩ 1 1 row rfl hrl HR.out h1 (by unfold maxLen;omega) (by omega) hB ?_);intro v' w1 hown1 hgrow _ hloc;have a1:=eX hown1;have H1:=dR hown1 hgrow hloc;clear hown1 hgrow hloc;go_wp2_with fail;go_ret;exact HK.out _ _ H1.out.1 H1.out.2.1 H1.out.2.2
 have a9:i<rows.length:=by omega
 have a7:gv≠g:=λe=>hne (by rw[e];rfl);have ig:=hgb.lt;have b9:¬((i:Int)=(rows.length:Int)):=by omega
 have c0:¬(cap=i):=by omega
 have b0:(i:Int)<rows.length:=by omega
 by_cases hroom:rows.length+1<=cap
 .have a8:arr.size≠0:=by rw[hsz];omega
  have b2:∀o lb cb,(callFunc 203 #[.slice (some ⟨gv,0,none⟩) 1 1,.slice (some ⟨g,o,none⟩) lb cb]).run Tryz.prog w=.ok (.value (.bool false)) w:=λo lb cb=>aTV w gv g o 1 1 lb cb row.toArray arr hgv hgb a7 a8;have a2:¬((cap:Int)<(rows.length:Int)+1):=by omega
  have c1:(i:Int)<=(rows.length:Int)+1:=by omega
  have c2:i<=rows.length+1:=by omega
  have b3:¬(cap=i+1):=by omega
  have b4:IntKind.i64.wrap ((i:Int)+1)=(i:Int)+1:=by rw[IntKind.wrap_i64];omega
  have b5:IntKind.i64.wrap ((rows.length:Int)+1)=(rows.length:Int)+1:=by rw[IntKind.wrap_i64];omega
  obtain⟨W1,hcp1,hcp2,hfin⟩:=tD T B hgb hgv a7 hsz hri hu h1r hrl h1 a9 hroom hcm hgB;have a3:=aG hfin;clear hfin h hgb hri hgv a0 a4 hu hsz T;go_enter Tryz.func177,Tryz.ntmps177;go_wp2_with(simp only[b2]);refine aC [8] true (λw'=>True) (by kernel_rfl) (by kernel_rfl) ?_ ?_
  .trivial
  repeat
   refine aH rfl rfl ?_;apply Exists.intro;refine⟨?_,?_⟩
   focus
    rintro w' -;go_simp
    first|done|rfl
   simp only[Act.put,sA,sZ,sS]
  refine fJ rfl rfl ?_;refine⟨_,_,gY rfl rfl rfl (hcp1 _),.inr ⟨rfl,rfl⟩,?_⟩;simp only[Act.put,sA,sZ,sS];refine aQ ?_;go_wp2_with(at_builtin;refine cU _ rfl _ _ 22 22 rfl _ _ rfl rfl (hcp2 _) ?_);go_ret;exact a3.out
 obtain rfl:cap=rows.length:=by omega
 obtain⟨G,Wa,Wb,Wc,hGn,hGm,hrz,hcpA,hcpB,hfin⟩:=tE T B hgb hgv a7 hsz hri hu h1r hrl h1 a9 rfl (by omega) hB;have a3:=aG hfin;have a2:(rows.length:Int)<(rows.length:Int)+1:=by omega
 have b4:IntKind.i64.wrap ((i:Int)+1)=(i:Int)+1:=by rw[IntKind.wrap_i64];omega
 have b5:IntKind.i64.wrap ((rows.length:Int)+1)=(rows.length:Int)+1:=by rw[IntKind.wrap_i64];omega
 have c3:¬(G=i):=by omega
 have b6:¬(G=i+1):=by omega
 have c4:¬(rows.length=i):=by omega
 have c5:i<=rows.length+1:=by omega
 have c6:i+1<=rows.length+1:=by omega
 have b7:(G:Int)<=9223372036854775807:=by unfold maxLen at hGm;omega
 clear hfin h hgb hri hgv a0 a4 hu hsz T;go_enter Tryz.func177,Tryz.ntmps177;go_wp2_with(first
  |(at_builtin;refine Lib.wpList_append_run _ rfl _ _ _ _ rfl _ _ rfl rfl _ _ (hrz _) ?_)
  |(at_builtin;refine cU _ rfl _ _ 22 22 rfl _ _ rfl rfl (hcpA _) ?_))
 refine aC [8] true (λw'=>True) (by kernel_rfl) (by kernel_rfl) ?_ ?_
 .trivial
 repeat
  refine aH rfl rfl ?_;apply Exists.intro;refine⟨?_,?_⟩
  focus
   rintro w' -;go_simp
   first|done|rfl
  simp only[Act.put,sA,sZ,sS]
 refine fJ rfl rfl ?_;refine⟨_,_,gY rfl rfl rfl (hcpB _),.inr ⟨rfl,rfl⟩,?_⟩;simp only[Act.put,sA,sZ,sS];refine aQ ?_;go_wp2_with fail;go_ret;exact a3.out
theorem aTW (w:World) (gv g o la ca lb cb:Nat) (A C:Array Value) (ha:Blk w gv A 95) (hb:Blk w g C 95) (hne:gv≠g) (hs:C.size≠0):
 (callFunc 205 #[.slice (some ⟨gv,0,none⟩) la ca,.slice (some ⟨g,o,none⟩) lb cb]).run Tryz.prog w=.ok (.value (.bool false)) w:=by
 have a0:w.shape? gv=some (95,A.size):=by unfold World.shape?;rw[show w.heap[gv]? =some (.cells A 95 (0,0))from ha]
 have a1:w.shape? g=some (95,C.size):=by unfold World.shape?;rw[show w.heap[g]? =some (.cells C 95 (0,0))from hb]
 rw[run_callFunc_extern Tryz.func205 (by kernel_rfl) (by kernel_rfl) (by kernel_rfl) (e:=Extern.SlicesOverlaps.overlaps #[23,23] #[4]) (by kernel_rfl),
  Lib.run_overlaps_apart w 23 4 95 Tryz.underlying23 3 (λw=>by kernel_rfl) ⟨gv,0,none⟩ ⟨g,o,none⟩ la ca lb cb hne 95 95 A.size C.size a0 a1 hs (ha.frozen 0) (ha.frozen _)]
 rfl
theorem aIY (B:Nat) (v:Value) (rows:List (List Value)) (i gv:Nat) (row:List Value) (w:World) (h:OwnP B w 95 3 v rows) (hu:∀cs∈rows,cs.length=3) (h1r:∀cs∈rows,∀u∈cs,u.oneCell'=true) (hi:i<=rows.length) (hn:rows.length<=1000000)
 (hgv:Blk w gv row.toArray 95) (hrl:row.length=3) (h1:∀u∈row,u.oneCell'=true) (hne:v.ownBlock≠some gv) (hB:B<=w.heap.size):
 Calls Tryz.prog 179 #[v,.int .i64 i,.slice (some ⟨gv,0,none⟩) 1 1] w λe w'=>∃v',e=.returned v'/\OwnP B w' 95 3 v' (rows.take i++row::rows.drop i)/\Keep (λk=>v.ownBlock=some k) w w'/\∀k,v'.ownBlock=some k->v.ownBlock=some k\/w.heap.size<=k:=by
 obtain⟨i0,hi0,hz0,hz1,hz2⟩:=info_parts xU;have T:InsT 23 95 3 24 (.agg #[.int .i64 0,.int .i64 0,.int .i64 0]) i0:=⟨Tryz.underlying23,hi0,hz0,hz1,hz2,rfl,by decide,by decide,by decide⟩;have a0:=aAG hgv;have a4:=aAH hu hrl;have b8:=hgv.lt;rcases h with⟨rfl,rfl⟩|⟨g,cap,arr,rfl,hgB,hgb,hnc,hcm,hsz,hri⟩
 .obtain rfl:i=0:=by simpa using hi
  have HR:=aG a0;clear a0 hu a4 h1r hi hn;go_enter Tryz.func179,Tryz.ntmps179;go_wp2_with(at_builtin;refine wpList_append_own_at _ rfl (.tmp 23) (.tmp 24) 23 rfl B 95 i0 (.agg #[.int .i64 0,.int .i64 0,.int .i64 0]) 3 24 Tryz.underlying23 hi0 hz0 hz1 hz2 rfl (by decide) (.slice none 0 0) 0 [] rfl (World.ownsRow_nil w B 95 3) ⟨gv,0,none⟩ 1 1 row rfl hrl HR.out h1 (by unfold maxLen;omega) (by omega) hB ?_);intro v' w1 hown1 hgrow _ hloc;have a1:=eX hown1;have H1:=dR hown1 hgrow hloc;clear hown1 hgrow hloc;go_wp2_with fail;go_ret;refine⟨v',rfl,OwnP.of_own (rows:=[row]) (by simpa using H1.out.1) (by decide) (λcs h=>by rw[List.mem_singleton.1 h];exact hrl),(Keep.refl _ w).grown H1.out.2.1 (λk hk=>.inl hk),λk hk=>?_⟩;rcases H1.out.2.2 with h|h
  .rw[h]at hk;exact .inl hk
  rw[h]at hk;right;simp at hk;omega
 have h:OwnP B w 95 3 (.slice (some ⟨g,0,none⟩) rows.length cap) rows:=.inr ⟨g,cap,arr,rfl,hgB,hgb,hnc,hcm,hsz,hri⟩;have a6:=hcm;unfold maxLen at a6;by_cases hin:i=rows.length
 .have a5:=h.own (by decide) hu;have HO:=aG a5;have HR:=aG a0;have HK:=aG (aAI (B:=B) (e:=95) (g:=g) (cap:=cap) (w:=w) (by decide) a4);clear a5 a0 h a4 hu hgb hri hsz;have b0:(i:Int)=rows.length:=by omega
  subst hin;by_cases hcc:cap=rows.length
  .subst hcc
   go_enter Tryz.func179,Tryz.ntmps179;go_wp2_with(at_builtin;refine wpList_append_own_at _ rfl (.tmp 23) (.tmp 24) 23 rfl B 95 i0 (.agg #[.int .i64 0,.int .i64 0,.int .i64 0]) 3 24 Tryz.underlying23 hi0 hz0 hz1 hz2 rfl (by decide) _ _ rows.flatten rfl HO.out ⟨gv,0,none⟩ 1 1 row rfl hrl HR.out h1 (by unfold maxLen;omega) (by omega) hB ?_);intro v' w1 hown1 hgrow _ hloc;have a1:=eX hown1;have H1:=dR hown1 hgrow hloc;clear hown1 hgrow hloc;go_wp2_with fail;go_ret;exact HK.out _ _ H1.out.1 H1.out.2.1 H1.out.2.2
  have b1:¬rows.length=cap:=λe=>hcc e.symm;go_enter Tryz.func179,Tryz.ntmps179;go_wp2_with(at_builtin;refine wpList_append_own_at _ rfl (.tmp 23) (.tmp 24) 23 rfl B 95 i0 (.agg #[.int .i64 0,.int .i64 0,.int .i64 0]) 3 24 Tryz.underlying23 hi0 hz0 hz1 hz2 rfl (by decide) _ _ rows.flatten rfl HO.out ⟨gv,0,none⟩ 1 1 row rfl hrl HR.out h1 (by unfold maxLen;omega) (by omega) hB ?_);intro v' w1 hown1 hgrow _ hloc;have a1:=eX hown1;have H1:=dR hown1 hgrow hloc;clear hown1 hgrow hloc;go_wp2_with fail;go_ret;exact HK.out _ _ H1.out.1 H1.out.2.1 H1.out.2.2
 have a9:i<rows.length:=by omega
 have a7:gv≠g:=λe=>hne (by rw[e];rfl);have ig:=hgb.lt;have b9:¬((i:Int)=(rows.length:Int)):=by omega
 have c0:¬(cap=i):=by omega
 have b0:(i:Int)<rows.length:=by omega
 by_cases hroom:rows.length+1<=cap
 .have a8:arr.size≠0:=by rw[hsz];omega
  have b2:∀o lb cb,(callFunc 205 #[.slice (some ⟨gv,0,none⟩) 1 1,.slice (some ⟨g,o,none⟩) lb cb]).run Tryz.prog w=.ok (.value (.bool false)) w:=λo lb cb=>aTW w gv g o 1 1 lb cb row.toArray arr hgv hgb a7 a8;have a2:¬((cap:Int)<(rows.length:Int)+1):=by omega
  have c1:(i:Int)<=(rows.length:Int)+1:=by omega
  have c2:i<=rows.length+1:=by omega
  have b3:¬(cap=i+1):=by omega
  have b4:IntKind.i64.wrap ((i:Int)+1)=(i:Int)+1:=by rw[IntKind.wrap_i64];omega
  have b5:IntKind.i64.wrap ((rows.length:Int)+1)=(rows.length:Int)+1:=by rw[IntKind.wrap_i64];omega
  obtain⟨W1,hcp1,hcp2,hfin⟩:=tD T B hgb hgv a7 hsz hri hu h1r hrl h1 a9 hroom hcm hgB;have a3:=aG hfin;clear hfin h hgb hri hgv a0 a4 hu hsz T;go_enter Tryz.func179,Tryz.ntmps179;go_wp2_with(simp only[b2]);refine aC [8] true (λw'=>True) (by kernel_rfl) (by kernel_rfl) ?_ ?_
  .trivial
  repeat
   refine aH rfl rfl ?_;apply Exists.intro;refine⟨?_,?_⟩
   focus
    rintro w' -;go_simp
    first|done|rfl
   simp only[Act.put,sA,sZ,sS]
  refine fJ rfl rfl ?_;refine⟨_,_,gY rfl rfl rfl (hcp1 _),.inr ⟨rfl,rfl⟩,?_⟩;simp only[Act.put,sA,sZ,sS];refine aQ ?_;go_wp2_with(at_builtin;refine cU _ rfl _ _ 23 23 rfl _ _ rfl rfl (hcp2 _) ?_);go_ret;exact a3.out
 obtain rfl:cap=rows.length:=by omega
 obtain⟨G,Wa,Wb,Wc,hGn,hGm,hrz,hcpA,hcpB,hfin⟩:=tE T B hgb hgv a7 hsz hri hu h1r hrl h1 a9 rfl (by omega) hB;have a3:=aG hfin;have a2:(rows.length:Int)<(rows.length:Int)+1:=by omega
 have b4:IntKind.i64.wrap ((i:Int)+1)=(i:Int)+1:=by rw[IntKind.wrap_i64];omega
 have b5:IntKind.i64.wrap ((rows.length:Int)+1)=(rows.length:Int)+1:=by rw[IntKind.wrap_i64];omega
 have c3:¬(G=i):=by omega
 have b6:¬(G=i+1):=by omega
 have c4:¬(rows.length=i):=by omega
 have c5:i<=rows.length+1:=by omega
 have c6:i+1<=rows.length+1:=by omega
 have b7:(G:Int)<=9223372036854775807:=by unfold maxLen at hGm;omega
 clear hfin h hgb hri hgv a0 a4 hu hsz T;go_enter Tryz.func179,Tryz.ntmps179;go_wp2_with(first
  |(at_builtin;refine Lib.wpList_append_run _ rfl _ _ _ _ rfl _ _ rfl rfl _ _ (hrz _) ?_)
  |(at_builtin;refine cU _ rfl _ _ 23 23 rfl _ _ rfl rfl (hcpA _) ?_))
 refine aC [8] true (λw'=>True) (by kernel_rfl) (by kernel_rfl) ?_ ?_
 .trivial
 repeat
  refine aH rfl rfl ?_;apply Exists.intro;refine⟨?_,?_⟩
  focus
   rintro w' -;go_simp
   first|done|rfl
  simp only[Act.put,sA,sZ,sS]
 refine fJ rfl rfl ?_;refine⟨_,_,gY rfl rfl rfl (hcpB _),.inr ⟨rfl,rfl⟩,?_⟩;simp only[Act.put,sA,sZ,sS];refine aQ ?_;go_wp2_with fail;go_ret;exact a3.out
end
end Go.Proofs.YtmkapobnfigedaaGreatDoor
