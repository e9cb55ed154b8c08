/- A part of a proof of a law. Conditions: none. -/
import Derived.Test.YtmkapobnfigedaaGreatDoorDp04
import Derived.Lib.AppendZerosOnto
set_option linter.unusedVariables false
set_option linter.unusedSimpArgs false
set_option maxRecDepth 100000
set_option maxHeartbeats 40000000
namespace Go.Proofs.YtmkapobnfigedaaGreatDoor
open Go.Proofs.Tryz List Go.RowKit
section
section
variable {sl e m bytes:Nat} {z:Value} {i0:TypeInfo}
theorem aSE (T:InsT sl e m bytes z i0) (B:Nat) {rows:List (List Value)} {row:List Value} {i g cap gv:Nat} {arr:Array Value} {w:World} (hgb:Blk w g arr e) (hgv:Blk w gv row.toArray e) (hgn:gv≠g) (hsz:arr.size=cap*m) (hri:RowsIn arr m rows) (hu:∀cs∈rows,cs.length=m) (h1r:∀cs∈rows,∀u∈cs,u.oneCell'=true) (hrl:row.length=m) (h1:∀u∈row,u.oneCell'=true) (hlt:i<rows.length) (hroom:rows.length+1<=cap) (hcm:cap<=maxLen) (hgB:B<=g):
 ∃W1,(∀ty,(Builtin.copy_ #[sl,sl] ty #[.slice (some ⟨g,(i+1)*m,none⟩) (rows.length-i) (cap-(i+1)),.slice (some ⟨g,i*m,none⟩) (rows.length+1-i) (cap-i)]).run prog w.drew=.ok (goInt (Nat.min (rows.length+1-i) (rows.length-i))) W1)/\(∀ty,(Builtin.copy_ #[sl,sl] ty #[.slice (some ⟨g,i*m,none⟩) (rows.length+1-i) (cap-i),.slice gv 1 1]).run prog W1=.ok (goInt (Nat.min 1 (rows.length+1-i))) (W1.setCells g (i*m) row))/\∃v',Ending.returned (.slice g (rows.length+1) cap)=.returned v'/\OwnP B (W1.setCells g (i*m) row) e m v' (rows.take i++row::rows.drop i)/\Keep (λk=>(Value.slice g rows.length cap).ownBlock=some k) w (W1.setCells g (i*m) row)/\∀k,v'.ownBlock=some k->(Value.slice g rows.length cap).ownBlock=some k\/w.heap.size<=k:=by
 have a5:=eU m rows hu;have a6:∀cs∈[rows.flatten],∀u∈cs,u.oneCell'=true:=λcs hc u hm=>by rw[mem_singleton.1 hc]at hm;obtain⟨cs',h1',h2'⟩:=mem_flatten.1 hm;exact h1r cs' h1' u h2'
 have hi:i<=rows.length:=by omega
 have ig:=hgb.lt;have b0:=hgv.lt;have M1:(i+1)*m=i*m+m:=Nat.succ_mul i m;have M2:i*m+m<=rows.length*m:=by rw[<-M1];exact Nat.mul_le_mul_right m hlt
 have M4:(rows.length-i)*m=rows.length*m-i*m:=Nat.sub_mul _ _ _;have M8:(rows.length+1)*m=rows.length*m+m:=Nat.succ_mul _ m;have M5:(rows.length+1-i)*m=rows.length*m+m-i*m:=by rw[Nat.sub_mul,M8]
 have b1:=T.hk;have M3:rows.length*m+m<=cap*m:=by rw[<-M8];exact Nat.mul_le_mul_right m hroom
 obtain⟨W1,hW1⟩:∃W1,W1=w.drew.setCells g ((i+1)*m) (rows.flatten.drop (i*m)):=⟨_,rfl⟩;have a0:(rows.flatten.drop (i*m)).length=(rows.length-i)*m:=by rw[yK,a5,Nat.sub_mul]
 have a3:=hri.flat hu;obtain⟨c1,e1,e2,e3,e4⟩:=Blk.setCells_at g e (rows.flatten.drop (i*m)) ((i+1)*m) w.drew arr hgb.drew (by rw[a0,hsz];omega);rw[<-hW1]at e1;obtain⟨c2,f1,f2,f3,f4⟩:=Blk.setCells_at g e row (i*m) W1 c1 e1 (by rw[hrl,e2,hsz];omega);have a4:Keep (λk=>k=g) w.drew W1:=by rw[hW1];exact Keep.setCells (S:=λk=>k=g) rfl _ _ (Keep.refl _ _)
 have a7:Blk W1 gv row.toArray e:=a4.blk hgv.drew hgn;have a1:∀ty,(Builtin.copy_ #[sl,sl] ty #[.slice (some ⟨g,(i+1)*m,none⟩) (rows.length-i) (cap-(i+1)),.slice (some ⟨g,i*m,none⟩) (rows.length+1-i) (cap-i)]).run prog w.drew=.ok (goInt (Nat.min (rows.length+1-i) (rows.length-i))) W1:=λty=>by
  rw[hW1];refine nQ w.drew sl sl ty e g ((i+1)*m) (rows.length-i) (cap-(i+1)) ⟨g,i*m,none⟩ (rows.length+1-i) (cap-i) m (rows.flatten.drop (i*m)) T.ht (by rw[T.hi];simp[T.h1]) (by rw[a0];simp only[Nat.min_def];split<;>omega) ?_ ?_ ?_ (λv hv=>a6 _ (mem_singleton.2 rfl) v (mem_of_mem_drop hv))
  .intro j v hj;rw[Addr.add_lit];show w.drew.cell? ⟨g,i*m+j,none⟩=some v;rw[hgb.drew.cell];rw[yN]at hj;obtain⟨hjl,_⟩:=gI.1 hj;rw[a3 _ (by omega)];exact hj
  .intro j hj;rw[hgb.drew.cell,yA (by rw[a0]at hj;rw[hsz];omega)];rfl
  intro j hj;exact hgb.drew.frozen _
 have a2:∀ty,(Builtin.copy_ #[sl,sl] ty #[.slice (some ⟨g,i*m,none⟩) (rows.length+1-i) (cap-i),.slice gv 1 1]).run prog W1=.ok (goInt (Nat.min 1 (rows.length+1-i))) (W1.setCells g (i*m) row):=λty=>by
  refine nQ W1 sl sl ty e g (i*m) (rows.length+1-i) (cap-i) ⟨gv,0,none⟩ 1 1 m row T.ht (by rw[T.hi];simp[T.h1]) (by rw[hrl];simp only[Nat.min_def];split<;>omega) ?_ ?_ ?_ h1
  .intro j v hj;rw[Addr.add_lit];show W1.cell? ⟨gv,0+j,none⟩=some v;rw[a7.cell,zM];simpa using hj
  .intro j hj;rw[e1.cell,yA (by rw[e2,hsz];omega)];rfl
  intro j hj;exact e1.frozen _
 refine⟨W1,a1,a2,?_⟩;refine⟨_,rfl,.inr ⟨g,cap,c2,?_,hgB,f1,?_,hcm,by rw[f2,e2,hsz],?_⟩,?_,λk hk=>.inl hk⟩
 .rw[lP,zU,zK,yK,show min i rows.length+(rows.length-i+1)=rows.length+1 by omega]
 .rw[lP,zU,zK,yK];omega
 .refine hri.insert hu hrl hi (λj hj=>?_) (λt ht=>?_) (λj hj1 hj2=>?_)
  .rw[f3 j (.inl hj),e3 j (.inl (by omega))]
  .exact f4 t (by omega)
  rw[f3 (j+m) (.inr (by omega)),show j+m=(i+1)*m+(j-i*m) by omega,e4 (j-i*m) (by omega),yN,show i*m+(j-i*m)=j by omega,<-a3 j hj2]
 have a8:Keep (λk=>k=g) w.drew (W1.setCells g (i*m) row):=Keep.setCells (S:=λk=>k=g) rfl _ _ a4;have a9:Keep (λk=>k=g) w (W1.setCells g (i*m) row):=(show Keep (λk=>k=g) w w.drew from(Keep.refl _ w).drew).trans a8 (λ_ _ h=>h);exact a9.mono (λk _ h=>by rw[h];rfl)
theorem aSF (T:InsT sl e m bytes z i0) (B:Nat) {rows:List (List Value)} {row:List Value} {i g cap gv:Nat} {arr:Array Value} {w:World} (hgb:Blk w g arr e) (hgv:Blk w gv row.toArray e) (hgn:gv≠g) (hsz:arr.size=cap*m) (hri:RowsIn arr m rows) (hu:∀cs∈rows,cs.length=m) (h1r:∀cs∈rows,∀u∈cs,u.oneCell'=true) (hrl:row.length=m) (h1:∀u∈row,u.oneCell'=true) (hlt:i<rows.length) (hcap:cap=rows.length) (hcm:cap<=1000000000000) (hB:B<=w.heap.size):
 ∃(G:Nat) (Wa Wb Wc:World),rows.length+1<=G/\G<=maxLen/\(∀ty,(Builtin.append_ #[sl,3] ty #[.slice g i rows.length,.int .i64 ((rows.length:Int)+1-(i:Int))]).run prog w=.ok (.slice w.heap.size (rows.length+1) G) Wa)/\(∀ty,(Builtin.copy_ #[sl,sl] ty #[.slice (some ⟨w.heap.size,i*m,none⟩) (rows.length+1-i) (G-i),.slice gv 1 1]).run prog Wa=.ok (goInt (Nat.min 1 (rows.length+1-i))) Wb)/\(∀ty,(Builtin.copy_ #[sl,sl] ty #[.slice (some ⟨w.heap.size,(i+1)*m,none⟩) (rows.length-i) (G-(i+1)),.slice (some ⟨g,i*m,none⟩) (rows.length-i) (rows.length-i)]).run prog Wb.drew=.ok (goInt (Nat.min (rows.length-i) (rows.length-i))) Wc)/\∃v',Ending.returned (.slice w.heap.size (rows.length+1) G)=.returned v'/\OwnP B Wc e m v' (rows.take i++row::rows.drop i)/\Keep (λk=>(Value.slice g rows.length rows.length).ownBlock=some k) w Wc/\∀k,v'.ownBlock=some k->(Value.slice g rows.length rows.length).ownBlock=some k\/w.heap.size<=k:=by
 subst hcap;have a8:=eU m rows hu;have b4:∀cs∈[rows.flatten],∀u∈cs,u.oneCell'=true:=λcs hc u hm=>by rw[mem_singleton.1 hc]at hm;obtain⟨cs',h1',h2'⟩:=mem_flatten.1 hm;exact h1r cs' h1' u h2'
 have hi:i<=rows.length:=by omega
 have ig:=hgb.lt;have b5:=hgv.lt;have M1:(i+1)*m=i*m+m:=Nat.succ_mul i m;have M2:i*m+m<=rows.length*m:=by rw[<-M1];exact Nat.mul_le_mul_right m hlt
 have M4:(rows.length-i)*m=rows.length*m-i*m:=Nat.sub_mul _ _ _;have M8:(rows.length+1)*m=rows.length*m+m:=Nat.succ_mul _ m;have M5:(rows.length+1-i)*m=rows.length*m+m-i*m:=by rw[Nat.sub_mul,M8]
 have c0:=T.hk;have a1:=hri.flat hu;obtain⟨G,hG⟩:∃G,G=grownCap w (rows.length+1) rows.length e:=⟨_,rfl⟩;obtain⟨ROW,hROW⟩:∃ROW:Array Value,ROW=(rows.flatten.take (i*m)).toArray++Builtin.zeroCells (z:Value).cells (rows.length+1-i)++Builtin.zeroCells (z:Value).cells (G-(rows.length+1)):=⟨_,rfl⟩;have a9:rows.length+1<=G:=by rw[hG];exact grownCap_ge w _ _ _
 have b0:G<=maxLen:=by rw[hG];exact grownCap_le_maxLen w (rows.length+1) rows.length e (by unfold maxLen;omega)
 have M7:rows.length*m+m<=G*m:=by rw[<-M8];exact Nat.mul_le_mul_right m a9
 have M6:(G-(rows.length+1))*m=G*m-(rows.length*m+m):=by rw[Nat.sub_mul,M8]
 have N1:(rows.length+1-i)*bytes<=(rows.length+1-i)*100:=Nat.mul_le_mul_left _ T.hb;have N2:(rows.length+1)*bytes<=(rows.length+1)*100:=Nat.mul_le_mul_left _ T.hb;have a2:(rows.flatten.take (i*m)).length=i*m:=by rw[zU,a8];omega
 have a0:ROW.size=G*m:=by rw[hROW];simp only[Array.size_append,size_toArray,a2,size_zeroCells,T.hc];omega
 obtain⟨Wa,hWa⟩:∃Wa,Wa=w.drew.alloc (.cells ROW e):=⟨_,rfl⟩;have ha:Blk Wa w.heap.size ROW e:=by rw[hWa];exact Blk.new w.drew _ _
 have b6:(rows.length:Int)+1-(i:Int)=((rows.length+1-i:Nat):Int):=by omega
 have b1:i+(rows.length+1-i)=rows.length+1:=by omega
 have a3:(Builtin.firstCells i0.size i (.slice g i rows.length)).run prog w.drew=.ok (rows.flatten.take (i*m)).toArray w.drew:=by
  rw[T.h1];refine run_firstCells_some w.drew m i ⟨g,0,none⟩ i rows.length (rows.flatten.take (i*m)) a2 (λj u hj=>?_);rw[Addr.add_lit];show w.drew.cell? ⟨g,0+j,none⟩=some u;rw[hgb.drew.cell,zM];rw[yO]at hj;split at hj
  .rw[a1 j (by omega)];exact hj
  cases hj
 have b7:∀ty,(Builtin.append_ #[sl,3] ty #[.slice g i rows.length,.int .i64 ((rows.length:Int)+1-(i:Int))]).run prog w=.ok (.slice w.heap.size (rows.length+1) G) Wa:=λty=>by have h:=Lib.run_append_grow_zeros w sl 3 ty e i0 _ .i64 .i64 T.ht underlying3 T.hi T.hz (some ⟨g,0,none⟩) i rows.length (rows.flatten.take (i*m)) a3 (rows.length+1-i) (by omega) (by rw[T.h1];exact T.hk) (by omega) (by omega) (by rw[T.h2];omega) (by rw[T.h2,b1];exact growslice_fits (by omega) (by omega));rw[b1]at h;rw[b6,hWa,hROW,hG];exact h
 obtain⟨c2,f1,f2,f3,f4⟩:=Blk.setCells_at w.heap.size e row (i*m) Wa ROW ha (by rw[hrl,a0];omega);obtain⟨Wb,hWb⟩:∃Wb,Wb=Wa.setCells w.heap.size (i*m) row:=⟨_,rfl⟩;rw[<-hWb]at f1;have a4:(rows.flatten.drop (i*m)).length=(rows.length-i)*m:=by rw[yK,a8,Nat.sub_mul]
 obtain⟨c3,g1,g2,g3,g4⟩:=Blk.setCells_at w.heap.size e (rows.flatten.drop (i*m)) ((i+1)*m) Wb.drew c2 f1.drew (by rw[a4,f2,a0];omega);obtain⟨Wc,hWc⟩:∃Wc,Wc=Wb.drew.setCells w.heap.size ((i+1)*m) (rows.flatten.drop (i*m)):=⟨_,rfl⟩;rw[<-hWc]at g1;have b2:Keep (λk=>k=w.heap.size) w Wa:=by rw[hWa];exact(Keep.refl _ w).drew.alloc _
 have b3:Keep (λk=>k=w.heap.size) w Wb:=by rw[hWb];exact Keep.setCells (S:=λk=>k=w.heap.size) rfl _ _ b2
 have b8:Keep (λk=>k=w.heap.size) w Wc:=by rw[hWc];exact Keep.setCells (S:=λk=>k=w.heap.size) rfl _ _ b3.drew
 have b9:Blk Wa gv row.toArray e:=b2.blk hgv (by have:=b5.lt;omega);have a5:Blk Wb.drew g arr e:=(b3.blk hgb (by have:=ig.lt;omega)).drew;have a6:∀ty,(Builtin.copy_ #[sl,sl] ty #[.slice (some ⟨w.heap.size,i*m,none⟩) (rows.length+1-i) (G-i),.slice gv 1 1]).run prog Wa=.ok (goInt (Nat.min 1 (rows.length+1-i))) Wb:=λty=>by
  rw[hWb];refine nQ Wa sl sl ty e w.heap.size (i*m) (rows.length+1-i) (G-i) ⟨gv,0,none⟩ 1 1 m row T.ht (by rw[T.hi];simp[T.h1]) (by rw[hrl];simp only[Nat.min_def];split<;>omega) ?_ ?_ ?_ h1
  .intro j v hj;rw[Addr.add_lit];show Wa.cell? ⟨gv,0+j,none⟩=some v;rw[b9.cell,zM];simpa using hj
  .intro j hj;rw[ha.cell,yA (by rw[a0];omega)];rfl
  intro j hj;exact ha.frozen _
 have a7:∀ty,(Builtin.copy_ #[sl,sl] ty #[.slice (some ⟨w.heap.size,(i+1)*m,none⟩) (rows.length-i) (G-(i+1)),.slice (some ⟨g,i*m,none⟩) (rows.length-i) (rows.length-i)]).run prog Wb.drew=.ok (goInt (Nat.min (rows.length-i) (rows.length-i))) Wc:=λty=>by
  rw[hWc];refine nQ Wb.drew sl sl ty e w.heap.size ((i+1)*m) (rows.length-i) (G-(i+1)) ⟨g,i*m,none⟩ (rows.length-i) (rows.length-i) m (rows.flatten.drop (i*m)) T.ht (by rw[T.hi];simp[T.h1]) (by rw[a4];simp only[Nat.min_def];split<;>omega) ?_ ?_ ?_ (λv hv=>b4 _ (mem_singleton.2 rfl) v (mem_of_mem_drop hv))
  .intro j v hj;rw[Addr.add_lit];show Wb.drew.cell? ⟨g,i*m+j,none⟩=some v;rw[a5.cell];rw[yN]at hj;obtain⟨hjl,_⟩:=gI.1 hj;rw[a1 _ (by omega)];exact hj
  .intro j hj;rw[f1.drew.cell,yA (by rw[a4]at hj;rw[f2,a0];omega)];rfl
  intro j hj;exact f1.drew.frozen _
 refine⟨G,Wa,Wb,Wc,a9,b0,b7,a6,a7,?_⟩;refine⟨_,rfl,.inr ⟨w.heap.size,G,c3,?_,hB,g1,?_,b0,by rw[g2,f2,a0],?_⟩,b8.mono (λk hk h=>by omega),λk hk=>.inr (by simp[Value.ownBlock]at hk;omega)⟩
 .rw[lP,zU,zK,yK,show min i rows.length+(rows.length-i+1)=rows.length+1 by omega]
 .rw[lP,zU,zK,yK];omega
 refine hri.insert hu hrl hi (λj hj=>?_) (λt ht=>?_) (λj hj1 hj2=>?_)
 .rw[g3 j (.inl (by omega)),f3 j (.inl hj),hROW,Array.append_assoc,Array.getElem?_append_left (by simpa[a2]using hj),yD,yO,zB hj,a1 j (by omega)]
 .rw[g3 _ (.inl (by omega))];exact f4 t (by omega)
 rw[show j+m=(i+1)*m+(j-i*m) by omega,g4 (j-i*m) (by omega),yN,show i*m+(j-i*m)=j by omega,<-a1 j hj2]
end
theorem aVY {e gv:Nat} {row:List Value} {w:World} (hgv:Blk w gv row.toArray e):∀j u,row[j]? =some u->w.cell? ((⟨gv,0,none⟩:Addr).add j)=some u:=λj u hj=>by rw[Addr.add_lit];show w.cell? ⟨gv,0+j,none⟩=_;rw[hgv.cell,zM];simpa using hj
theorem aVZ {m:Nat} {rows:List (List Value)} {row:List Value} (hu:∀cs∈rows,cs.length=m) (hrl:row.length=m):∀cs∈rows++[row],cs.length=m:=λcs hc=>by
 rcases mem_append.1 hc with h|h
 .exact hu cs h
 rw[mem_singleton.1 h];exact hrl
def aSG (B e m g cap:Nat) (rows:List (List Value)) (row:List Value) (w:World):Prop:=∀(v':Value) (w1:World),w1.ownsRow B e m v' (rows.length+1) (rows.flatten++row)->w.grownBy w1 (some g)->(v'.ownBlock=some g\/v'.ownBlock=some w.heap.size)->∃v'',Ending.returned v'=.returned v''/\OwnP B w1 e m v'' (rows.take rows.length++row::rows.drop rows.length)/\Keep (λk=>(Value.slice g rows.length cap).ownBlock=some k) w w1/\∀k,v''.ownBlock=some k->(Value.slice g rows.length cap).ownBlock=some k\/w.heap.size<=k
theorem aWA {B e m g cap:Nat} {rows:List (List Value)} {row:List Value} {w:World} (hm:0<m) (hu':∀cs∈rows++[row],cs.length=m):aSG B e m g cap rows row w:=by
 have HF:∀(v':Value) (w1:World),w1.ownsRow B e m v' (rows.length+1) (rows.flatten++row)->OwnP B w1 e m v' (rows.take rows.length++row::rows.drop rows.length):=λv' w1 ho=>by rw[take_length,drop_length];exact OwnP.of_own (by rw[lP,length_singleton,flatten_append];simpa using ho) hm hu'
 intro v' w1 ho hg hl;refine⟨v',rfl,HF v' w1 ho,(Keep.refl _ w).grown hg (λk hk=>.inl hk),λk hk=>?_⟩;rcases hl with h|h
 .exact .inl (by rw[h]at hk;exact hk)
 rw[h]at hk;right;simp at hk;omega
theorem bAN (w:World) (gv g o la ca lb cb:Nat) (A C:Array Value) (ha:Blk w gv A 97) (hb:Blk w g C 97) (hne:gv≠g) (hs:C.size≠0):
 (callFunc 212 #[.slice gv la ca,.slice (some ⟨g,o,none⟩) lb cb]).run prog w=.ok (.value (.bool false)) w:=by
 have a0:w.shape? gv=some (97,A.size):=by unfold World.shape?;rw[show w.heap[gv]? =some (.cells A 97 (0,0))from ha]
 have a1:w.shape? g=some (97,C.size):=by unfold World.shape?;rw[show w.heap[g]? =some (.cells C 97 (0,0))from hb]
 rw[run_callFunc_extern func212 (by kernel_rfl) (by kernel_rfl) (by kernel_rfl) (e:=Extern.SlicesOverlaps.overlaps #[66,66] #[4]) (by kernel_rfl),
  Lib.run_overlaps_apart w 66 4 97 underlying66 2 (λw=>by kernel_rfl) ⟨gv,0,none⟩ ⟨g,o,none⟩ la ca lb cb hne 97 97 A.size C.size a0 a1 hs (ha.frozen 0) (ha.frozen _)]
 rfl
theorem bAO (w:World) (gv g o la ca lb cb:Nat) (A C:Array Value) (ha:Blk w gv A 68) (hb:Blk w g C 68) (hne:gv≠g) (hs:C.size≠0):
 (callFunc 203 #[.slice gv la ca,.slice (some ⟨g,o,none⟩) lb cb]).run prog w=.ok (.value (.bool false)) w:=by
 have a0:w.shape? gv=some (68,A.size):=by unfold World.shape?;rw[show w.heap[gv]? =some (.cells A 68 (0,0))from ha]
 have a1:w.shape? g=some (68,C.size):=by unfold World.shape?;rw[show w.heap[g]? =some (.cells C 68 (0,0))from hb]
 rw[run_callFunc_extern func203 (by kernel_rfl) (by kernel_rfl) (by kernel_rfl) (e:=Extern.SlicesOverlaps.overlaps #[22,22] #[4]) (by kernel_rfl),
  Lib.run_overlaps_apart w 22 4 68 underlying22 4 (λw=>by kernel_rfl) ⟨gv,0,none⟩ ⟨g,o,none⟩ la ca lb cb hne 68 68 A.size C.size a0 a1 hs (ha.frozen 0) (ha.frozen _)]
 rfl
theorem bAP (w:World) (gv g o la ca lb cb:Nat) (A C:Array Value) (ha:Blk w gv A 95) (hb:Blk w g C 95) (hne:gv≠g) (hs:C.size≠0):
 (callFunc 205 #[.slice gv la ca,.slice (some ⟨g,o,none⟩) lb cb]).run prog w=.ok (.value (.bool false)) w:=by
 have a0:w.shape? gv=some (95,A.size):=by unfold World.shape?;rw[show w.heap[gv]? =some (.cells A 95 (0,0))from ha]
 have a1:w.shape? g=some (95,C.size):=by unfold World.shape?;rw[show w.heap[g]? =some (.cells C 95 (0,0))from hb]
 rw[run_callFunc_extern func205 (by kernel_rfl) (by kernel_rfl) (by kernel_rfl) (e:=Extern.SlicesOverlaps.overlaps #[23,23] #[4]) (by kernel_rfl),
  Lib.run_overlaps_apart w 23 4 95 underlying23 3 (λw=>by kernel_rfl) ⟨gv,0,none⟩ ⟨g,o,none⟩ la ca lb cb hne 95 95 A.size C.size a0 a1 hs (ha.frozen 0) (ha.frozen _)]
 rfl
theorem aSH {sl e m bytes:Nat} {z:Value} {i0:TypeInfo} (T:InsT sl e m bytes z i0) {B g cap:Nat} {rows:List (List Value)} {row:List Value} {w:World} (hu':∀cs∈rows++[row],cs.length=m):aSG B e m g cap rows row w:=aWA (B:=B) (e:=e) (g:=g) (cap:=cap) (w:=w) T.hk hu'
def aNZ (n e m:Nat):Prop:=∀(B:Nat) (v:Value) (rows:List (List Value)) (i gv:Nat) (row:List Value) (w:World),OwnP B w e m v rows->(∀cs∈rows,cs.length=m)->(∀cs∈rows,∀u∈cs,u.oneCell'=true)->i<=rows.length->rows.length<=1000000->Blk w gv row.toArray e->row.length=m->(∀u∈row,u.oneCell'=true)->v.ownBlock≠some gv->B<=w.heap.size->
 Calls prog n #[v,.int .i64 i,.slice gv 1 1] w λx w'=>∃v',x=.returned v'/\OwnP B w' e m v' (rows.take i++row::rows.drop i)/\Keep (λk=>v.ownBlock=some k) w w'/\∀k,v'.ownBlock=some k->v.ownBlock=some k\/w.heap.size<=k
theorem aEL:aNZ 202 97 2/\aNZ 177 68 4/\aNZ 179 95 3:=by
 obtain⟨i1,hi1,hz1,hs1,hb1⟩:=info_parts aDU;obtain⟨i2,hi2,hz2,hs2,hb2⟩:=info_parts wL;obtain⟨i3,b1,hz3,hs3,b0⟩:=info_parts aDV;refine⟨have T:InsT 66 97 2 24 (.agg #[ByteArray.empty,.int .i64 0]) i1:=⟨underlying66,hi1,hz1,hs1,hb1,rfl,by decide,by decide,by decide⟩;have ov:=bAN;?_,have T:InsT 22 68 4 56 (.agg #[.int .i64 0,false,.slice none 0 0,ByteArray.empty]) i2:=⟨underlying22,hi2,hz2,hs2,hb2,rfl,by decide,by decide,by decide⟩;have ov:=bAO;?_,have T:InsT 23 95 3 24 (.agg #[.int .i64 0,.int .i64 0,.int .i64 0]) i3:=⟨underlying23,b1,hz3,hs3,b0,rfl,by decide,by decide,by decide⟩;have ov:=bAP;?_⟩
 all_goals
  intro B v rows i gv row w h hu h1r hi hn hgv hrl h1 hne hB;have a0:=aVY hgv;have a4:=aVZ hu hrl;have c0:=hgv.lt;have h0:=h;rcases h with⟨rfl,rfl⟩|⟨g,cap,arr,rfl,hgB,hgb,hnc,hcm,hsz,hri⟩
  .obtain rfl:i=0:=by simpa using hi
   have HR:=aC a0;clear a0 hu a4 h1r hi hn h0
   go_in
   go_wp2_with(at_builtin;refine wpList_append_own_at _ rfl (.tmp 23) (.tmp 24) _ rfl B _ _ _ _ _ T.ht T.hi T.hz T.h1 T.h2 T.hc T.hk (.slice none 0 0) 0 [] rfl (World.ownsRow_nil w B _ _) ⟨gv,0,none⟩ 1 1 row rfl hrl HR.out h1 (by unfold maxLen;omega) (by omega) hB ?_);intro v' w1 hown1 hgrow _ hloc;have a1:=pT hown1;have H1:=eH hown1 hgrow hloc;clear hown1 hgrow hloc;go_wp2;go_ret;refine⟨v',rfl,OwnP.of_own (rows:=[row]) (by simpa using H1.out.1) T.hk (λcs h=>by rw[mem_singleton.1 h];exact hrl),(Keep.refl _ w).grown H1.out.2.1 (λk hk=>.inl hk),λk hk=>?_⟩;rcases H1.out.2.2 with h|h
   .rw[h]at hk;exact .inl hk
   rw[h]at hk;right;simp at hk;omega
  have h:=h0;clear h0;have a6:=hcm;unfold maxLen at a6;by_cases hin:i=rows.length
  .have a5:=h.own T.hk hu;have HO:=aC a5;have HR:=aC a0;have HK:=aC (aSH T (B:=B) (g:=g) (cap:=cap) (w:=w) a4);clear a5 a0 h a4 hu hgb hri hsz;have b2:(i:Int)=rows.length:=by omega
   subst hin;by_cases hcc:cap=rows.length
   .subst hcc
    go_in
    go_wp2_with(at_builtin;refine wpList_append_own_at _ rfl (.tmp 23) (.tmp 24) _ rfl B _ _ _ _ _ T.ht T.hi T.hz T.h1 T.h2 T.hc T.hk _ _ rows.flatten rfl HO.out ⟨gv,0,none⟩ 1 1 row rfl hrl HR.out h1 (by unfold maxLen;omega) (by omega) hB ?_);intro v' w1 hown1 hgrow _ hloc;have a1:=pT hown1;have H1:=eH hown1 hgrow hloc;clear hown1 hgrow hloc;go_wp2;go_ret;exact HK.out _ _ H1.out.1 H1.out.2.1 H1.out.2.2
   have b3:¬rows.length=cap:=λe=>hcc e.symm
   go_in
   go_wp2_with(at_builtin;refine wpList_append_own_at _ rfl (.tmp 23) (.tmp 24) _ rfl B _ _ _ _ _ T.ht T.hi T.hz T.h1 T.h2 T.hc T.hk _ _ rows.flatten rfl HO.out ⟨gv,0,none⟩ 1 1 row rfl hrl HR.out h1 (by unfold maxLen;omega) (by omega) hB ?_);intro v' w1 hown1 hgrow _ hloc;have a1:=pT hown1;have H1:=eH hown1 hgrow hloc;clear hown1 hgrow hloc;go_wp2;go_ret;exact HK.out _ _ H1.out.1 H1.out.2.1 H1.out.2.2
  have a9:i<rows.length:=by omega
  have a7:gv≠g:=λe=>hne (by rw[e];rfl);have ig:=hgb.lt;have c1:¬((i:Int)=(rows.length:Int)):=by omega
  have c2:¬(cap=i):=by omega
  have b2:(i:Int)<rows.length:=by omega
  by_cases hroom:rows.length+1<=cap
  .have a8:arr.size≠0:=by rw[hsz];omega
   have b4:=λo lb cb=>ov w gv g o 1 1 lb cb row.toArray arr hgv hgb a7 a8;have a2:¬((cap:Int)<(rows.length:Int)+1):=by omega
   have b0:(i:Int)<=(rows.length:Int)+1:=by omega
   have c3:i<=rows.length+1:=by omega
   have b5:¬(cap=i+1):=by omega
   have b6:IntKind.i64.wrap ((i:Int)+1)=(i:Int)+1:=by rw[IntKind.wrap_i64];omega
   have b7:IntKind.i64.wrap ((rows.length:Int)+1)=(rows.length:Int)+1:=by rw[IntKind.wrap_i64];omega
   obtain⟨W1,hcp1,hcp2,hfin⟩:=aSE T B hgb hgv a7 hsz hri hu h1r hrl h1 a9 hroom hcm hgB;have a3:=aC hfin;clear hfin h hgb hri hgv a0 a4 hu hsz T ov
   go_in
   go_wp2_with(simp only[b4]);refine aH [8] true (λw'=>True) (by kernel_rfl) (by kernel_rfl) ?_ ?_
   .trivial
   repeat
    apply aI0 rfl rfl
    focus
     rintro w' -;go_simp
     first|done|rfl
    simp only[Act.put,sA,sZ,sS]
   refine nS rfl rfl ?_;refine⟨_,_,aCB rfl rfl rfl (hcp1 _),.inr ⟨rfl,rfl⟩,?_⟩;simp only[Act.put,sA,sZ,sS];refine aU ?_;go_wp2_with(at_builtin;refine mV _ rfl _ _ _ _ rfl _ _ rfl rfl (hcp2 _) ?_);go_ret;exact a3.out
  obtain rfl:cap=rows.length:=by omega
  obtain⟨G,Wa,Wb,Wc,hGn,hGm,hrz,hcpA,hcpB,hfin⟩:=aSF T B hgb hgv a7 hsz hri hu h1r hrl h1 a9 rfl (by omega) hB;have a3:=aC hfin;have a2:(rows.length:Int)<(rows.length:Int)+1:=by omega
  have b6:IntKind.i64.wrap ((i:Int)+1)=(i:Int)+1:=by rw[IntKind.wrap_i64];omega
  have b7:IntKind.i64.wrap ((rows.length:Int)+1)=(rows.length:Int)+1:=by rw[IntKind.wrap_i64];omega
  have c4:¬(G=i):=by omega
  have b8:¬(G=i+1):=by omega
  have c5:¬(rows.length=i):=by omega
  have b1:i<=rows.length+1:=by omega
  have c6:i+1<=rows.length+1:=by omega
  have b9:(G:Int)<=9223372036854775807:=by unfold maxLen at hGm;omega
  clear hfin h hgb hri hgv a0 a4 hu hsz T ov
  go_in
  go_wp2_with(first
   |(at_builtin;refine Lib.wpList_append_run _ rfl _ _ _ _ rfl _ _ rfl rfl _ _ (hrz _) ?_)
   |(at_builtin;refine mV _ rfl _ _ _ _ rfl _ _ rfl rfl (hcpA _) ?_))
  refine aH [8] true (λw'=>True) (by kernel_rfl) (by kernel_rfl) ?_ ?_
  .trivial
  repeat
   apply aI0 rfl rfl
   focus
    rintro w' -;go_simp
    first|done|rfl
   simp only[Act.put,sA,sZ,sS]
  refine nS rfl rfl ?_;refine⟨_,_,aCB rfl rfl rfl (hcpB _),.inr ⟨rfl,rfl⟩,?_⟩;simp only[Act.put,sA,sZ,sS];refine aU ?_;go_wp2;go_ret;exact a3.out
theorem aOA:aNZ 202 97 2:=aEL.1
theorem aOB:aNZ 177 68 4:=aEL.2.1
theorem aOC:aNZ 179 95 3:=aEL.2.2
end
end Go.Proofs.YtmkapobnfigedaaGreatDoor
