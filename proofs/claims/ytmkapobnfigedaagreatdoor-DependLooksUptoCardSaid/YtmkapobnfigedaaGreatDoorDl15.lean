/- Part of the proof of a law of chapter 15. Conditions: none. -/
import Derived.Test.YtmkapobnfigedaaGreatDoorDl14
set_option linter.unusedVariables false
set_option linter.unusedSimpArgs false
set_option maxRecDepth 100000
set_option maxHeartbeats 8000000
namespace Go.Proofs.YtmkapobnfigedaaGreatDoor
open Go.RowKit
section
theorem oO (k:Nat) (rows:List (List Value)) (i:Nat) (hu:∀cs∈rows,cs.length=k):rows.flatten=(rows.take i).flatten++(rows.drop i).flatten:=by rw[<-List.flatten_append,List.take_append_drop]
theorem RowsIn.erase {arr arr':Array Value} {k i:Nat} {rows:List (List Value)} (h:RowsIn arr k rows) (hu:∀cs∈rows,cs.length=k) (hi:i<rows.length)
 (h1:∀j,j<i*k->arr'[j]? =arr[j]?) (h3:∀j,i*k<=j->j<(rows.length-1)*k->arr'[j]? =arr[j+k]?):RowsIn arr' k (rows.take i++rows.drop (i+1)):=by
 intro q cs hq t u hu';have a0:∀a b:Nat,a<b->a*k+k<=b*k:=λa b hab=>by have:=Nat.mul_le_mul_right k (show a+1<=b from hab);rw[Nat.add_mul]at this;omega
 have a1:(rows.take i).length=i:=by rw[zU];omega
 by_cases hqi:q<i
 .rw[zZ (by omega),yO,zB hqi]at hq;have a2:t<k:=by
   have:=hu cs (mG hq);obtain⟨h,_⟩:=gI.1 hu';omega
  have:=a0 q i hqi;rw[h1 _ (by omega)];exact h q cs hq t u hu'
 rw[yC (by omega),a1,yN,show i+1+(q-i)=q+1 by omega]at hq;obtain⟨hql,_⟩:=gI.1 hq;have a2:t<k:=by have:=hu cs (mG hq);obtain⟨h,_⟩:=gI.1 hu';omega
 have g1:i*k<=q*k:=Nat.mul_le_mul_right _ (by omega);have g2:=a0 q (rows.length-1) (by omega);rw[h3 _ (by omega) (by omega)];have e:q*k+t+k=(q+1)*k+t:=by rw[Nat.add_mul];omega
 rw[e];exact h (q+1) cs hq t u hu'
variable {P:Program}
theorem mM {o:Oper} {a:Act} {w:World} {d s:Operand} {t t':TypeId}
 (ho:o.op=.call { callee:=.builtin .append,args:=#[d,s],argTypes:=#[t,t']}) {v u:Value} (hd:a.eval d=v) (hs:a.eval s=u) {v':Value} {w':World}
 (hr:(Builtin.append_ #[t,t'] o.type #[v,u]).run P w=.ok v' w'):(execOp a.eval o).run P w=.ok (.value v') w':=by
 unfold execOp;simp only[ho,resolve,invoke,builtin,Sem.run_bind,Sem.run_pure,Result.andThen_ok,List.map_toArray,yZ,List.map_nil,hd,hs,hr]
theorem fG (w:World) (t e ty:TypeId) (z:Value) (ht:P.underlying t=some (.slice e)) (hv:∀w,(zeroValue e).run P w=.ok z w) (h1:∀v∈z.cells,v.oneCell'=true) (b o n c:Nat) (hn:0<n)
 (hc:∀j,j<(Builtin.zeroCells z.cells n).toList.length->(w.cell? ⟨b,o+j,none⟩).isSome=true) (hf:∀j,j<(Builtin.zeroCells z.cells n).toList.length->w.frozen? ⟨b,o+j,none⟩=false):
 (Builtin.clear_ #[t] ty #[.slice (some ⟨b,o,none⟩) n c]).run P w=.ok (.tuple #[]) (w.setCells b o (Builtin.zeroCells z.cells n).toList):=by
 have hz:∀v∈(Builtin.zeroCells z.cells n).toList,v.oneCell'=true:=by
  intro v hv';simp only[Builtin.zeroCells]at hv';obtain⟨i,hi,rfl⟩:=List.mem_iff_getElem.1 hv';simp at hi;have a0:0<z.cells.size:=by
   rcases Nat.eq_zero_or_pos z.cells.size with h|h
   .rw[h]at hi;simp at hi
   exact h
  have a1:=Nat.mod_lt i a0;simp only[Array.getElem_toList,Array.getElem_map,Array.getElem_range];rw[getElem!_pos z.cells _ a1];exact h1 _ (Array.getElem_mem a1)
 have a2:=run_storeCells_cells (P:=P) b o (Builtin.zeroCells z.cells n).toList 0 w (by simpa using hc) (by simpa using hf) hz;simp only[zN]at a2;obtain⟨m,rfl⟩:∃m,n=m+1:=⟨n-1,by omega⟩;simp[Builtin.clear_,run_underlying ht,hv,a2]
theorem aPR (w:World):(zeroValue 97).run Tryz.prog w=.ok (.agg #[.string { data:=#[]},.int .i64 0]) w:=by kernel_rfl
theorem aIK (B:Nat) (g cap:Nat) (rows:List (List Value)) (i:Nat) (w:World) (h:OwnP B w 97 2 (.slice (some ⟨g,0,none⟩) rows.length cap) rows) (hu:∀cs∈rows,cs.length=2) (h1r:∀cs∈rows,∀u∈cs,u.oneCell'=true) (hi:i<rows.length) (hn:rows.length<=1000000000):
 Calls Tryz.prog 207 #[.slice (some ⟨g,0,none⟩) rows.length cap,.int .i64 i,.int .i64 ((i:Int)+1)] w λe w'=>e=.returned (.slice (some ⟨g,0,none⟩) (rows.length-1) cap)/\OwnP B w' 97 2 (.slice (some ⟨g,0,none⟩) (rows.length-1) cap) (rows.take i++rows.drop (i+1))/\Keep (λk=>k=g) w w':=by
 obtain⟨i0,hi0,hz0,hz1,hz2⟩:=info_parts xT;obtain⟨hgB,arr,hgb,hnc,hcm,hsz,hri⟩:B<=g/\∃arr,Blk w g arr 97/\rows.length<=cap/\cap<=maxLen/\arr.size=cap*2/\RowsIn arr 2 rows:=by
  rcases h with⟨h0,_⟩|⟨g',cap',arr,h0,a1,a2,a3,a4,a5,a6⟩
  .simp at h0
  simp only[zO,zF,yG]at h0;obtain⟨⟨rfl,-,-⟩,-,rfl⟩:=h0;exact⟨a1,arr,a2,a3,a4,a5,a6⟩
 have c4:=hcm;unfold maxLen at c4;have iG:=hgb.lt;have a8:=hri.flat hu;obtain⟨news,hnews⟩:∃news,(rows.drop (i+1)).flatten=news:=⟨_,rfl⟩;have c3:news.length=(rows.length-(i+1))*2:=by rw[<-hnews,bO 2 _ (λcs hc=>hu cs (List.mem_of_mem_drop hc)),yK]
 have c5:∀u∈news,u.oneCell'=true:=λu hu'=>by rw[<-hnews]at hu';obtain⟨cs,hc,hx⟩:=List.mem_flatten.1 hu';exact h1r cs (List.mem_of_mem_drop hc) u hx
 have b0:∀j u,news[j]? =some u->arr[(i+1)*2+j]? =some u:=λj u hj=>by
  have d4:j<news.length:=by obtain⟨h,_⟩:=gI.1 hj;exact h
  rw[a8 _ (by omega)];have e:=oO 2 rows (i+1) hu;rw[e,yC (by rw[bO 2 _ (λcs hc=>hu cs (List.mem_of_mem_take hc)),zU];omega),hnews];rw[bO 2 _ (λcs hc=>hu cs (List.mem_of_mem_take hc)),zU];rw[show (i+1)*2+j-min (i+1) rows.length*2=j by omega];exact hj
 have c9:∀j u,news[j]? =some u->w.drew.cell? ((⟨g,0+(i+1)*2,none⟩:Addr).add j)=some u:=λj u hj=>by rw[Addr.add_lit];show w.cell? ⟨g,0+(i+1)*2+j,none⟩=_;rw[hgb.cell,zM];exact b0 j u hj
 have a0:∀c2 ty,(Builtin.append_ #[66,66] ty #[.slice (some ⟨g,0,none⟩) i cap,.slice (if cap=i+1 then some ⟨g,0,none⟩else some ⟨g,(i+1)*2,none⟩) (rows.length-(i+1)) c2]).run Tryz.prog w.drew=.ok (.slice (some ⟨g,0,none⟩) (i+(rows.length-(i+1))) cap) (w.drew.setCells g (0+i*2) news):=λc2 ty=>by
  have d0:∀j,j<news.length->(w.drew.cell? ⟨g,0+i*i0.size+j,none⟩).isSome=true:=λj hj=>by rw[hz1];show(w.cell? ⟨g,_,none⟩).isSome=true;rw[hgb.cell];simp;omega
  by_cases hcc:cap=i+1
  .rw[zB hcc];have c6:news=[]:=zT (by rw[c3,show rows.length-(i+1)=0 by omega,Nat.zero_mul]);have:=run_append_room_cells (P:=Tryz.prog) (w:=w.drew) 66 ty 97 i0 Tryz.underlying66 hi0 g 0 i cap ⟨g,0,none⟩ (rows.length-(i+1)) c2 news (by rw[c3,hz1]) (λj u hj=>by rw[c6]at hj;simp at hj) c5 (by omega) d0 (λj hj=>hgb.frozen _);rw[hz1]at this;exact this
  rw[zA hcc];have:=run_append_room_cells (P:=Tryz.prog) (w:=w.drew) 66 ty 97 i0 Tryz.underlying66 hi0 g 0 i cap ⟨g,(i+1)*2,none⟩ (rows.length-(i+1)) c2 news (by rw[c3,hz1]) (λj u hj=>by have:=c9 j u hj;rw[zM]at this;exact this) c5 (by omega) d0 (λj hj=>hgb.frozen _);rw[hz1]at this;exact this
 obtain⟨arr2,hb2,hs2,hout,hin⟩:=Blk.setCells_at g 97 news (0+i*2) w.drew arr hgb.drew (by omega);have c7:Keep (λk=>k=g) w (w.drew.setCells g (0+i*2) news):=Keep.setCells (S:=λk=>k=g) rfl news _ ((Keep.refl _ w).drew);obtain⟨w2,hw2⟩:∃w2,w.drew.setCells g (0+i*2) news=w2:=⟨_,rfl⟩;simp only[hw2]at a0 hb2 c7;obtain⟨zs,hzs⟩:∃zs,(Builtin.zeroCells (.agg #[.string { data:=#[]},.int .i64 0]:Value).cells 1).toList=zs:=⟨_,rfl⟩;have d1:zs.length=2:=by rw[<-hzs];kernel_rfl
 have a7:∀c2 ty,(Builtin.clear_ #[66] ty #[.slice (some ⟨g,0+(rows.length-1)*2,none⟩) (rows.length-(rows.length-1)) c2]).run Tryz.prog w2=.ok (.tuple #[]) (w2.setCells g (0+(rows.length-1)*2) zs):=λc2 ty=>by rw[show rows.length-(rows.length-1)=1 by omega,<-hzs];refine fG w2 66 97 ty (.agg #[.string { data:=#[]},.int .i64 0]) Tryz.underlying66 aPR (by decide) g (0+(rows.length-1)*2) 1 c2 (by omega) (λj hj=>?_) (λj hj=>hb2.frozen _);rw[hzs,d1]at hj;rw[hb2.cell];simp;omega
 obtain⟨arr3,hb3,hs3,hout3,hin3⟩:=Blk.setCells_at g 97 zs (0+(rows.length-1)*2) w2 arr2 hb2 (by omega);have c8:Keep (λk=>k=g) w (w2.setCells g (0+(rows.length-1)*2) zs):=Keep.setCells (S:=λk=>k=g) rfl zs _ c7;obtain⟨w3,hw3⟩:∃w3,w2.setCells g (0+(rows.length-1)*2) zs=w3:=⟨_,rfl⟩;simp only[hw3]at a7 hb3 c8;have a9:RowsIn arr3 2 (rows.take i++rows.drop (i+1)):=by
  refine hri.erase hu hi (λj hj=>?_) (λj hj hj2=>?_)
  .rw[hout3 j (by omega),hout j (by omega)]
  rw[hout3 j (by omega)];have:=hin (j-i*2) (by omega);rw[show 0+i*2+(j-i*2)=j by omega]at this;rw[this];obtain⟨u,hu2⟩:∃u,news[j-i*2]? =some u:=⟨_,gE (by omega)⟩;rw[hu2,<-b0 _ _ hu2];congr 1;omega
 have b9:(rows.take i++rows.drop (i+1)).length=rows.length-1:=by rw[lP,zU,yK];omega
 have c0:OwnP B w3 97 2 (.slice (some ⟨g,0,none⟩) (rows.length-1) cap) (rows.take i++rows.drop (i+1)):=.inr ⟨g,cap,arr3,by rw[b9],hgB,hb3,by omega,hcm,by omega,a9⟩;have HF:=bB c0 c8;have d5:=hb2.lt;have d2:i+(rows.length-(i+1))=rows.length-1:=by omega
 rw[d2]at a0;simp only[zM]at a0 a7;have c1:=bB a0 a7;have b1:(i:Int)+1<=rows.length:=by omega
 have b2:(i:Int)<rows.length:=by omega
 have b3:(i:Int)<=cap:=by omega
 have b4:i<=cap:=by omega
 have b5:i+1<=rows.length:=by omega
 have d6:(rows.length:Int)<=cap:=by omega
 clear hri a8 b0 c9 a0 a7 hout hin hout3 hin3 a9 c0 c7 c8 h1r hu hnews c3 c5 hzs d1 b9;go_enter Tryz.func207,Tryz.ntmps207;go_upto_region 5 with fail;refine aC [6] false (λw'=>True) (by kernel_rfl) (by kernel_rfl) trivial ?_
 repeat
  refine aH rfl rfl ?_;apply Exists.intro;refine⟨?_,?_⟩
  focus
   rintro w' _;go_simp
   first|done|rfl
  simp only[Act.put,sA,sZ,sS]
 refine fJ rfl rfl ?_;refine⟨_,_,mM rfl rfl rfl (c1.out.1 _ _),.inl trivial,?_⟩;simp only[Act.put,sA,sZ,sS]
 repeat
  refine aH rfl rfl ?_;apply Exists.intro;refine⟨?_,?_⟩
  focus
   rintro w' _;go_simp
   first|done|rfl
  simp only[Act.put,sA,sZ,sS]
 refine aQ ?_;generalize(if cap=i+1 then(some ⟨g,0,none⟩:Option Addr)else some ⟨g,(i+1)*2,none⟩)=xa;have d3:=c1.out.2;have b6:rows.length-1<=rows.length:=by omega
 have b7:((rows.length-1:Nat):Int)<=rows.length:=by omega
 have b8:rows.length<=cap:=hnc;go_wp2_with fail;go_ret;exact⟨rfl,HF.out.1,HF.out.2⟩
theorem aPS (w:World):(zeroValue 95).run Tryz.prog w=.ok (.agg #[.int .i64 0,.int .i64 0,.int .i64 0]) w:=by kernel_rfl
theorem aLV (B:Nat) (g cap:Nat) (rows:List (List Value)) (i:Nat) (w:World) (h:OwnP B w 95 3 (.slice (some ⟨g,0,none⟩) rows.length cap) rows) (hu:∀cs∈rows,cs.length=3) (h1r:∀cs∈rows,∀u∈cs,u.oneCell'=true) (hi:i<rows.length) (hn:rows.length<=1000000000):
 Calls Tryz.prog 144 #[.slice (some ⟨g,0,none⟩) rows.length cap,.int .i64 i,.int .i64 ((i:Int)+1)] w λe w'=>e=.returned (.slice (some ⟨g,0,none⟩) (rows.length-1) cap)/\OwnP B w' 95 3 (.slice (some ⟨g,0,none⟩) (rows.length-1) cap) (rows.take i++rows.drop (i+1))/\Keep (λk=>k=g) w w':=by
 obtain⟨i0,hi0,hz0,hz1,hz2⟩:=info_parts xU;obtain⟨hgB,arr,hgb,hnc,hcm,hsz,hri⟩:B<=g/\∃arr,Blk w g arr 95/\rows.length<=cap/\cap<=maxLen/\arr.size=cap*3/\RowsIn arr 3 rows:=by
  rcases h with⟨h0,_⟩|⟨g',cap',arr,h0,a1,a2,a3,a4,a5,a6⟩
  .simp at h0
  simp only[zO,zF,yG]at h0;obtain⟨⟨rfl,-,-⟩,-,rfl⟩:=h0;exact⟨a1,arr,a2,a3,a4,a5,a6⟩
 have c4:=hcm;unfold maxLen at c4;have iG:=hgb.lt;have a8:=hri.flat hu;obtain⟨news,hnews⟩:∃news,(rows.drop (i+1)).flatten=news:=⟨_,rfl⟩;have c3:news.length=(rows.length-(i+1))*3:=by rw[<-hnews,bO 3 _ (λcs hc=>hu cs (List.mem_of_mem_drop hc)),yK]
 have c5:∀u∈news,u.oneCell'=true:=λu hu'=>by rw[<-hnews]at hu';obtain⟨cs,hc,hx⟩:=List.mem_flatten.1 hu';exact h1r cs (List.mem_of_mem_drop hc) u hx
 have b0:∀j u,news[j]? =some u->arr[(i+1)*3+j]? =some u:=λj u hj=>by
  have d4:j<news.length:=by obtain⟨h,_⟩:=gI.1 hj;exact h
  rw[a8 _ (by omega)];have e:=oO 3 rows (i+1) hu;rw[e,yC (by rw[bO 3 _ (λcs hc=>hu cs (List.mem_of_mem_take hc)),zU];omega),hnews];rw[bO 3 _ (λcs hc=>hu cs (List.mem_of_mem_take hc)),zU];rw[show (i+1)*3+j-min (i+1) rows.length*3=j by omega];exact hj
 have c9:∀j u,news[j]? =some u->w.drew.cell? ((⟨g,0+(i+1)*3,none⟩:Addr).add j)=some u:=λj u hj=>by rw[Addr.add_lit];show w.cell? ⟨g,0+(i+1)*3+j,none⟩=_;rw[hgb.cell,zM];exact b0 j u hj
 have a0:∀c2 ty,(Builtin.append_ #[23,23] ty #[.slice (some ⟨g,0,none⟩) i cap,.slice (if cap=i+1 then some ⟨g,0,none⟩else some ⟨g,(i+1)*3,none⟩) (rows.length-(i+1)) c2]).run Tryz.prog w.drew=.ok (.slice (some ⟨g,0,none⟩) (i+(rows.length-(i+1))) cap) (w.drew.setCells g (0+i*3) news):=λc2 ty=>by
  have d0:∀j,j<news.length->(w.drew.cell? ⟨g,0+i*i0.size+j,none⟩).isSome=true:=λj hj=>by rw[hz1];show(w.cell? ⟨g,_,none⟩).isSome=true;rw[hgb.cell];simp;omega
  by_cases hcc:cap=i+1
  .rw[zB hcc];have c6:news=[]:=zT (by rw[c3,show rows.length-(i+1)=0 by omega,Nat.zero_mul]);have:=run_append_room_cells (P:=Tryz.prog) (w:=w.drew) 23 ty 95 i0 Tryz.underlying23 hi0 g 0 i cap ⟨g,0,none⟩ (rows.length-(i+1)) c2 news (by rw[c3,hz1]) (λj u hj=>by rw[c6]at hj;simp at hj) c5 (by omega) d0 (λj hj=>hgb.frozen _);rw[hz1]at this;exact this
  rw[zA hcc];have:=run_append_room_cells (P:=Tryz.prog) (w:=w.drew) 23 ty 95 i0 Tryz.underlying23 hi0 g 0 i cap ⟨g,(i+1)*3,none⟩ (rows.length-(i+1)) c2 news (by rw[c3,hz1]) (λj u hj=>by have:=c9 j u hj;rw[zM]at this;exact this) c5 (by omega) d0 (λj hj=>hgb.frozen _);rw[hz1]at this;exact this
 obtain⟨arr2,hb2,hs2,hout,hin⟩:=Blk.setCells_at g 95 news (0+i*3) w.drew arr hgb.drew (by omega);have c7:Keep (λk=>k=g) w (w.drew.setCells g (0+i*3) news):=Keep.setCells (S:=λk=>k=g) rfl news _ ((Keep.refl _ w).drew);obtain⟨w2,hw2⟩:∃w2,w.drew.setCells g (0+i*3) news=w2:=⟨_,rfl⟩;simp only[hw2]at a0 hb2 c7;obtain⟨zs,hzs⟩:∃zs,(Builtin.zeroCells (.agg #[.int .i64 0,.int .i64 0,.int .i64 0]:Value).cells 1).toList=zs:=⟨_,rfl⟩;have d1:zs.length=3:=by rw[<-hzs];kernel_rfl
 have a7:∀c2 ty,(Builtin.clear_ #[23] ty #[.slice (some ⟨g,0+(rows.length-1)*3,none⟩) (rows.length-(rows.length-1)) c2]).run Tryz.prog w2=.ok (.tuple #[]) (w2.setCells g (0+(rows.length-1)*3) zs):=λc2 ty=>by rw[show rows.length-(rows.length-1)=1 by omega,<-hzs];refine fG w2 23 95 ty (.agg #[.int .i64 0,.int .i64 0,.int .i64 0]) Tryz.underlying23 aPS (by decide) g (0+(rows.length-1)*3) 1 c2 (by omega) (λj hj=>?_) (λj hj=>hb2.frozen _);rw[hzs,d1]at hj;rw[hb2.cell];simp;omega
 obtain⟨arr3,hb3,hs3,hout3,hin3⟩:=Blk.setCells_at g 95 zs (0+(rows.length-1)*3) w2 arr2 hb2 (by omega);have c8:Keep (λk=>k=g) w (w2.setCells g (0+(rows.length-1)*3) zs):=Keep.setCells (S:=λk=>k=g) rfl zs _ c7;obtain⟨w3,hw3⟩:∃w3,w2.setCells g (0+(rows.length-1)*3) zs=w3:=⟨_,rfl⟩;simp only[hw3]at a7 hb3 c8;have a9:RowsIn arr3 3 (rows.take i++rows.drop (i+1)):=by
  refine hri.erase hu hi (λj hj=>?_) (λj hj hj2=>?_)
  .rw[hout3 j (by omega),hout j (by omega)]
  rw[hout3 j (by omega)];have:=hin (j-i*3) (by omega);rw[show 0+i*3+(j-i*3)=j by omega]at this;rw[this];obtain⟨u,hu2⟩:∃u,news[j-i*3]? =some u:=⟨_,gE (by omega)⟩;rw[hu2,<-b0 _ _ hu2];congr 1;omega
 have b9:(rows.take i++rows.drop (i+1)).length=rows.length-1:=by rw[lP,zU,yK];omega
 have c0:OwnP B w3 95 3 (.slice (some ⟨g,0,none⟩) (rows.length-1) cap) (rows.take i++rows.drop (i+1)):=.inr ⟨g,cap,arr3,by rw[b9],hgB,hb3,by omega,hcm,by omega,a9⟩;have HF:=bB c0 c8;have d5:=hb2.lt;have d2:i+(rows.length-(i+1))=rows.length-1:=by omega
 rw[d2]at a0;simp only[zM]at a0 a7;have c1:=bB a0 a7;have b1:(i:Int)+1<=rows.length:=by omega
 have b2:(i:Int)<rows.length:=by omega
 have b3:(i:Int)<=cap:=by omega
 have b4:i<=cap:=by omega
 have b5:i+1<=rows.length:=by omega
 have d6:(rows.length:Int)<=cap:=by omega
 clear hri a8 b0 c9 a0 a7 hout hin hout3 hin3 a9 c0 c7 c8 h1r hu hnews c3 c5 hzs d1 b9;go_enter Tryz.func144,Tryz.ntmps144;go_upto_region 5 with fail;refine aC [6] false (λw'=>True) (by kernel_rfl) (by kernel_rfl) trivial ?_
 repeat
  refine aH rfl rfl ?_;apply Exists.intro;refine⟨?_,?_⟩
  focus
   rintro w' _;go_simp
   first|done|rfl
  simp only[Act.put,sA,sZ,sS]
 refine fJ rfl rfl ?_;refine⟨_,_,mM rfl rfl rfl (c1.out.1 _ _),.inl trivial,?_⟩;simp only[Act.put,sA,sZ,sS]
 repeat
  refine aH rfl rfl ?_;apply Exists.intro;refine⟨?_,?_⟩
  focus
   rintro w' _;go_simp
   first|done|rfl
  simp only[Act.put,sA,sZ,sS]
 refine aQ ?_;generalize(if cap=i+1 then(some ⟨g,0,none⟩:Option Addr)else some ⟨g,(i+1)*3,none⟩)=xa;have d3:=c1.out.2;have b6:rows.length-1<=rows.length:=by omega
 have b7:((rows.length-1:Nat):Int)<=rows.length:=by omega
 have b8:rows.length<=cap:=hnc;go_wp2_with fail;go_ret;exact⟨rfl,HF.out.1,HF.out.2⟩
theorem aPT (w:World):(zeroValue 68).run Tryz.prog w=.ok (.agg #[.int .i64 0,.bool false,.slice none 0 0,.string { data:=#[]}]) w:=by kernel_rfl
theorem vP (B:Nat) (g cap:Nat) (rows:List (List Value)) (i:Nat) (w:World) (h:OwnP B w 68 4 (.slice (some ⟨g,0,none⟩) rows.length cap) rows) (hu:∀cs∈rows,cs.length=4) (h1r:∀cs∈rows,∀u∈cs,u.oneCell'=true) (hi:i<rows.length) (hn:rows.length<=1000000000):
 Calls Tryz.prog 182 #[.slice (some ⟨g,0,none⟩) rows.length cap,.int .i64 i,.int .i64 ((i:Int)+1)] w λe w'=>e=.returned (.slice (some ⟨g,0,none⟩) (rows.length-1) cap)/\OwnP B w' 68 4 (.slice (some ⟨g,0,none⟩) (rows.length-1) cap) (rows.take i++rows.drop (i+1))/\Keep (λk=>k=g) w w':=by
 obtain⟨i0,hi0,hz0,hz1,hz2⟩:=info_parts xS;obtain⟨hgB,arr,hgb,hnc,hcm,hsz,hri⟩:B<=g/\∃arr,Blk w g arr 68/\rows.length<=cap/\cap<=maxLen/\arr.size=cap*4/\RowsIn arr 4 rows:=by
  rcases h with⟨h0,_⟩|⟨g',cap',arr,h0,a1,a2,a3,a4,a5,a6⟩
  .simp at h0
  simp only[zO,zF,yG]at h0;obtain⟨⟨rfl,-,-⟩,-,rfl⟩:=h0;exact⟨a1,arr,a2,a3,a4,a5,a6⟩
 have c4:=hcm;unfold maxLen at c4;have iG:=hgb.lt;have a8:=hri.flat hu;obtain⟨news,hnews⟩:∃news,(rows.drop (i+1)).flatten=news:=⟨_,rfl⟩;have c3:news.length=(rows.length-(i+1))*4:=by rw[<-hnews,bO 4 _ (λcs hc=>hu cs (List.mem_of_mem_drop hc)),yK]
 have c5:∀u∈news,u.oneCell'=true:=λu hu'=>by rw[<-hnews]at hu';obtain⟨cs,hc,hx⟩:=List.mem_flatten.1 hu';exact h1r cs (List.mem_of_mem_drop hc) u hx
 have b0:∀j u,news[j]? =some u->arr[(i+1)*4+j]? =some u:=λj u hj=>by
  have d4:j<news.length:=by obtain⟨h,_⟩:=gI.1 hj;exact h
  rw[a8 _ (by omega)];have e:=oO 4 rows (i+1) hu;rw[e,yC (by rw[bO 4 _ (λcs hc=>hu cs (List.mem_of_mem_take hc)),zU];omega),hnews];rw[bO 4 _ (λcs hc=>hu cs (List.mem_of_mem_take hc)),zU];rw[show (i+1)*4+j-min (i+1) rows.length*4=j by omega];exact hj
 have c9:∀j u,news[j]? =some u->w.drew.cell? ((⟨g,0+(i+1)*4,none⟩:Addr).add j)=some u:=λj u hj=>by rw[Addr.add_lit];show w.cell? ⟨g,0+(i+1)*4+j,none⟩=_;rw[hgb.cell,zM];exact b0 j u hj
 have a0:∀c2 ty,(Builtin.append_ #[22,22] ty #[.slice (some ⟨g,0,none⟩) i cap,.slice (if cap=i+1 then some ⟨g,0,none⟩else some ⟨g,(i+1)*4,none⟩) (rows.length-(i+1)) c2]).run Tryz.prog w.drew=.ok (.slice (some ⟨g,0,none⟩) (i+(rows.length-(i+1))) cap) (w.drew.setCells g (0+i*4) news):=λc2 ty=>by
  have d0:∀j,j<news.length->(w.drew.cell? ⟨g,0+i*i0.size+j,none⟩).isSome=true:=λj hj=>by rw[hz1];show(w.cell? ⟨g,_,none⟩).isSome=true;rw[hgb.cell];simp;omega
  by_cases hcc:cap=i+1
  .rw[zB hcc];have c6:news=[]:=zT (by rw[c3,show rows.length-(i+1)=0 by omega,Nat.zero_mul]);have:=run_append_room_cells (P:=Tryz.prog) (w:=w.drew) 22 ty 68 i0 Tryz.underlying22 hi0 g 0 i cap ⟨g,0,none⟩ (rows.length-(i+1)) c2 news (by rw[c3,hz1]) (λj u hj=>by rw[c6]at hj;simp at hj) c5 (by omega) d0 (λj hj=>hgb.frozen _);rw[hz1]at this;exact this
  rw[zA hcc];have:=run_append_room_cells (P:=Tryz.prog) (w:=w.drew) 22 ty 68 i0 Tryz.underlying22 hi0 g 0 i cap ⟨g,(i+1)*4,none⟩ (rows.length-(i+1)) c2 news (by rw[c3,hz1]) (λj u hj=>by have:=c9 j u hj;rw[zM]at this;exact this) c5 (by omega) d0 (λj hj=>hgb.frozen _);rw[hz1]at this;exact this
 obtain⟨arr2,hb2,hs2,hout,hin⟩:=Blk.setCells_at g 68 news (0+i*4) w.drew arr hgb.drew (by omega);have c7:Keep (λk=>k=g) w (w.drew.setCells g (0+i*4) news):=Keep.setCells (S:=λk=>k=g) rfl news _ ((Keep.refl _ w).drew);obtain⟨w2,hw2⟩:∃w2,w.drew.setCells g (0+i*4) news=w2:=⟨_,rfl⟩;simp only[hw2]at a0 hb2 c7;obtain⟨zs,hzs⟩:∃zs,(Builtin.zeroCells (.agg #[.int .i64 0,.bool false,.slice none 0 0,.string { data:=#[]}]:Value).cells 1).toList=zs:=⟨_,rfl⟩;have d1:zs.length=4:=by rw[<-hzs];kernel_rfl
 have a7:∀c2 ty,(Builtin.clear_ #[22] ty #[.slice (some ⟨g,0+(rows.length-1)*4,none⟩) (rows.length-(rows.length-1)) c2]).run Tryz.prog w2=.ok (.tuple #[]) (w2.setCells g (0+(rows.length-1)*4) zs):=λc2 ty=>by rw[show rows.length-(rows.length-1)=1 by omega,<-hzs];refine fG w2 22 68 ty (.agg #[.int .i64 0,.bool false,.slice none 0 0,.string { data:=#[]}]) Tryz.underlying22 aPT (by decide) g (0+(rows.length-1)*4) 1 c2 (by omega) (λj hj=>?_) (λj hj=>hb2.frozen _);rw[hzs,d1]at hj;rw[hb2.cell];simp;omega
 obtain⟨arr3,hb3,hs3,hout3,hin3⟩:=Blk.setCells_at g 68 zs (0+(rows.length-1)*4) w2 arr2 hb2 (by omega);have c8:Keep (λk=>k=g) w (w2.setCells g (0+(rows.length-1)*4) zs):=Keep.setCells (S:=λk=>k=g) rfl zs _ c7;obtain⟨w3,hw3⟩:∃w3,w2.setCells g (0+(rows.length-1)*4) zs=w3:=⟨_,rfl⟩;simp only[hw3]at a7 hb3 c8;have a9:RowsIn arr3 4 (rows.take i++rows.drop (i+1)):=by
  refine hri.erase hu hi (λj hj=>?_) (λj hj hj2=>?_)
  .rw[hout3 j (by omega),hout j (by omega)]
  rw[hout3 j (by omega)];have:=hin (j-i*4) (by omega);rw[show 0+i*4+(j-i*4)=j by omega]at this;rw[this];obtain⟨u,hu2⟩:∃u,news[j-i*4]? =some u:=⟨_,gE (by omega)⟩;rw[hu2,<-b0 _ _ hu2];congr 1;omega
 have b9:(rows.take i++rows.drop (i+1)).length=rows.length-1:=by rw[lP,zU,yK];omega
 have c0:OwnP B w3 68 4 (.slice (some ⟨g,0,none⟩) (rows.length-1) cap) (rows.take i++rows.drop (i+1)):=.inr ⟨g,cap,arr3,by rw[b9],hgB,hb3,by omega,hcm,by omega,a9⟩;have HF:=bB c0 c8;have d5:=hb2.lt;have d2:i+(rows.length-(i+1))=rows.length-1:=by omega
 rw[d2]at a0;simp only[zM]at a0 a7;have c1:=bB a0 a7;have b1:(i:Int)+1<=rows.length:=by omega
 have b2:(i:Int)<rows.length:=by omega
 have b3:(i:Int)<=cap:=by omega
 have b4:i<=cap:=by omega
 have b5:i+1<=rows.length:=by omega
 have d6:(rows.length:Int)<=cap:=by omega
 clear hri a8 b0 c9 a0 a7 hout hin hout3 hin3 a9 c0 c7 c8 h1r hu hnews c3 c5 hzs d1 b9;go_enter Tryz.func182,Tryz.ntmps182;go_upto_region 5 with fail;refine aC [6] false (λw'=>True) (by kernel_rfl) (by kernel_rfl) trivial ?_
 repeat
  refine aH rfl rfl ?_;apply Exists.intro;refine⟨?_,?_⟩
  focus
   rintro w' _;go_simp
   first|done|rfl
  simp only[Act.put,sA,sZ,sS]
 refine fJ rfl rfl ?_;refine⟨_,_,mM rfl rfl rfl (c1.out.1 _ _),.inl trivial,?_⟩;simp only[Act.put,sA,sZ,sS]
 repeat
  refine aH rfl rfl ?_;apply Exists.intro;refine⟨?_,?_⟩
  focus
   rintro w' _;go_simp
   first|done|rfl
  simp only[Act.put,sA,sZ,sS]
 refine aQ ?_;generalize(if cap=i+1 then(some ⟨g,0,none⟩:Option Addr)else some ⟨g,(i+1)*4,none⟩)=xa;have d3:=c1.out.2;have b6:rows.length-1<=rows.length:=by omega
 have b7:((rows.length-1:Nat):Int)<=rows.length:=by omega
 have b8:rows.length<=cap:=hnc;go_wp2_with fail;go_ret;exact⟨rfl,HF.out.1,HF.out.2⟩
end
def aM {α:Type} (l:List α) (i:Nat):List α:=l.take i++l.drop (i+1)
theorem rF {α β:Type} (f:α->β) (l:List α) (i:Nat):(aM l i).map f=(l.map f).take i++(l.map f).drop (i+1):=by simp[aM,List.map_take,List.map_drop]
theorem qB {es:List PEnt} {s:ByteArray} (h:bL es s=true):cL es s<es.length:=by unfold bL at h;simp only[zE,zI]at h;exact h.1
theorem aHV (B:Nat) (w:World) (ov mv:Value) (S:PSt) (bi cap K:Nat) (x:PIn) (s:ByteArray) (h:StOwn B w (.slice (some ⟨bi,0,none⟩) S.ins.length cap) ov mv S) (hx:S.ins[K]? =some x) (hB:B<=w.heap.size) (hl:x.ents.length<=100000) (hhit:bL x.ents s=true) (e:PEnt) (hee:x.ents[cL x.ents s]? =some e):
 Calls Tryz.prog 187 #[.pointer (some ⟨bi,K*4,none⟩),.string s] w λr w'=>r=.returned (.int .i64 e.num)/\Below B w w'/\Keep (rA w) w w'/\StOwn B w' (.slice (some ⟨bi,0,none⟩) S.ins.length cap) ov mv (S.ents K x (aM x.ents (cL x.ents s))):=by
 have a2:=h.read;obtain⟨ai,capi,he,hat⟩:=a2.ins_at2;simp only[zO]at he;obtain⟨rfl,-,rfl⟩:=he;obtain⟨bi',off',ev,he,iG,hone,hrow,hcl⟩:=hat K x hx;simp only[zF,yG]at he;obtain⟨rfl,rfl,-⟩:=he;obtain⟨-,-,-,y2,-⟩:=hcl w (Below.refl _ _);rw[zM]at y2;obtain⟨hKl,_⟩:=gI.1 hx;have b3:w.frozen? ⟨bi,K*4+2,none⟩=false:=by
  obtain⟨_,_,is,h3,_⟩:=h;rcases h3 with⟨h0,_⟩|⟨g,cap',arr,heq,hgB,hgb,_⟩
  .simp at h0
  simp only[zO,zF,yG]at heq;obtain⟨⟨rfl,-,-⟩,-,-⟩:=heq;exact hgb.frozen _
 have a0:OwnP B w 97 2 ev (x.ents.map PEnt.cells):=by
  obtain⟨_,_,is,h3,h4,h5,_⟩:=h;have hr:is[K]? =some is[K]:=gE (by omega);rcases h3 with⟨h0,_⟩|⟨g,cap',arr,heq,hgB,hgb,_,_,_,hri⟩
  .simp at h0
  simp only[zO,zF,yG]at heq;obtain⟨⟨rfl,-,-⟩,-,-⟩:=heq;have:=hri K is[K].cells (by rw[gM,hr];rfl) 2 _ rfl;rw[hgb.cell,this]at y2;have e:is[K].ev=ev:=Option.some.inj y2;rw[<-e];exact(h5 K _ x hr hx).2.2.2
 have a4:∃arr,Blk w bi arr 68/\K*4+2<arr.size:=by
  obtain⟨_,_,is,h3,h4,h5,_⟩:=h;rcases h3 with⟨h0,_⟩|⟨g,cap',arr,heq,hgB,hgb,hnc,_,hsz,hri⟩
  .simp at h0
  simp only[zO,zF,yG]at heq;obtain⟨⟨rfl,-,-⟩,-,-⟩:=heq;rw[lM]at hnc;exact⟨arr,hgb,by omega⟩
 obtain⟨arr,hgb,has⟩:=a4;have HB:=aG hgb;have a6:∀k,ev.ownBlock=some k->k≠bi:=λk hk=>a0.ne_blk hgb (by decide) hk;have HN:=aG a6;clear hgb a6;have a1:∀ww,Below w.heap.size w ww->Calls Tryz.prog 171 #[ev,.string s] ww _:=λww hb=>mQ x.ents ev s ww (hrow.below hb (zC _)) (by omega);have a7:=qB hhit;rw[hhit]at a1;generalize cL x.ents s=q at a1 a7 hee |-;obtain⟨g,ec,rfl,hgg⟩:=a0.some_ (by rw[lM];omega);rw[lM]at a1 y2;have b4:(q:Int)<x.ents.length:=by omega
 obtain⟨a',c',he',hat'⟩:=hrow.at_;simp only[lM,zO]at he';obtain⟨rfl,-,rfl⟩:=he';obtain⟨be,oe,he2,iE0,-,hce⟩:=hat' w (Below.refl _ _) q e.cells (by rw[gM,hee];rfl);simp only[zF,yG,and_true]at he2;obtain⟨rfl,rfl⟩:=he2;have e1:=hce 1 _ rfl;rw[zM]at e1;have a5:∀ww,Below w.heap.size w ww->Calls Tryz.prog 207 #[.slice (some ⟨g,0,none⟩) x.ents.length ec,.int .i64 q,.int .i64 ((q:Int)+1)] ww λe w'=>e=.returned (.slice (some ⟨g,0,none⟩) (x.ents.length-1) ec)/\OwnP B w' 97 2 (.slice (some ⟨g,0,none⟩) (x.ents.length-1) ec) ((aM x.ents q).map PEnt.cells)/\Keep (λk=>k=g) ww w':=λww hb=>by have:=aIK B g ec (x.ents.map PEnt.cells) q ww (a0.keep (Keep.of_below hb (λ_=>False)) (λ_ _ h=>h)) (lD _) (pV _) (by rw[lM];exact a7) (by rw[lM];omega);rw[lM,<-rF]at this;exact this
 have HH:=dR h a0 hx;have a8:arr[K*4+2]? =some (.slice (some ⟨g,0,none⟩) x.ents.length ec):=by rw[<-HB.out.cell];exact y2
 have b0:=aG a8;clear a8;have b1:g≠bi:=HN.out g rfl;have b2:¬bi=g:=λe=>b1 e.symm;have b5:BlockLt bi w:=iG;clear h a2 hat hcl hrow a0 hx hce hat';go_enter Tryz.func187,Tryz.ntmps187;go_wp2_with(first|(go_at_call 171;refine aE (a1 _ (bel _ _)) λp=>?_)|(go_at_call 172;with_reducible refine aE (aD _ _) λp=>?_)|(go_at_call 207;refine(a5 _ (bel _ _)).mono ?_;rintro e w2 ⟨rfl,ho2,hk2⟩;have a3:=hk2.blk (b:=bi) (c:=arr) (t:=68) (by repeat(first|exact HB.out|refine Blk.alloc ?_ _|refine Blk.junk ?_ _)) (λh=>b2 h);have a9:=(Keep.of_below (bel w _) (λk=>k=g)).trans hk2 (λ_ _ h=>h);have z2:w2.cell? ⟨bi,K*4+2,none⟩=some (.slice (some ⟨g,0,none⟩) x.ents.length ec):=(a3.cell _).trans b0.out;have f2:=a3.frozen (K*4+2);have i2:=a3.lt;have H2:=bB ho2 a9;clear ho2 hk2 a9 a3));obtain⟨r1,r2,r3⟩:=HH.out.1.setEnts HH.out.2.2 y2 (es':=aM x.ents q) H2.out.1 (H2.out.2.mono (λi _ h=>by subst h;rfl)) (λk h=>.inl h) hB;go_ret;exact⟨rfl,r2,r3,r1⟩
end Go.Proofs.YtmkapobnfigedaaGreatDoor
