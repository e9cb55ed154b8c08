/- A part of a proof of a law. Conditions: none. -/
import Derived.Test.YtmkapobnfigedaaGreatDoorDk11
set_option linter.unusedVariables false
set_option linter.unusedSimpArgs false
set_option maxRecDepth 100000
set_option maxHeartbeats 8000000
namespace Go.Proofs.YtmkapobnfigedaaGreatDoor
open Go.Proofs.Tryz List Go.RowKit
section
theorem aHT (k:Nat) (rows:List (List Value)) (i:Nat) (hu:∀cs∈rows,cs.length=k):rows.flatten=(rows.take i).flatten++(rows.drop i).flatten:=by rw[<-flatten_append,take_append_drop]
theorem RowsIn.erase {arr arr':Array Value} {k i:Nat} {rows:List (List Value)} (h:RowsIn arr k rows) (hu:∀cs∈rows,cs.length=k) (hi:i<rows.length)
 (h1:∀j,j<i*k->arr'[j]? =arr[j]?) (h3:∀j,i*k<=j->j<(rows.length-1)*k->arr'[j]? =arr[j+k]?):RowsIn arr' k (rows.take i++rows.drop (i+1)):=by
 intro q cs hq t u hu';have a0:∀a b:Nat,a<b->a*k+k<=b*k:=λa b hab=>by have:=Nat.mul_le_mul_right k (show a+1<=b from hab);rw[Nat.add_mul]at this;omega
 have a1:(rows.take i).length=i:=by rw[zU];omega
 by_cases hqi:q<i
 .rw[zZ (by omega),yO,zB hqi]at hq;have a2:t<k:=by
   have:=hu cs (mG hq);obtain⟨h,_⟩:=gI.1 hu';omega
  have:=a0 q i hqi;rw[h1 _ (by omega)];exact h q cs hq t u hu'
 rw[yC (by omega),a1,yN,show i+1+(q-i)=q+1 by omega]at hq;obtain⟨hql,_⟩:=gI.1 hq;have a2:t<k:=by have:=hu cs (mG hq);obtain⟨h,_⟩:=gI.1 hu';omega
 have g1:i*k<=q*k:=Nat.mul_le_mul_right _ (by omega);have g2:=a0 q (rows.length-1) (by omega);rw[h3 _ (by omega) (by omega)];have e:q*k+t+k=(q+1)*k+t:=by rw[Nat.add_mul];omega
 rw[e];exact h (q+1) cs hq t u hu'
variable {P:Program}
theorem aEY {o:Oper} {a:Act} {w:World} {d s:Operand} {t t':TypeId}
 (ho:o.op=.call { callee:=.builtin .append,args:=#[d,s],argTypes:=#[t,t']}) {v u:Value} (hd:a.eval d=v) (hs:a.eval s=u) {v':Value} {w':World}
 (hr:(Builtin.append_ #[t,t'] o.type #[v,u]).run P w=.ok v' w'):(execOp a.eval o).run P w=.ok (.value v') w':=by
 unfold execOp;simp only[ho,resolve,invoke,builtin,Sem.run_bind,Sem.run_pure,Result.andThen_ok,map_toArray,xB,map_nil,hd,hs,hr]
theorem oG (w:World) (t e ty:TypeId) (z:Value) (ht:P.underlying t=some (.slice e)) (hv:∀w,(zeroValue e).run P w=.ok z w) (h1:∀v∈z.cells,v.oneCell'=true) (b o n c:Nat) (hn:0<n)
 (hc:∀j,j<(Builtin.zeroCells z.cells n).toList.length->(w.cell? ⟨b,o+j,none⟩).isSome=true) (hf:∀j,j<(Builtin.zeroCells z.cells n).toList.length->w.frozen? ⟨b,o+j,none⟩=false):
 (Builtin.clear_ #[t] ty #[.slice (some ⟨b,o,none⟩) n c]).run P w=.ok (.tuple #[]) (w.setCells b o (Builtin.zeroCells z.cells n).toList):=by
 have hz:∀v∈(Builtin.zeroCells z.cells n).toList,v.oneCell'=true:=by
  intro v hv';simp only[Builtin.zeroCells]at hv';obtain⟨i,hi,rfl⟩:=mem_iff_getElem.1 hv';simp at hi;have a0:0<z.cells.size:=by
   rcases Nat.eq_zero_or_pos z.cells.size with h|h
   .rw[h]at hi;simp at hi
   exact h
  have a1:=Nat.mod_lt i a0;simp only[Array.getElem_toList,Array.getElem_map,Array.getElem_range];rw[getElem!_pos z.cells _ a1];exact h1 _ (Array.getElem_mem a1)
 have a2:=run_storeCells_cells (P:=P) b o (Builtin.zeroCells z.cells n).toList 0 w (by simpa using hc) (by simpa using hf) hz;simp only[zN]at a2;obtain⟨m,rfl⟩:∃m,n=m+1:=⟨n-1,by omega⟩;simp[Builtin.clear_,run_underlying ht,hv,a2]
theorem aQH {sl e m bytes:Nat} {z:Value} {i0:TypeInfo} (T:InsT sl e m bytes z i0) (hm:m=2\/m=3\/m=4) (zv:Value) (hzv:∀w,(zeroValue e).run prog w=.ok zv w) (hz1:∀v∈zv.cells,v.oneCell'=true) (hzl:(Builtin.zeroCells zv.cells 1).toList.length=m) (B:Nat) (g cap:Nat) (rows:List (List Value)) (i:Nat) (w:World) (h:OwnP B w e m (.slice g rows.length cap) rows) (hu:∀cs∈rows,cs.length=m) (h1r:∀cs∈rows,∀u∈cs,u.oneCell'=true) (hi:i<rows.length) (hn:rows.length<=1000000000):
 cap<=maxLen/\rows.length<=cap/\BlockLt g w/\∃w2 w3,BlockLt g w2/\OwnP B w3 e m (.slice g (rows.length-1) cap) (rows.take i++rows.drop (i+1))/\Keep (λk=>k=g) w w3/\
  (∀c2 ty,(Builtin.append_ #[sl,sl] ty #[.slice g i cap,.slice (if cap=i+1 then some ⟨g,0,none⟩else some ⟨g,(i+1)*m,none⟩) (rows.length-(i+1)) c2]).run prog w.drew=.ok (.slice g (rows.length-1) cap) w2)/\
  ∀c2 ty,(Builtin.clear_ #[sl] ty #[.slice (some ⟨g,(rows.length-1)*m,none⟩) (rows.length-(rows.length-1)) c2]).run prog w2=.ok (.tuple #[]) w3:=by
 obtain⟨hgB,arr,hgb,hnc,hcm,hsz,hri⟩:B<=g/\∃arr,Blk w g arr e/\rows.length<=cap/\cap<=maxLen/\arr.size=cap*m/\RowsIn arr m rows:=by
  rcases h with⟨h0,_⟩|⟨g',cap',arr,h0,a1,a2,a3,a4,a5,a6⟩
  .simp at h0
  simp only[zO,zF,yG]at h0;obtain⟨⟨rfl,-,-⟩,-,rfl⟩:=h0;exact⟨a1,arr,a2,a3,a4,a5,a6⟩
 have b1:=hcm;unfold maxLen at b1;have iG:=hgb.lt;have a8:=hri.flat hu;obtain⟨news,hnews⟩:∃news,(rows.drop (i+1)).flatten=news:=⟨_,rfl⟩;have b2:news.length=(rows.length-(i+1))*m:=by rw[<-hnews,eT m _ (λcs hc=>hu cs (mem_of_mem_drop hc)),yK]
 have b6:∀u∈news,u.oneCell'=true:=λu hu'=>by rw[<-hnews]at hu';obtain⟨cs,hc,hx⟩:=mem_flatten.1 hu';exact h1r cs (mem_of_mem_drop hc) u hx
 have a9:∀j u,news[j]? =some u->arr[(i+1)*m+j]? =some u:=λj u hj=>by
  have c3:j<news.length:=by obtain⟨h,_⟩:=gI.1 hj;exact h
  rw[a8 _ (by (rcases hm with rfl|rfl|rfl<;>omega))];have e1:=aHT m rows (i+1) hu;rw[e1,yC (by rw[eT m _ (λcs hc=>hu cs (mem_of_mem_take hc)),zU];(rcases hm with rfl|rfl|rfl<;>omega)),hnews];rw[eT m _ (λcs hc=>hu cs (mem_of_mem_take hc)),zU];rw[show (i+1)*m+j-min (i+1) rows.length*m=j by(rcases hm with rfl|rfl|rfl<;>omega)];exact hj
 have c0:∀j u,news[j]? =some u->w.drew.cell? ((⟨g,0+(i+1)*m,none⟩:Addr).add j)=some u:=λj u hj=>by rw[Addr.add_lit];show w.cell? ⟨g,0+(i+1)*m+j,none⟩=_;rw[hgb.cell,zM];exact a9 j u hj
 have a0:∀c2 ty,(Builtin.append_ #[sl,sl] ty #[.slice g i cap,.slice (if cap=i+1 then some ⟨g,0,none⟩else some ⟨g,(i+1)*m,none⟩) (rows.length-(i+1)) c2]).run prog w.drew=.ok (.slice g (i+(rows.length-(i+1))) cap) (w.drew.setCells g (0+i*m) news):=λc2 ty=>by
  have b7:∀j,j<news.length->(w.drew.cell? ⟨g,0+i*i0.size+j,none⟩).isSome=true:=λj hj=>by
   rw[T.h1];show(w.cell? ⟨g,_,none⟩).isSome=true;rw[hgb.cell];simp
   (rcases hm with rfl|rfl|rfl<;>omega)
  by_cases hcc:cap=i+1
  .rw[zB hcc];have b3:news=[]:=zT (by rw[b2,show rows.length-(i+1)=0 by(rcases hm with rfl|rfl|rfl<;>omega),Nat.zero_mul]);have:=run_append_room_cells (P:=prog) (w:=w.drew) sl ty e i0 T.ht T.hi g 0 i cap ⟨g,0,none⟩ (rows.length-(i+1)) c2 news (by rw[b2,T.h1]) (λj u hj=>by rw[b3]at hj;simp at hj) b6 (by (rcases hm with rfl|rfl|rfl<;>omega)) b7 (λj hj=>hgb.frozen _);rw[T.h1]at this;exact this
  rw[zA hcc];have:=run_append_room_cells (P:=prog) (w:=w.drew) sl ty e i0 T.ht T.hi g 0 i cap ⟨g,(i+1)*m,none⟩ (rows.length-(i+1)) c2 news (by rw[b2,T.h1]) (λj u hj=>by have:=c0 j u hj;rw[zM]at this;exact this) b6 (by (rcases hm with rfl|rfl|rfl<;>omega)) b7 (λj hj=>hgb.frozen _);rw[T.h1]at this;exact this
 obtain⟨arr2,hb2,hs2,hout,hin⟩:=Blk.setCells_at g e news (0+i*m) w.drew arr hgb.drew (by (rcases hm with rfl|rfl|rfl<;>omega));have b8:Keep (λk=>k=g) w (w.drew.setCells g (0+i*m) news):=Keep.setCells (S:=λk=>k=g) rfl news _ ((Keep.refl _ w).drew);obtain⟨w2,hw2⟩:∃w2,w.drew.setCells g (0+i*m) news=w2:=⟨_,rfl⟩;simp only[hw2]at a0 hb2 b8;obtain⟨zs,hzs⟩:∃zs,(Builtin.zeroCells zv.cells 1).toList=zs:=⟨_,rfl⟩;rw[hzs]at hzl;have a7:∀c2 ty,(Builtin.clear_ #[sl] ty #[.slice (some ⟨g,0+(rows.length-1)*m,none⟩) (rows.length-(rows.length-1)) c2]).run prog w2=.ok (.tuple #[]) (w2.setCells g (0+(rows.length-1)*m) zs):=λc2 ty=>by
  rw[show rows.length-(rows.length-1)=1 by omega,<-hzs];refine oG w2 sl e ty zv T.ht hzv hz1 g (0+(rows.length-1)*m) 1 c2 (by (rcases hm with rfl|rfl|rfl<;>omega)) (λj hj=>?_) (λj hj=>hb2.frozen _);rw[hzs,hzl]at hj;rw[hb2.cell];simp
  (rcases hm with rfl|rfl|rfl<;>omega)
 obtain⟨arr3,hb3,hs3,hout3,hin3⟩:=Blk.setCells_at g e zs (0+(rows.length-1)*m) w2 arr2 hb2 (by (rcases hm with rfl|rfl|rfl<;>omega));have b9:Keep (λk=>k=g) w (w2.setCells g (0+(rows.length-1)*m) zs):=Keep.setCells (S:=λk=>k=g) rfl zs _ b8;obtain⟨w3,hw3⟩:∃w3,w2.setCells g (0+(rows.length-1)*m) zs=w3:=⟨_,rfl⟩;simp only[hw3]at a7 hb3 b9;have b0:RowsIn arr3 m (rows.take i++rows.drop (i+1)):=by
  refine hri.erase hu hi (λj hj=>?_) (λj hj hj2=>?_)
  .rw[hout3 j (by (rcases hm with rfl|rfl|rfl<;>omega)),hout j (by (rcases hm with rfl|rfl|rfl<;>omega))]
  rw[hout3 j (by (rcases hm with rfl|rfl|rfl<;>omega))];have:=hin (j-i*m) (by (rcases hm with rfl|rfl|rfl<;>omega));rw[show 0+i*m+(j-i*m)=j by(rcases hm with rfl|rfl|rfl<;>omega)]at this;rw[this];obtain⟨u,hu2⟩:∃u,news[j-i*m]? =some u:=⟨_,gE (by (rcases hm with rfl|rfl|rfl<;>omega))⟩;rw[hu2,<-a9 _ _ hu2];congr 1
  (rcases hm with rfl|rfl|rfl<;>omega)
 have b4:(rows.take i++rows.drop (i+1)).length=rows.length-1:=by rw[lP,zU,yK];omega
 have b5:OwnP B w3 e m (.slice g (rows.length-1) cap) (rows.take i++rows.drop (i+1)):=.inr ⟨g,cap,arr3,by rw[b4],hgB,hb3,by(rcases hm with rfl|rfl|rfl<;>omega),hcm,by(rcases hm with rfl|rfl|rfl<;>omega),b0⟩;have c1:i+(rows.length-(i+1))=rows.length-1:=by omega
 rw[c1]at a0;simp only[zM]at a0 a7;exact⟨hcm,hnc,iG,w2,w3,hb2.lt,b5,b9,a0,a7⟩
def aMN (n e m:Nat):Prop:=∀(B:Nat) (g cap:Nat) (rows:List (List Value)) (i:Nat) (w:World),OwnP B w e m (.slice g rows.length cap) rows->(∀cs∈rows,cs.length=m)->(∀cs∈rows,∀u∈cs,u.oneCell'=true)->i<rows.length->rows.length<=1000000000->
 Calls prog n #[.slice g rows.length cap,.int .i64 i,.int .i64 ((i:Int)+1)] w λx w'=>x=.returned (.slice g (rows.length-1) cap)/\OwnP B w' e m (.slice g (rows.length-1) cap) (rows.take i++rows.drop (i+1))/\Keep (λk=>k=g) w w'
theorem aDI:aMN 207 97 2/\aMN 144 95 3/\aMN 182 68 4:=by
 obtain⟨i1,hi1,hz1,hs1,hb1⟩:=info_parts aDD;obtain⟨i2,hi2,hz2,hs2,hb2⟩:=info_parts aDE;obtain⟨i3,hi3,hz3,hs3,hb3⟩:=info_parts vT;refine⟨have F:=aQH (sl:=66) ⟨underlying66,hi1,hz1,hs1,hb1,rfl,by decide,by decide,by decide⟩ (.inl rfl) (.agg #[.string ⟨#[]⟩,.int .i64 0]) (λw=>by kernel_rfl) (by decide) (by kernel_rfl);?_,have F:=aQH (sl:=23) ⟨underlying23,hi2,hz2,hs2,hb2,rfl,by decide,by decide,by decide⟩ (.inr (.inl rfl)) (.agg #[.int .i64 0,.int .i64 0,.int .i64 0]) (λw=>by kernel_rfl) (by decide) (by kernel_rfl);?_,have F:=aQH (sl:=22) ⟨underlying22,hi3,hz3,hs3,hb3,rfl,by decide,by decide,by decide⟩ (.inr (.inr rfl)) (.agg #[.int .i64 0,false,.slice none 0 0,.string ⟨#[]⟩]) (λw=>by kernel_rfl) (by decide) (by kernel_rfl);?_⟩
 all_goals
  intro B g cap rows i w h hu h1r hi hn;obtain⟨hcm,hnc,iG,w2,w3,iG2,hfin,hk3,hrun,hclr⟩:=F B g cap rows i w h hu h1r hi hn;unfold maxLen at hcm;have HF:=bG hfin hk3;have a0:=bG hrun hclr;have b1:(i:Int)+1<=rows.length:=by omega
  have b2:(i:Int)<rows.length:=by omega
  have b3:(i:Int)<=cap:=by omega
  have b4:i<=cap:=by omega
  have b5:i+1<=rows.length:=by omega
  have a2:(rows.length:Int)<=cap:=by omega
  clear hrun hclr hfin hk3 h1r hu F h hi1 hz1 hs1 hb1 hi2 hz2 hs2 hb2 hi3 hz3 hs3 hb3
  go_in
  go_upto_region 5 with fail;refine aH [6] false (λw'=>True) (by kernel_rfl) (by kernel_rfl) trivial ?_
  repeat
   apply aI0 rfl rfl
   focus
    rintro w' _;go_simp
    first|done|rfl
   simp only[Act.put,sA,sZ,sS]
  refine oS rfl rfl ?_;refine⟨_,_,aEY rfl rfl rfl (a0.out.1 _ _),.inl trivial,?_⟩;simp only[Act.put,sA,sZ,sS]
  repeat
   apply aI0 rfl rfl
   focus
    rintro w' _;go_simp
    first|done|rfl
   simp only[Act.put,sA,sZ,sS]
  refine aS ?_;generalize(if cap=i+1 then(some ⟨g,0,none⟩:Option Addr)else some ⟨g,_,none⟩)=xa;have a1:=a0.out.2;have b6:rows.length-1<=rows.length:=by omega
  have b7:((rows.length-1:Nat):Int)<=rows.length:=by omega
  go_wp2;go_ret;exact⟨rfl,HF.out.1,HF.out.2⟩
theorem aMO:aMN 207 97 2:=aDI.1
theorem aQI:aMN 144 95 3:=aDI.2.1
theorem aBB:aMN 182 68 4:=aDI.2.2
end
def aM {α:Type} (l:List α) (i:Nat):List α:=l.take i++l.drop (i+1)
theorem tX {α β:Type} (f:α->β) (l:List α) (i:Nat):(aM l i).map f=(l.map f).take i++(l.map f).drop (i+1):=by simp[aM,map_take,map_drop]
theorem sL {es:List PEnt} {s:ByteArray} (h:bR es s=true):cY es s<es.length:=by unfold bR at h;simp only[zE,zI]at h;exact h.1
theorem aMA (B:Nat) (w:World) (ov mv:Value) (S:PSt) (bi cap K:Nat) (x:PIn) (s:ByteArray) (h:StOwn B w (.slice bi S.ins.length cap) ov mv S) (hx:S.ins[K]? =some x) (hB:B<=w.heap.size) (hl:x.ents.length<=100000) (hhit:bR x.ents s=true) (e:PEnt) (hee:x.ents[cY x.ents s]? =some e):
 Calls prog 187 #[.pointer (some ⟨bi,K*4,none⟩),s] w λr w'=>r=.returned (.int .i64 e.num)/\Below B w w'/\Keep (tR w) w w'/\StOwn B w' (.slice bi S.ins.length cap) ov mv (S.ents K x (aM x.ents (cY x.ents s))):=by
 have a2:=h.read;obtain⟨ai,capi,he,hat⟩:=a2.ins_at2;simp only[zO]at he;obtain⟨rfl,-,rfl⟩:=he;obtain⟨bi',off',ev,he,iG,hone,hrow,hcl⟩:=hat K x hx;simp only[zF,yG]at he;obtain⟨rfl,rfl,-⟩:=he;obtain⟨-,-,-,y2,-⟩:=hcl w (Below.refl _ _);rw[zM]at y2;obtain⟨hKl,_⟩:=gI.1 hx;have b3:w.frozen? ⟨bi,K*4+2,none⟩=false:=by
  obtain⟨_,_,is,h3,_⟩:=h;rcases h3 with⟨h0,_⟩|⟨g,cap',arr,heq,hgB,hgb,_⟩
  .simp at h0
  simp only[zO,zF,yG]at heq;obtain⟨⟨rfl,-,-⟩,-,-⟩:=heq;exact hgb.frozen _
 have a0:OwnP B w 97 2 ev (x.ents.map PEnt.cells):=by
  obtain⟨_,_,is,h3,h4,h5,_⟩:=h;have hr:is[K]? =some is[K]:=gE (by omega);rcases h3 with⟨h0,_⟩|⟨g,cap',arr,heq,hgB,hgb,_,_,_,hri⟩
  .simp at h0
  simp only[zO,zF,yG]at heq;obtain⟨⟨rfl,-,-⟩,-,-⟩:=heq;have:=hri K is[K].cells (by rw[gM,hr];rfl) 2 _ rfl;rw[hgb.cell,this]at y2;have e:is[K].ev=ev:=Option.some.inj y2;rw[<-e];exact(h5 K _ x hr hx).2.2.2
 have a4:∃arr,Blk w bi arr 68/\K*4+2<arr.size:=by
  obtain⟨_,_,is,h3,h4,h5,_⟩:=h;rcases h3 with⟨h0,_⟩|⟨g,cap',arr,heq,hgB,hgb,hnc,_,hsz,hri⟩
  .simp at h0
  simp only[zO,zF,yG]at heq;obtain⟨⟨rfl,-,-⟩,-,-⟩:=heq;rw[lM]at hnc;exact⟨arr,hgb,by omega⟩
 obtain⟨arr,hgb,has⟩:=a4;have HB:=aC hgb;have a6:∀k,ev.ownBlock=some k->k≠bi:=λk hk=>a0.ne_blk hgb (by decide) hk;have HN:=aC a6;clear hgb a6;have a1:∀ww,Bl w ww->Calls prog 171 #[ev,s] ww _:=λww hb=>oJ x.ents ev s ww (hrow.below hb (zC _)) (by omega);have a7:=sL hhit;rw[hhit]at a1;generalize cY x.ents s=q at a1 a7 hee |-;obtain⟨g,ec,rfl,hgg⟩:=a0.some_ (by rw[lM];omega);rw[lM]at a1 y2;have b4:(q:Int)<x.ents.length:=by omega
 obtain⟨a',c',he',hat'⟩:=hrow.at_;simp only[lM,zO]at he';obtain⟨rfl,-,rfl⟩:=he';obtain⟨be,oe,he2,iE0,-,hce⟩:=hat' w (Below.refl _ _) q e.cells (by rw[gM,hee];rfl);simp only[zF,yG,and_true]at he2;obtain⟨rfl,rfl⟩:=he2;have e1:=hce 1 _ rfl;rw[zM]at e1;have a5:∀ww,Bl w ww->Calls prog 207 #[.slice g x.ents.length ec,q,.int .i64 ((q:Int)+1)] ww λe w'=>e=.returned (.slice g (x.ents.length-1) ec)/\OwnP B w' 97 2 (.slice g (x.ents.length-1) ec) ((aM x.ents q).map PEnt.cells)/\Keep (λk=>k=g) ww w':=λww hb=>by have:=aMO B g ec (x.ents.map PEnt.cells) q ww (a0.keep (Keep.of_below hb (λ_=>False)) (λ_ _ h=>h)) (pC _) (sB _) (by rw[lM];exact a7) (by rw[lM];omega);rw[lM,<-tX]at this;exact this
 have HH:=eK h a0 hx;have a8:arr[K*4+2]? =some (.slice g x.ents.length ec):=by rw[<-HB.out.cell];exact y2
 have b0:=aC a8;clear a8;have b1:g≠bi:=HN.out g rfl;have b2:¬bi=g:=λe=>b1 e.symm;have b5:BlockLt bi w:=iG;clear h a2 hat hcl hrow a0 hx hce hat';go_in;go_wp2_with(first|(go_at_call 171;refine aE (a1 _ (bel _ _)) λp=>?_)|(go_at_call 172;with_reducible refine aE (aG _ _) λp=>?_)|(go_at_call 207;refine(a5 _ (bel _ _)).mono ?_;rintro e w2 ⟨rfl,ho2,hk2⟩;have a3:=hk2.blk (b:=bi) (c:=arr) (t:=68) (by repeat(first|exact HB.out|refine Blk.alloc ?_ _|refine Blk.junk ?_ _)) (λh=>b2 h);have a9:=(Keep.of_below (bel w _) (λk=>k=g)).trans hk2 (λ_ _ h=>h);have z2:w2.cell? ⟨bi,K*4+2,none⟩=some (.slice g x.ents.length ec):=(a3.cell _).trans b0.out;have f2:=a3.frozen (K*4+2);have i2:=a3.lt;have H2:=bG ho2 a9;clear ho2 hk2 a9 a3));obtain⟨r1,r2,r3⟩:=HH.out.1.setEnts HH.out.2.2 y2 (es':=aM x.ents q) H2.out.1 (H2.out.2.mono (λi _ h=>by subst h;rfl)) (λk h=>.inl h) hB;go_ret;exact⟨rfl,r2,r3,r1⟩
end Go.Proofs.YtmkapobnfigedaaGreatDoor
