/- Part of the proof of a law of chapter 15. Conditions: none. -/
import Derived.Test.YtmkapobnfigedaaGreatDoorDl20
set_option linter.unusedVariables false
set_option linter.unusedSimpArgs false
set_option maxRecDepth 100000
set_option maxHeartbeats 8000000
namespace Go.Proofs.YtmkapobnfigedaaGreatDoor
open Go.RowKit
section
variable {P:Program} {Q:Exit->Act->World->Prop} {a:Act} {o:Oper} {ops:Array Oper} {w:World}
theorem mD (w:World) (t ty e:TypeId) (i:TypeInfo) (ht:P.underlying t=some (.slice e)) (hi:P.info? e=some i) (n cap c:Nat) (a:Option Addr) (hn:n<=cap):
 (Builtin.append_ #[t,t] ty #[.slice a n cap,.slice none 0 c]).run P w=.ok (.slice a n cap) w:=by
 rcases a with _|a
 .simp[Builtin.append_,run_underlying ht,sizeOf,typeInfo,hi,Builtin.lenOf,hn,run_firstCells_none,Builtin.firstCells,loadCells,loadCellsFrom]
 simp[Builtin.append_,run_underlying ht,sizeOf,typeInfo,hi,Builtin.lenOf,hn,run_firstCells_none,Builtin.firstCells,loadCells,loadCellsFrom,storeCells]
theorem aFE {k n cap:Nat} {a:Option Addr} {rows:List (List Value)} (h:RowAt w k (.slice a n cap) rows) (hk:0<k) (hu:∀cs∈rows,cs.length=k) (ad:Addr) (had:a=some ad):∀j u,rows.flatten[j]? =some u->w.cell? (ad.add j)=some u:=by
 intro j u hj;obtain⟨a',cap',he,hm,hr⟩:=h;simp only[zO]at he;obtain⟨rfl,rfl,rfl⟩:=he;subst had;have hl:=bO k rows hu;obtain⟨hjl,_⟩:=gI.1 hj;rw[hl]at hjl;have h0:0<rows.length:=by
  rcases hz:rows.length with _|m
  .rw[hz]at hjl;omega
  omega
 obtain⟨b,off,he,hb,hc⟩:=hr h0;simp only[zF]at he;subst he;have a0:j=j/k*k+j%k:=by rw[Nat.mul_comm];exact(Nat.div_add_mod j k).symm
 have a1:j%k<k:=Nat.mod_lt _ hk;have hq:j/k<rows.length:=Nat.div_lt_of_lt_mul (by rwa [Nat.mul_comm]);have a2:=hu rows[j/k] (List.getElem_mem hq);have h1:=nJ k rows hu (j/k) (j%k) a1;rw[<-a0,hj,gE hq]at h1;have h2:=hc (j/k) rows[j/k] (gE hq) (j%k) u h1.symm;rw[Addr.add_lit];rw[show off+j=off+j/k*k+j%k by omega];exact h2
def Grew (B:Nat) (e:TypeId) (k:Nat) (w:World) (v:Value) (rows:List (List Value)) (v':Value) (w':World):Prop:=
 OwnP B w' e k v' rows/\Keep (λg=>v.ownBlock=some g) w w'/\(v'.ownBlock=v.ownBlock\/v'.ownBlock=some w.heap.size)
theorem pY (w:World) (B:Nat) (t ty e:TypeId) (k bytes:Nat) (i:TypeInfo) (z:Value) (ht:P.underlying t=some (.slice e)) (hi:P.info? e=some i) (hz:i.zero=some z) (hsize:i.size=k) (hby:i.bytes=bytes) (hzs:z.cells.size=k) (hk:0<k)
 (v x:Value) (rows more:List (List Value)) (hu:∀cs∈rows,cs.length=k) (hum:∀cs∈more,cs.length=k) (h1:∀cs∈more,∀u∈cs,u.oneCell'=true) (ho:OwnP B w e k v rows) (hx:RowAt w k x more) (h63:rows.length+more.length<=maxLen) (hb:(rows.length+more.length)*bytes<=140737488355328) (hB:B<=w.heap.size):
 ∃v' w',(Builtin.append_ #[t,t] ty #[v,x]).run P w=.ok v' w'/\Grew B e k w v (rows++more) v' w':=by
 have a1:=hx;obtain⟨a,cap,rfl,hm,hr⟩:=a1;rcases a with _|ad
 .have h0:more=[]:=by
   rcases hz2:more.length with _|m
   .exact zT hz2
   obtain⟨b,off,he,_⟩:=hr (by omega);cases he
  subst h0;have a0:(Builtin.append_ #[t,t] ty #[v,.slice none ([]:List (List Value)).length cap]).run P w=.ok v w:=by
   rcases ho with⟨rfl,rfl⟩|⟨g,cap',arr,rfl,hg,hbk,hn,_⟩
   .exact mD w t ty e i ht hi 0 0 cap none (zC _)
   exact mD w t ty e i ht hi _ cap' cap _ hn
  refine⟨v,w,a0,by rw[List.append_nil];exact ho,Keep.refl _ _,.inl rfl⟩
 obtain⟨v',w',a0,hown,hgr,_,hat⟩:=run_append_own_at (P:=P) w B t ty e i z k bytes ht hi hz hsize hby hzs hk v rows.length rows.flatten (ho.own hk hu) ad more.length cap more.flatten (bO k more hum) (aFE hx hk hum ad rfl) (λu hu2=>by
  obtain⟨cs,hcs,hu3⟩:=List.mem_flatten.1 hu2;exact h1 cs hcs u hu3) h63 hb hB
 refine⟨v',w',a0,?_,(Keep.refl _ w).grown hgr (λg hg=>.inl hg),hat⟩;refine OwnP.of_own ?_ hk (λcs hcs=>(List.mem_append.1 hcs).elim (hu cs) (hum cs));rw[lP,List.flatten_append];exact hown
theorem cP (w:World) {rest:List Oper} (hgd:o.guard=none) (s y:Operand) (t:TypeId)
 (hop:o.op=.call { callee:=.builtin .append,args:=#[s,y],argTypes:=#[t,t]})
 (B:Nat) (e:TypeId) (k bytes:Nat) (i:TypeInfo) (z:Value) (ht:P.underlying t=some (.slice e)) (hi:P.info? e=some i) (hz:i.zero=some z) (hsize:i.size=k) (hby:i.bytes=bytes) (hzs:z.cells.size=k) (hk:0<k)
 (v x:Value) (rows more:List (List Value)) (hs:a.eval s=v) (hy:a.eval y=x) (hu:∀cs∈rows,cs.length=k) (hum:∀cs∈more,cs.length=k) (h1:∀cs∈more,∀u∈cs,u.oneCell'=true) (ho:OwnP B w e k v rows) (hx:RowAt w k x more) (h63:rows.length+more.length<=maxLen) (hb:(rows.length+more.length)*bytes<=140737488355328) (hB:B<=w.heap.size)
 (h:∀v' w',Grew B e k w v (rows++more) v' w'->wpList P ops Q rest (a.put o.dst v') w'):
 wpList P ops Q (o::rest) a w:=by
 refine wpList_plain hgd λK hK=>?_;obtain⟨v',w',hr,hg⟩:=pY (P:=P) w B t o.type e k bytes i z ht hi hz hsize hby hzs hk v x rows more hu hum h1 ho hx h63 hb hB;unfold Oper.wp execOp;simp only[hop,resolve,invoke,builtin,Sem.run_bind,Sem.run_pure,Result.andThen_ok,List.map_toArray,yZ,List.map_nil,hs,hy,hr];exact hK _ _ (h v' w' hg)
theorem aAQ {K:Value->World->Prop} (s y:Operand) (t:TypeId)
 (hop:o.op=.call { callee:=.builtin .append,args:=#[s,y],argTypes:=#[t,t]})
 (B:Nat) (e:TypeId) (k bytes:Nat) (i:TypeInfo) (z:Value) (ht:P.underlying t=some (.slice e)) (hi:P.info? e=some i) (hz:i.zero=some z) (hsize:i.size=k) (hby:i.bytes=bytes) (hzs:z.cells.size=k) (hk:0<k)
 (v x:Value) (rows more:List (List Value)) (hs:a.eval s=v) (hy:a.eval y=x) (hu:∀cs∈rows,cs.length=k) (hum:∀cs∈more,cs.length=k) (h1:∀cs∈more,∀u∈cs,u.oneCell'=true) (ho:OwnP B w e k v rows) (hx:RowAt w k x more) (h63:rows.length+more.length<=maxLen) (hb:(rows.length+more.length)*bytes<=140737488355328) (hB:B<=w.heap.size)
 (h:∀v' w',Grew B e k w v (rows++more) v' w'->K v' w'):o.eff P a w K:=by
 obtain⟨v',w',hr,hg⟩:=pY (P:=P) w B t o.type e k bytes i z ht hi hz hsize hby hzs hk v x rows more hu hum h1 ho hx h63 hb hB;unfold Oper.eff execOp;simp only[hop,resolve,invoke,builtin,Sem.run_bind,Sem.run_pure,Result.andThen_ok,List.map_toArray,yZ,List.map_nil,hs,hy,hr];exact h v' w' hg
theorem RowAt.single {b:Nat} {t:TypeId} {cs:List Value} (h:Blk w b cs.toArray t) (k cap:Nat):RowAt w k (.slice (some ⟨b,0,none⟩) 1 cap) [cs]:=by
 refine⟨_,_,rfl,by unfold maxLen;simp,λ_=>⟨b,0,rfl,h.lt.lt,λq c hq u x hu=>?_⟩⟩;rcases q with _|q
 .simp only[zH,zF]at hq;subst hq;rw[h.cell];simpa using hu
 simp at hq
theorem aAR:∀(zs:List ByteArray),∀cs∈zs.map (λn=>[Value.string n]),cs.length=1:=by intro zs cs h;obtain⟨r,_,rfl⟩:=List.mem_map.1 h;rfl
theorem aQM:∀(zs:List ByteArray),∀cs∈zs.map (λn=>[Value.string n]),∀u∈cs,u.oneCell'=true:=by intro zs cs h u hu;obtain⟨r,_,rfl⟩:=List.mem_map.1 h;simp only[List.mem_cons,List.not_mem_nil,or_false]at hu;subst hu;rfl
theorem uB {rest:List Oper} (hgd:o.guard=none) (s y:Operand)
 (hop:o.op=.call { callee:=.builtin .append,args:=#[s,y],argTypes:=#[66,66]}) (B:Nat) (v x:Value) (zs more:List PEnt) (hs:a.eval s=v) (hy:a.eval y=x) (ho:OwnP B w 97 2 v (zs.map PEnt.cells)) (hx:RowAt w 2 x (more.map PEnt.cells)) (hl:zs.length+more.length<=1000000000000) (hB:B<=w.heap.size)
 (h:∀v' w',Grew B 97 2 w v ((zs++more).map PEnt.cells) v' w'->wpList Tryz.prog ops Q rest (a.put o.dst v') w'):
 wpList Tryz.prog ops Q (o::rest) a w:=by
 obtain⟨i,hi,hz,h1,h2⟩:=info_parts xT;refine cP w hgd s y 66 hop B 97 2 24 i _ Tryz.underlying66 hi hz h1 h2 rfl (by decide) v x (zs.map PEnt.cells) (more.map PEnt.cells) hs hy (lD _) (lD _) (pV _) ho hx ?_ ?_ hB ?_
 .rw[lM,lM];unfold maxLen;omega
 .rw[lM,lM];omega
 intro v' w' hg;rw[<-yR]at hg;exact h v' w' hg
theorem uC {rest:List Oper} (hgd:o.guard=none) (s y:Operand)
 (hop:o.op=.call { callee:=.builtin .append,args:=#[s,y],argTypes:=#[22,22]}) (B:Nat) (v x:Value) (zs more:List IRec) (hs:a.eval s=v) (hy:a.eval y=x) (ho:OwnP B w 68 4 v (zs.map IRec.cells)) (hx:RowAt w 4 x (more.map IRec.cells)) (hl:zs.length+more.length<=1000000000000) (hB:B<=w.heap.size)
 (h:∀v' w',Grew B 68 4 w v ((zs++more).map IRec.cells) v' w'->wpList Tryz.prog ops Q rest (a.put o.dst v') w'):
 wpList Tryz.prog ops Q (o::rest) a w:=by
 obtain⟨i,hi,hz,h1,h2⟩:=info_parts xS;refine cP w hgd s y 22 hop B 68 4 56 i _ Tryz.underlying22 hi hz h1 h2 rfl (by decide) v x (zs.map IRec.cells) (more.map IRec.cells) hs hy (eU _) (eU _) (mZ _) ho hx ?_ ?_ hB ?_
 .rw[lM,lM];unfold maxLen;omega
 .rw[lM,lM];omega
 intro v' w' hg;rw[<-yR]at hg;exact h v' w' hg
theorem nA {rest:List Oper} (hgd:o.guard=none) (s y:Operand)
 (hop:o.op=.call { callee:=.builtin .append,args:=#[s,y],argTypes:=#[23,23]}) (B:Nat) (v x:Value) (zs more:List PDesc) (hs:a.eval s=v) (hy:a.eval y=x) (ho:OwnP B w 95 3 v (zs.map PDesc.cells)) (hx:RowAt w 3 x (more.map PDesc.cells)) (hl:zs.length+more.length<=1000000000000) (hB:B<=w.heap.size)
 (h:∀v' w',Grew B 95 3 w v ((zs++more).map PDesc.cells) v' w'->wpList Tryz.prog ops Q rest (a.put o.dst v') w'):
 wpList Tryz.prog ops Q (o::rest) a w:=by
 obtain⟨i,hi,hz,h1,h2⟩:=info_parts xU;refine cP w hgd s y 23 hop B 95 3 24 i _ Tryz.underlying23 hi hz h1 h2 rfl (by decide) v x (zs.map PDesc.cells) (more.map PDesc.cells) hs hy (gZ _) (gZ _) (nP _) ho hx ?_ ?_ hB ?_
 .rw[lM,lM];unfold maxLen;omega
 .rw[lM,lM];omega
 intro v' w' hg;rw[<-yR]at hg;exact h v' w' hg
theorem aUF {rest:List Oper} (hgd:o.guard=none) (s y:Operand)
 (hop:o.op=.call { callee:=.builtin .append,args:=#[s,y],argTypes:=#[24,24]}) (B:Nat) (v x:Value) (zs more:List Int) (hs:a.eval s=v) (hy:a.eval y=x) (ho:OwnP B w 3 1 v (zs.map aK)) (hx:RowAt w 1 x (more.map aK)) (hl:zs.length+more.length<=1000000000000) (hB:B<=w.heap.size)
 (h:∀v' w',Grew B 3 1 w v ((zs++more).map aK) v' w'->wpList Tryz.prog ops Q rest (a.put o.dst v') w'):
 wpList Tryz.prog ops Q (o::rest) a w:=by
 obtain⟨i,hi,hz,h1,h2⟩:=info_parts uQ;refine cP w hgd s y 24 hop B 3 1 8 i _ Tryz.underlying24 hi hz h1 h2 rfl (by decide) v x (zs.map aK) (more.map aK) hs hy (pU _) (pU _) (aHC _) ho hx ?_ ?_ hB ?_
 .rw[lM,lM];unfold maxLen;omega
 .rw[lM,lM];omega
 intro v' w' hg;rw[<-yR]at hg;exact h v' w' hg
theorem aSI {rest:List Oper} (hgd:o.guard=none) (s y:Operand)
 (hop:o.op=.call { callee:=.builtin .append,args:=#[s,y],argTypes:=#[50,50]}) (B:Nat) (v x:Value) (zs more:List ByteArray) (hs:a.eval s=v) (hy:a.eval y=x) (ho:OwnP B w 9 1 v (zs.map (λn=>[Value.string n]))) (hx:RowAt w 1 x (more.map (λn=>[Value.string n]))) (hl:zs.length+more.length<=1000000000000) (hB:B<=w.heap.size)
 (h:∀v' w',Grew B 9 1 w v ((zs++more).map (λn=>[Value.string n])) v' w'->wpList Tryz.prog ops Q rest (a.put o.dst v') w'):
 wpList Tryz.prog ops Q (o::rest) a w:=by
 obtain⟨i,hi,hz,h1,h2⟩:=info_parts aNN;refine cP w hgd s y 50 hop B 9 1 16 i _ Tryz.underlying50 hi hz h1 h2 rfl (by decide) v x (zs.map (λn=>[Value.string n])) (more.map (λn=>[Value.string n])) hs hy (aAR _) (aAR _) (aQM _) ho hx ?_ ?_ hB ?_
 .rw[lM,lM];unfold maxLen;omega
 .rw[lM,lM];omega
 intro v' w' hg;rw[<-yR]at hg;exact h v' w' hg
end
end Go.Proofs.YtmkapobnfigedaaGreatDoor
