/- A part of a proof of a law. Conditions: none. -/
import Derived.Test.YtmkapobnfigedaaGreatDoorDp12
set_option linter.unusedVariables false
set_option linter.unusedSimpArgs false
set_option maxRecDepth 100000
set_option maxHeartbeats 40000000
namespace Go.Proofs.YtmkapobnfigedaaGreatDoor
open Go.Proofs.Tryz List Go.RowKit
def cT {α:Type} (p:α->Bool) (x:α):List α->Bool->List α->List α
 |[],d,zs=>if d=true then zs else zs++[x]
 |e::r,d,zs=>if d=true then cT p x r true (zs++[e])else if p e=true then cT p x r true (zs++[x]++[e])else cT p x r false (zs++[e])
theorem qI {α:Type} (p:α->Bool) (x:α) (es:List α) (q:Nat) (e:α) (d:Bool) (zs:List α) (h:es[q]? =some e):
 cT p x (es.drop q) d zs=if d=true then cT p x (es.drop (q+1)) true (zs++[e])else if p e=true then cT p x (es.drop (q+1)) true (zs++[x]++[e])else cT p x (es.drop (q+1)) false (zs++[e]):=by
 obtain⟨hl,rfl⟩:=gI.1 h;rw[yH hl,cT]
theorem aAD {α:Type} (p:α->Bool) (x:α) (es:List α) (q:Nat) (d:Bool) (zs:List α) (h:¬q<es.length):cT p x (es.drop q) d zs=if d=true then zs else zs++[x]:=by rw[zS (by omega),cT]
def eG (b:Int) (but:ByteArray):List PEnt->Int->Int
 |[],a=>a
 |e::r,a=>eG b but r (if (!(e.name.toList==but.toList)&&bA e.name==b)=true then a+1 else a)
section
variable {P:Program} {a:Act} {o:Oper} {w:World}
theorem oD (w:World) (t ty e:TypeId) (i:TypeInfo) (ht:P.underlying t=some (.slice e)) (hi:P.info? e=some i) (n cap c:Nat) (a:Option Addr) (hn:n<=cap):
 (Builtin.append_ #[t,t] ty #[.slice a n cap,.slice none 0 c]).run P w=.ok (.slice a n cap) w:=by
 rcases a with _|a
 .simp[Builtin.append_,run_underlying ht,sizeOf,typeInfo,hi,Builtin.lenOf,hn,run_firstCells_none,Builtin.firstCells,loadCells,loadCellsFrom]
 simp[Builtin.append_,run_underlying ht,sizeOf,typeInfo,hi,Builtin.lenOf,hn,run_firstCells_none,Builtin.firstCells,loadCells,loadCellsFrom,storeCells]
theorem aKF {k n cap:Nat} {a:Option Addr} {rows:List (List Value)} (h:RowAt w k (.slice a n cap) rows) (hk:0<k) (hu:∀cs∈rows,cs.length=k) (ad:Addr) (had:a=some ad):∀j u,rows.flatten[j]? =some u->w.cell? (ad.add j)=some u:=by
 intro j u hj;obtain⟨a',cap',he,hm,hr⟩:=h;simp only[zO]at he;obtain⟨rfl,rfl,rfl⟩:=he;subst had;have hl:=eU k rows hu;obtain⟨hjl,_⟩:=gI.1 hj;rw[hl]at hjl;have h0:0<rows.length:=by
  rcases hz:rows.length with _|m
  .rw[hz]at hjl;omega
  omega
 obtain⟨b,off,he,hb,hc⟩:=hr h0;simp only[zF]at he;subst he;have a0:j=j/k*k+j%k:=by rw[Nat.mul_comm];exact(Nat.div_add_mod j k).symm
 have a1:j%k<k:=Nat.mod_lt _ hk;have hq:j/k<rows.length:=Nat.div_lt_of_lt_mul (by rwa [Nat.mul_comm]);have a2:=hu rows[j/k] (getElem_mem hq);have h1:=pS k rows hu (j/k) (j%k) a1;rw[<-a0,hj,gE hq]at h1;have h2:=hc (j/k) rows[j/k] (gE hq) (j%k) u h1.symm;rw[Addr.add_lit];rw[show off+j=off+j/k*k+j%k by omega];exact h2
def Grew (B:Nat) (e:TypeId) (k:Nat) (w:World) (v:Value) (rows:List (List Value)) (v':Value) (w':World):Prop:=
 OwnP B w' e k v' rows/\Keep (λg=>v.ownBlock=some g) w w'/\(v'.ownBlock=v.ownBlock\/v'.ownBlock=some w.heap.size)
theorem sN (w:World) (B:Nat) (t ty e:TypeId) (k bytes:Nat) (i:TypeInfo) (z:Value) (ht:P.underlying t=some (.slice e)) (hi:P.info? e=some i) (hz:i.zero=some z) (hsize:i.size=k) (hby:i.bytes=bytes) (hzs:z.cells.size=k) (hk:0<k)
 (v x:Value) (rows more:List (List Value)) (hu:∀cs∈rows,cs.length=k) (hum:∀cs∈more,cs.length=k) (h1:∀cs∈more,∀u∈cs,u.oneCell'=true) (ho:OwnP B w e k v rows) (hx:RowAt w k x more) (h63:rows.length+more.length<=maxLen) (hb:(rows.length+more.length)*bytes<=140737488355328) (hB:B<=w.heap.size):
 ∃v' w',(Builtin.append_ #[t,t] ty #[v,x]).run P w=.ok v' w'/\Grew B e k w v (rows++more) v' w':=by
 have a1:=hx;obtain⟨a,cap,rfl,hm,hr⟩:=a1;rcases a with _|ad
 .have h0:more=[]:=by
   rcases hz2:more.length with _|m
   .exact zT hz2
   obtain⟨b,off,he,_⟩:=hr (by omega);cases he
  subst h0;have a0:(Builtin.append_ #[t,t] ty #[v,.slice none ([]:List (List Value)).length cap]).run P w=.ok v w:=by
   rcases ho with⟨rfl,rfl⟩|⟨g,cap',arr,rfl,hg,hbk,hn,_⟩
   .exact oD w t ty e i ht hi 0 0 cap none (zC _)
   exact oD w t ty e i ht hi _ cap' cap _ hn
  refine⟨v,w,a0,by rw[append_nil];exact ho,Keep.refl _ _,.inl rfl⟩
 obtain⟨v',w',a0,hown,hgr,_,hat⟩:=run_append_own_at (P:=P) w B t ty e i z k bytes ht hi hz hsize hby hzs hk v rows.length rows.flatten (ho.own hk hu) ad more.length cap more.flatten (eU k more hum) (aKF hx hk hum ad rfl) (λu hu2=>by
  obtain⟨cs,hcs,hu3⟩:=mem_flatten.1 hu2;exact h1 cs hcs u hu3) h63 hb hB
 refine⟨v',w',a0,?_,(Keep.refl _ w).grown hgr (λg hg=>.inl hg),hat⟩;refine OwnP.of_own ?_ hk (λcs hcs=>(mem_append.1 hcs).elim (hu cs) (hum cs));rw[lP,flatten_append];exact hown
theorem jR (w:World) {ops:Array Oper} {rest:List Oper} {Q:Exit->Act->World->Prop} (hgd:o.guard=none) (s y:Operand) (t:TypeId)
 (hop:o.op=.call { callee:=.builtin .append,args:=#[s,y],argTypes:=#[t,t]})
 (B:Nat) (e:TypeId) (k bytes:Nat) (i:TypeInfo) (z:Value) (ht:P.underlying t=some (.slice e)) (hi:P.info? e=some i) (hz:i.zero=some z) (hsize:i.size=k) (hby:i.bytes=bytes) (hzs:z.cells.size=k) (hk:0<k)
 (v x:Value) (rows more:List (List Value)) (hs:a.eval s=v) (hy:a.eval y=x) (hu:∀cs∈rows,cs.length=k) (hum:∀cs∈more,cs.length=k) (h1:∀cs∈more,∀u∈cs,u.oneCell'=true) (ho:OwnP B w e k v rows) (hx:RowAt w k x more) (h63:rows.length+more.length<=maxLen) (hb:(rows.length+more.length)*bytes<=140737488355328) (hB:B<=w.heap.size)
 (h:∀v' w',Grew B e k w v (rows++more) v' w'->wpList P ops Q rest (a.put o.dst v') w'):
 wpList P ops Q (o::rest) a w:=by
 refine wpList_plain hgd λK hK=>?_;obtain⟨v',w',hr,hg⟩:=sN (P:=P) w B t o.type e k bytes i z ht hi hz hsize hby hzs hk v x rows more hu hum h1 ho hx h63 hb hB;unfold Oper.wp execOp;simp only[hop,resolve,invoke,builtin,Sem.run_bind,Sem.run_pure,Result.andThen_ok,map_toArray,xB,map_nil,hs,hy,hr];exact hK _ _ (h v' w' hg)
theorem sO {K:Value->World->Prop} (s y:Operand) (t:TypeId)
 (hop:o.op=.call { callee:=.builtin .append,args:=#[s,y],argTypes:=#[t,t]})
 (B:Nat) (e:TypeId) (k bytes:Nat) (i:TypeInfo) (z:Value) (ht:P.underlying t=some (.slice e)) (hi:P.info? e=some i) (hz:i.zero=some z) (hsize:i.size=k) (hby:i.bytes=bytes) (hzs:z.cells.size=k) (hk:0<k)
 (v x:Value) (rows more:List (List Value)) (hs:a.eval s=v) (hy:a.eval y=x) (hu:∀cs∈rows,cs.length=k) (hum:∀cs∈more,cs.length=k) (h1:∀cs∈more,∀u∈cs,u.oneCell'=true) (ho:OwnP B w e k v rows) (hx:RowAt w k x more) (h63:rows.length+more.length<=maxLen) (hb:(rows.length+more.length)*bytes<=140737488355328) (hB:B<=w.heap.size)
 (h:∀v' w',Grew B e k w v (rows++more) v' w'->K v' w'):o.eff P a w K:=by
 obtain⟨v',w',hr,hg⟩:=sN (P:=P) w B t o.type e k bytes i z ht hi hz hsize hby hzs hk v x rows more hu hum h1 ho hx h63 hb hB;unfold Oper.eff execOp;simp only[hop,resolve,invoke,builtin,Sem.run_bind,Sem.run_pure,Result.andThen_ok,map_toArray,xB,map_nil,hs,hy,hr];exact h v' w' hg
theorem RowAt.single {b:Nat} {t:TypeId} {cs:List Value} (h:Blk w b cs.toArray t) (k cap:Nat):RowAt w k (.slice b 1 cap) [cs]:=by
 refine⟨_,_,rfl,by unfold maxLen;simp,λ_=>⟨b,0,rfl,h.lt.lt,λq c hq u x hu=>?_⟩⟩;rcases q with _|q
 .simp only[zH,zF]at hq;subst hq;rw[h.cell];simpa using hu
 simp at hq
theorem aMN:∀(zs:List ByteArray),∀cs∈zs.map (λn=>[Value.string n]),cs.length=1:=by intro zs cs h;obtain⟨r,_,rfl⟩:=mem_map.1 h;rfl
theorem aWP:∀(zs:List ByteArray),∀cs∈zs.map (λn=>[Value.string n]),∀u∈cs,u.oneCell'=true:=by intro zs cs h u hu;obtain⟨r,_,rfl⟩:=mem_map.1 h;simp only[mem_cons,not_mem_nil,or_false]at hu;subst hu;rfl
def aEX {α:Type} (cells:α->List Value) (sl e m:Nat):Prop:=∀{w:World} {ops:Array Oper} {rest:List Oper} {o:Oper} {a:Act} {Q:Exit->Act->World->Prop} (hgd:o.guard=none) (s y:Operand)
 (hop:o.op=.call { callee:=.builtin .append,args:=#[s,y],argTypes:=#[sl,sl]}) (B:Nat) (v x:Value) (zs more:List α) (hs:a.eval s=v) (hy:a.eval y=x) (ho:OwnP B w e m v (zs.map cells)) (hx:RowAt w m x (more.map cells)) (hl:zs.length+more.length<=1000000000000) (hB:B<=w.heap.size)
 (h:∀v' w',Grew B e m w v ((zs++more).map cells) v' w'->wpList prog ops Q rest (a.put o.dst v') w'),wpList prog ops Q (o::rest) a w
theorem vA {α:Type} {cells:α->List Value} {sl e m bytes:Nat} {z:Value} (hinf:(prog.info? e).map (λi=>(i.zero,i.size,i.bytes))=some (some z,m,bytes)) (ht:prog.underlying sl=some (.slice e)) (hc:z.cells.size=m) (hk:0<m) (hbb:bytes<=100) (hu:∀l:List α,∀cs∈l.map cells,cs.length=m) (h1r:∀l:List α,∀cs∈l.map cells,∀u∈cs,u.oneCell'=true):aEX cells sl e m:=by
 intro w ops rest o a Q hgd s y hop B v x zs more hs hy ho hx hl hB h;obtain⟨i,hi,hz,h1,h2⟩:=info_parts hinf;refine jR w hgd s y sl hop B e m bytes i _ ht hi hz h1 h2 hc hk v x (zs.map cells) (more.map cells) hs hy (hu _) (hu _) (h1r _) ho hx ?_ ?_ hB ?_
 .rw[lM,lM];unfold maxLen;omega
 .rw[lM,lM];exact zD (Nat.mul_le_mul hl hbb) (by decide)
 intro v' w' hg;rw[<-yS]at hg;exact h v' w' hg
theorem sP:aEX PEnt.cells 66 97 2:=vA aDU underlying66 rfl (by decide) (by decide) pJ sJ
theorem vC:aEX IRec.cells 22 68 4:=vA wL underlying22 rfl (by decide) (by decide) gL pK
theorem nG:aEX PDesc.cells 23 95 3:=vA aDV underlying23 rfl (by decide) (by decide) nD qA
theorem aWQ:aEX aJ 24 3 1:=vA aAS underlying24 rfl (by decide) (by decide) vP aMF
theorem aYY:aEX (λn:ByteArray=>[Value.string n]) 50 9 1:=vA aTJ underlying50 rfl (by decide) (by decide) aMN aWP
end
section
variable {B k:Nat} {S:PSt} {e:TypeId} {mv ov v:Value} {rows:List (List Value)} {w w':World}
theorem OwnP.below (h:OwnP B w e k v rows) (hb:Bl w w'):OwnP B w' e k v rows:=h.keep (Keep.of_below hb (λ_=>False)) (λ_ _ h=>h)
theorem Grew.on {v':Value} {rows':List (List Value)} (h:Grew B e k w v rows v' w') (ho:OwnP B w e k v rows') (hB:B<=w.heap.size):Below B w w':=h.2.1.below hB (λi hi hg=>by have:=ho.ge hg;omega)
theorem OwnP.formL (h:OwnP B w e k v rows):∃a c,v=.slice a rows.length c:=by
 rcases h with⟨rfl,rfl⟩|⟨g,cap,arr,rfl,_⟩
 .exact⟨_,_,rfl⟩
 exact⟨_,_,rfl⟩
theorem StOwn.ins_form {iv:Value} (h:StOwn B w iv ov mv S) (h0:0<S.ins.length):∃bi cap,iv=.slice (some ⟨bi,0,none⟩) S.ins.length cap:=by
 obtain⟨_,_,is,h3,h4,_⟩:=h;rcases h3 with⟨_,h1⟩|⟨g,cap,arr,rfl,_⟩
 .rw[map_eq_nil_iff]at h1;rw[h1]at h4;simp at h4;omega
 exact⟨g,cap,by rw[lM,h4]⟩
theorem StOwn.ins_thaw {w1:World} {bi cap K:Nat} (h:StOwn B w (.slice bi S.ins.length cap) ov mv S) (hK:K<S.ins.length) (hb:Bl w w1):w1.frozen? ⟨bi,K*4+2,none⟩=false:=by
 obtain⟨_,_,is,h3,h4,_⟩:=h;have h3:=h3.below hb;rcases h3 with⟨h1,_⟩|⟨g,cap,arr,he,_,hbk,_⟩
 .cases h1
 simp only[zO,zF,yG]at he;obtain⟨⟨rfl,-,-⟩,-,-⟩:=he;exact hbk.frozen _
theorem aMP (B b:Nat) (S:PSt) (iv ov mv:Value) (dir num:Int) (name:ByteArray) (K:Nat) (x:PIn) (w:World) (hb:Blk w b #[iv,ov,mv] 26) (ho:StOwn B w iv ov mv S) (hB:B<=w.heap.size) (hwf:S.wf) (hns:name.size<=1000000000) (hat:bP S dir=K) (hx:S.ins[K]? =some x):
 Calls prog 122 #[.pointer b,dir,name,num] w λe w'=>e=.returned (.tuple #[])/\Below B w w'/\Keep (tZ w) w w'/\StOwn B w' iv ov mv (S.ents K x (cT (λe=>eA name e.name) ⟨name,num⟩ x.ents false [])):=by
 obtain⟨hKl,-⟩:=gI.1 hx;obtain⟨bi,cap,rfl⟩:=ho.ins_form (by omega);have a7:vB w 85 #[.agg #[.slice bi S.ins.length cap,ov,mv],.int .i64 dir] (.int .i64 (K:Int)):=λww hb=>by have:=aBK S _ ov mv dir ww (ho.read.below hb (zC _)) hwf.1;rw[hat]at this;exact this
 obtain⟨a,cap',e1,hai⟩:=ho.read.ins_at2;cases e1;obtain⟨bi',oi,ev,he,iI0,hoi,her,hci⟩:=hai K x hx;cases he;obtain⟨iI,-,-,x2,-⟩:=hci w (Below.refl _ _);rw[zM]at x2;have b4:=aC x2;have b5:=(hwf.2.2.2.1 x (mG hx)).2.1;obtain⟨ae,ce,rfl,hae⟩:=her.at_;rw[lM]at x2;obtain⟨iL,s0,s1,s2⟩:=gR hb;have a8:=ho.1.one;have a4:=ho.2.1.one;obtain⟨ao,co,rfl⟩:=ho.1.formL;obtain⟨am,cm,rfl⟩:=ho.2.1.formL;simp only[lM]at a7 s1 s2;have b8:(K:Int)<S.ins.length:=by omega
 have H:=eH ho hx hb;obtain⟨xn,xd,xe,xs⟩:=x;simp only at x2 hae b5 |-;obtain⟨R,hR⟩:∃R,cT (λe=>eA name e.name) ⟨name,num⟩ xe false []=R:=⟨_,rfl⟩;rw[hR];have HR:=aC hR;have HA:=aC hae;have b2:∀w2,Bl w w2->BlockLt bi w2/\w2.cell? ⟨bi,K*4+2,none⟩=some (.slice ae xe.length ce):=by intro w2 h2;obtain⟨i2,-,-,y2,-⟩:=hci w2 h2;rw[zM,lM]at y2;exact⟨i2,y2⟩
 have a9:=aC b2;clear b2;clear ho hx hb her hai hoi hci hR hae a8 a4 hat;go_in;go_upto_region 0 with fail;refine qR ?_
 repeat(go_big_quiet_step ((with_reducible first|refine cI (a7 _ (bel _ _))|refine cJ (a7 _ (bel _ _)))))
 refine QN λp=>?_;go_wp2
 go_loopw[9,10,11] (λv9 v10 i wr=>∃(q:Nat) (d:Bool) (zs:List PEnt),i=.int .i64 q/\v10=.bool d/\q<=xe.length/\zs.length<=2*q/\OwnP w.heap.size wr 97 2 v9 (zs.map PEnt.cells)/\cT (λe=>eA name e.name) ⟨name,num⟩ (xe.drop q) d zs=R/\Bl w wr) (λ_ _ i _=>(xe.length-intOf i).toNat)
 case atStart=>exact⟨0,false,[],rfl,rfl,by omega,by simp,.inl ⟨rfl,rfl⟩,HR.out,bel _ _⟩
 obtain⟨q,d,zs,rfl,rfl,hq,hzl,hO,hre,hbw⟩:=hrel;have iB:Bel w wr:=⟨hbw⟩;obtain⟨iI2,y2⟩:=a9.out wr hbw;obtain⟨va,vc,rfl⟩:=hO.formL;generalize hzn:(zs.map PEnt.cells).length=zn at hO |-;have HO:=bJ hO hzn;clear hO hzn;by_cases hlt:q<xe.length
 .obtain⟨z,hz⟩:=gAA hlt
  rw[qI _ _ _ q z d zs hz]at hre;obtain⟨be,oe,rfl,iE0,iE,hce⟩:=HA.out wr hbw q z.cells (by rw[gM,hz];rfl);have c0:=hce 0 _ rfl;have c1:=hce 1 _ rfl;rw[zN]at c0;have b0:(q:Int)<xe.length:=by omega
  have b3:∀w2,Bl w w2->BlockLt be w2/\w2.cell? ⟨be,oe+q*2,none⟩=some (.string z.name)/\w2.cell? ⟨be,oe+q*2+1,none⟩=some (.int .i64 z.num):=by intro w2 h2;obtain⟨be',oe',he,_,i2,hc⟩:=HA.out w2 h2 q z.cells (by rw[gM,hz];rfl);cases he;exact⟨i2,hc 0 _ rfl,hc 1 _ rfl⟩
  have b6:=aC b3;clear hce hz b3;rcases d with _|_
  .rw[zA (by decide)]at hre;have b1:∀ww,vR ww 81 #[.string name,.string z.name] (.bool (eA name z.name)):=λww=>aFC name z.name (by omega) ww
   generalize eA name z.name=t at hre b1;rcases t with _|_
   .rw[zA (by decide)]at hre;have a3:=aC hre;clear hre;go_wp2_with(first|(go_at_call 81;refine aE (b1 _) λp=>?_)|(at_builtin;refine sP rfl (.tmp 51) (.tmp 59) rfl w.heap.size _ _ zs [z] rfl (by go_simp) (HO.out.1.below (bel wr _)) (RowAt.single (Blk.new_i _ _ _ _) 2 1) (by simp;omega) (bel w _).size ?_))
    intro v' w' hg;have a2:=hg.on (HO.out.1.below (bel wr _)) (bel w _).size;have a0:=(bel w _).trans a2;have a1:OwnP w.heap.size w' 97 2 v' ((zs++[z]).map PEnt.cells):=by have:=hg.1;simpa using this
    have H2:=bJ a1 a0;clear hg a2 a1 a0;go_wp2;go_roundw
    case rel=>exact⟨q+1,false,_,by go_num,rfl,by omega,by simp;omega,H2.out.1,a3.out,H2.out.2⟩
    simp[intOf];omega
   rw[zB rfl]at hre;have a3:=aC hre;clear hre;go_wp2_with(first|(go_at_call 81;refine aE (b1 _) λp=>?_)|(at_builtin;refine sP rfl (.tmp 45) (.tmp 49) rfl w.heap.size _ _ zs [⟨name,num⟩] rfl (by go_simp) (HO.out.1.below (bel wr _)) (RowAt.single (Blk.new_i _ _ _ _) 2 1) (by simp;omega) (bel w _).size ?_));intro v' w' hg;have a2:=hg.on (HO.out.1.below (bel wr _)) (bel w _).size;have a0:=(bel w _).trans a2;have a1:OwnP w.heap.size w' 97 2 v' ((zs++[(⟨name,num⟩:PEnt)]).map PEnt.cells):=by have:=hg.1;simpa using this
   have i2:Bel w w':=⟨a0⟩;have H2:=aC a1;obtain⟨iE2,d0,d1⟩:=b6.out w' a0;obtain⟨iI3,z2⟩:=a9.out w' a0;clear hg a2 a1 a0 c0 c1 iE y2 iI2;go_wp2_with(at_builtin;refine sP rfl (.tmp 51) (.tmp 59) rfl w.heap.size _ _ (zs++[(⟨name,num⟩:PEnt)]) [z] rfl (by go_simp) (H2.out.below (bel w' _)) (RowAt.single (Blk.new_i _ _ _ _) 2 1) (by simp;omega) (bel w _).size ?_);intro v' w'' hg;have a2:=hg.on (H2.out.below (bel w' _)) (bel w _).size;have a0:=(bel w _).trans a2;have a1:OwnP w.heap.size w'' 97 2 v' ((zs++[(⟨name,num⟩:PEnt)]++[z]).map PEnt.cells):=by have:=hg.1;simpa using this
   have H3:=bJ a1 a0;clear hg a2 a1 a0;go_wp2;go_roundw
   case rel=>exact⟨q+1,true,_,by go_num,rfl,by omega,by simp;omega,H3.out.1,a3.out,H3.out.2⟩
   simp[intOf];omega
  rw[zB rfl]at hre;have a3:=aC hre;clear hre;go_wp2_with(at_builtin;refine sP rfl (.tmp 51) (.tmp 59) rfl w.heap.size _ _ zs [z] rfl (by go_simp) (HO.out.1.below (bel wr _)) (RowAt.single (Blk.new_i _ _ _ _) 2 1) (by simp;omega) (bel w _).size ?_);intro v' w' hg;have a2:=hg.on (HO.out.1.below (bel wr _)) (bel w _).size;have a0:=(bel w _).trans a2;have a1:OwnP w.heap.size w' 97 2 v' ((zs++[z]).map PEnt.cells):=by have:=hg.1;simpa using this
  have H2:=bJ a1 a0;clear hg a2 a1 a0;go_wp2;go_roundw
  case rel=>exact⟨q+1,true,_,by go_num,rfl,by omega,by simp;omega,H2.out.1,a3.out,H2.out.2⟩
  simp[intOf];omega
 rw[aAD _ _ _ q d zs hlt]at hre;have b0:¬(q:Int)<xe.length:=by omega
 have a5:∀(w1:World) (v:Value),OwnP w.heap.size w1 97 2 v (R.map PEnt.cells)->Bl w w1->Below B w (w1.setCell ⟨bi,K*4+2,none⟩ v)/\Keep (tZ w) w (w1.setCell ⟨bi,K*4+2,none⟩ v)/\StOwn B (w1.setCell ⟨bi,K*4+2,none⟩ v) (.slice bi S.ins.length cap) (.slice ao (S.op.map PDesc.cells).length co) (.slice am (S.made.map aJ).length cm) (S.ents K ⟨xn,xd,xe,xs⟩ R):=by intro w1 v h1 h2;obtain⟨ho,hx,hb⟩:=H.out;obtain⟨r1,r2,r3⟩:=ho.setEnts hx b4.out (h1.mono hB) (Keep.of_below h2 _) (λk hk=>.inr (h1.ge hk)) hB;exact⟨r2,r3,r1⟩
 have a6:=aC a5;clear a5;rcases d with _|_
 .rw[zA (by decide)]at hre;have a3:=aC hre;clear hre;go_wp2_with(at_builtin;refine sP rfl (.tmp 63) (.tmp 67) rfl w.heap.size _ _ zs [⟨name,num⟩] rfl (by go_simp) (HO.out.1.below (bel wr _)) (RowAt.single (Blk.new_i _ _ _ _) 2 1) (by simp;omega) (bel w _).size ?_)
  intro v' w' hg;have a2:=hg.on (HO.out.1.below (bel wr _)) (bel w _).size;have a0:=(bel w _).trans a2;have i2:Bel w w':=⟨a0⟩;obtain⟨iI3,z2⟩:=a9.out w' a0;have a1:OwnP w.heap.size w' 97 2 v' ((zs++[(⟨name,num⟩:PEnt)]).map PEnt.cells):=by have:=hg.1;simpa using this
  rw[a3.out]at a1;have hf:=a6.out w' v' a1 a0;obtain⟨va2,vc2,rfl⟩:=a1.formL;generalize(R.map PEnt.cells).length=zn2 at hf |-;have HF:=aC hf;have b7:=H.out.1.ins_thaw hKl a0;clear hg a2 a1 a0 hf;go_wp2;exact xE (v:=.tuple #[]) (by simp[results,go_sem]) rfl ⟨rfl,by have:=HF.out;first|exact this|(simp only[lM]at this;exact this)⟩
 rw[zB rfl]at hre;subst hre;have hf:=a6.out wr _ HO.out.1 hbw;have HF:=aC hf;have b7:=H.out.1.ins_thaw hKl hbw;clear hf;go_wp2;exact xE (v:=.tuple #[]) (by simp[results,go_sem]) rfl ⟨rfl,by have:=HF.out;first|exact this|(simp only[lM]at this;exact this)⟩
end
def p1 (c:UInt8):ByteArray:=⟨#[47,c]⟩
def n1 (c:UInt8):ByteArray:=⟨#[c]⟩
theorem aKM (b:Int) (but:ByteArray) (es:List PEnt) (q:Nat) (e:PEnt) (a:Int) (h:es[q]? =some e):eG b but (es.drop q) a=eG b but (es.drop (q+1)) (if (!(e.name.toList==but.toList)&&bA e.name==b)=true then a+1 else a):=by obtain⟨hl,rfl⟩:=gI.1 h;rw[yH hl,eG]
theorem aPR (b:Int) (but:ByteArray) (es:List PEnt) (q:Nat) (a:Int) (h:¬q<es.length):eG b but (es.drop q) a=a:=by rw[zS (by omega),eG]
theorem uC (S:PSt) (iv ov mv:Value) (dir:Int) (name but:ByteArray) (K:Nat) (x:PIn) (w:World) (h:StRead w iv ov mv S) (hwf:S.wf) (hat:bP S dir=K) (hx:S.ins[K]? =some x) (hns:name.size<=1000000000) (hes:∀e∈x.ents,e.name.size<=1000000000):
 vR w 121 #[.agg #[iv,ov,mv],.int .i64 dir,.string name,.string but] (.bool (decide (4<=eG (bA name) but x.ents 0))):=by
 have a8:=vK h hwf.1 hat;obtain⟨ai,ni,ci,ao,no,co,am,nm',cm,rfl,rfl,rfl⟩:=h.slices;obtain⟨a,cap',e1,hai⟩:=h.ins_at2;cases e1;obtain⟨bi,oi,ev,rfl,iI0,hoi,her,hci⟩:=hai K x hx;have a4:=aC hci;obtain⟨hxl,-⟩:=gI.1 hx;have b2:(K:Int)<S.ins.length:=by omega
 have b3:=(hwf.2.2.2.1 x (mG hx)).2.1;obtain⟨ae,ce,rfl,hae⟩:=her.at_;rw[lM]at a4;have HA:=aC hae;obtain⟨R,hR⟩:=gAB (eG (bA name) but x.ents 0);rw[hR];have HR:=aC hR;have a9:=aC hes;obtain⟨xn,xd,xe,xs⟩:=x;simp only at a4 HA HR a9 b3;obtain⟨iI,x0,x1,x2,x3⟩:=a4.out w (Below.refl _ _);clear h hai her hoi hci hx hwf hae hR hes;unfold vR;go_in;go_upto_region 2 with fail;go_cut [10] (λv10 wx=>∃g,v10=.pointer (some ⟨g,0,none⟩)/\Bl w wx/\Blk wx g #[xn,xd,.slice ae xe.length ce,xs] 68)
 case first=>
  go_region_held3 (λw'=>w'.cell? w.heap.size=some (.slice (some ⟨bi,oi,none⟩) S.ins.length ci)/\w'.cell? ⟨w.heap.size,1,none⟩=some (.slice ao no co)/\w'.cell? ⟨w.heap.size,2,none⟩=some (.slice am nm' cm)/\w'.cell? ⟨bi,oi+K*4,none⟩=some (.int .i64 xn)/\w'.cell? ⟨bi,oi+K*4+1,none⟩=some (.bool xd)/\w'.cell? ⟨bi,oi+K*4+2,none⟩=some (.slice ae xe.length ce)/\w'.cell? ⟨bi,oi+K*4+3,none⟩=some (.string xs))
   (first|(try dsimp only)<;>(repeat' apply And.intro)<;>go_simp)
   (first|(go_at_call 85;refine aE (a8 _ (bel _ _)) λp=>?_))
  all_goals go_wp2_with fail
  all_goals go_meet
  all_goals(refine ⟨_,rfl,bel _ _,?_⟩)
  all_goals(repeat (first|exact Blk.new_i _ _ _ _|refine Blk.alloc ?_ _|refine Blk.junk ?_ _|refine Blk.drew ?_))
 obtain⟨g,rfl,hbc,hG⟩:=hcut;have HG:=bJ hG hbc;clear x0 x1 x2 x3 iI hG hbc a8;go_wp2
 go_loopw[9,11] (λv9 i wr=>∃(q:Nat) (a:Int),i=.int .i64 q/\v9=.int .i64 a/\q<=xe.length/\0<=a/\a<=q/\eG (bA name) but (xe.drop q) a=R/\Bl w wr/\Blk wr g #[xn,xd,.slice ae xe.length ce,xs] 68) (λ_ i _=>(xe.length-intOf i).toNat)
 case atStart=>exact⟨0,0,rfl,rfl,by omega,by omega,by omega,HR.out,HG.out.2,HG.out.1⟩
 obtain⟨q,a,rfl,rfl,hq,ha0,haq,a0,hb,hG⟩:=hrel;have iB:Bel w wr:=⟨hb⟩;have iG:=hG.lt;have g2:=hG.cell 2;simp at g2;have a5:=aC hG;clear hG;by_cases hlt:q<xe.length
 .obtain⟨z,hz⟩:=gAA hlt
  rw[aKM _ _ _ q z a hz]at a0;obtain⟨be,oe,rfl,iE0,iE,hce⟩:=HA.out wr hb q z.cells (by rw[gM,hz];rfl);have c0:=hce 0 _ rfl;rw[zN]at c0;have a6:(q:Int)<xe.length:=by omega
  have b0:=a9.out z (mG hz);have a3:∀ww,vR ww 87 #[.string z.name] (.int .i64 (bA z.name)):=λww=>sU z.name b0 ww;have a1:∀ww,vR ww 87 #[.string name] (.int .i64 (bA name)):=λww=>sU name hns ww;generalize hzn:z.name=zn at *;generalize hb1:(zn.toList==but.toList)=b1 at a0;generalize bA zn=k1 at a0 a3;generalize bA name=k2 at a0 a1;have w1:IntKind.i64.wrap (a+1)=a+1:=I64.wrap ⟨by omega,by omega⟩;clear hce hz b0;rcases b1 with _|_
  .by_cases hk:k1=k2
   .have a7:(k1==k2)=true:=by simpa using hk
    rw[a7]at a0;have a0:eG k2 but (xe.drop (q+1)) (a+1)=R:=a0;have a2:=aC a0;clear a0 hk;go_wp2_with(first|(go_at_call 87;with_reducible refine aE (a3 _) λp=>?_)|(go_at_call 87;with_reducible refine aE (a1 _) λp=>?_));go_roundw
    case rel=>exact⟨q+1,a+1,by go_num,by go_num,by omega,by omega,by omega,a2.out,bel _ _,(Keep.of_below (bel wr _) (λ_=>False)).blk a5.out (λh=>h)⟩
    simp[intOf];omega
   have a7:(k1==k2)=false:=by simpa using hk
   rw[a7]at a0;have a0:eG k2 but (xe.drop (q+1)) a=R:=a0;have a2:=aC a0;clear a0;go_wp2_with(first|(go_at_call 87;with_reducible refine aE (a3 _) λp=>?_)|(go_at_call 87;with_reducible refine aE (a1 _) λp=>?_));go_roundw
   case rel=>exact⟨q+1,a,by go_num,rfl,by omega,by omega,by omega,a2.out,bel _ _,(Keep.of_below (bel wr _) (λ_=>False)).blk a5.out (λh=>h)⟩
   simp[intOf];omega
  have a0:eG k2 but (xe.drop (q+1)) a=R:=a0;have a2:=aC a0;clear a0;go_wp2_with(first|(go_at_call 87;with_reducible refine aE (a3 _) λp=>?_)|(go_at_call 87;with_reducible refine aE (a1 _) λp=>?_));go_roundw
  case rel=>exact⟨q+1,a,by go_num,rfl,by omega,by omega,by omega,a2.out,bel _ _,(Keep.of_below (bel wr _) (λ_=>False)).blk a5.out (λh=>h)⟩
  simp[intOf];omega
 rw[aPR _ _ _ q a hlt]at a0;subst a0;have a6:¬(q:Int)<xe.length:=by omega
 go_wp2;go_ret;exact gAC
section
def aR (code fd num:Int):Value:=.agg #[code,fd,num,false,.string ⟨#[]⟩,.slice none 0 0]
theorem aKN (k:Int) (w:World):vR w 92 #[.int .i64 k] (aR k 0 0):=by unfold vR;go_in;go_wp2;exact xD (v:=aR k 0 0) (by simp[results,Tryz.results92,go_sem,aR]) rfl ⟨rfl,bel _ _⟩
variable {B:Nat} {S:PSt} {iv mv ov:Value} {w:World}
theorem StOwn.on {w1:World} (h:StOwn B w iv ov mv S) (hb:Bl w w1):StOwn B w1 iv ov mv S:=h.keep (Keep.of_below hb (λ_=>False)) (λ_ h=>h.elim)
theorem StOwn.setOp {ov':Value} {zs:List PDesc} (h:StOwn B w iv ov mv S) (ho:OwnP B w 95 3 ov' (zs.map PDesc.cells)):StOwn B w iv ov' mv { S with op:=zs}:=⟨ho,h.2⟩
def fN (core fd:Int) (o:PDesc):Bool:=decide (core<o.core)||((o.core==core)&&decide (fd<o.fd))
theorem aWT (B b:Nat) (S:PSt) (iv ov mv:Value) (core fd num:Int) (w:World) (hb:Blk w b #[iv,ov,mv] 26) (ho:StOwn B w iv ov mv S) (hB:B<=w.heap.size) (hBb:B<=b) (hol:S.op.length<=1000000000):
 Calls prog 123 #[.pointer b,core,fd,num] w λe w'=>e=.returned (.tuple #[])/\Below B w w'/\Keep (λg=>g=b) w w'/\∃ov',Blk w' b #[iv,ov',mv] 26/\StOwn B w' iv ov' mv { S with op:=cT (fN core fd) ⟨core,fd,num⟩ S.op false []}:=by
 have b3:=ho.2.1.one;obtain⟨ai,ni,ci,ao,no,co,am,nm',cm,rfl,rfl,rfl⟩:=ho.read.slices;obtain⟨a,cap',e1,hat⟩:=ho.read.1.at_;rw[lM]at e1;cases e1;have HA:=aC hat;obtain⟨R,hR⟩:∃R,cT (fN core fd) ⟨core,fd,num⟩ S.op false []=R:=⟨_,rfl⟩;rw[hR];have HR:=aC hR;have b6:∀w2,Bl w w2->BlockLt b w2/\w2.cell? ⟨b,1,none⟩=some (.slice ao S.op.length co)/\w2.frozen? ⟨b,1,none⟩=false:=by intro w2 h2;have h3:=(Keep.of_below h2 (λ_=>False)).blk hb (λh=>h);have c1:=h3.cell 1;simp at c1;exact⟨h3.lt,c1,h3.frozen 1⟩
 have b7:=aC b6;have HH:=bJ hb ho;clear hat hR b6 ho hb b3;go_in;go_wp2
 go_loopw[9,10,11] (λv9 v10 i wr=>∃(q:Nat) (d:Bool) (zs:List PDesc),i=.int .i64 q/\v10=.bool d/\q<=S.op.length/\zs.length<=2*q/\OwnP (w.heap.size+1) wr 95 3 v9 (zs.map PDesc.cells)/\cT (fN core fd) ⟨core,fd,num⟩ (S.op.drop q) d zs=R/\Bl w wr/\Blk wr w.heap.size #[core,fd,num] 95) (λ_ _ i _=>(S.op.length-intOf i).toNat)
 case atStart=>exact⟨0,false,[],rfl,rfl,by omega,by simp,.inl ⟨rfl,rfl⟩,HR.out,bel _ _,Blk.new w _ 95⟩
 obtain⟨q,d,zs,rfl,rfl,hq,hzl,hO,hre,hbw,hd8⟩:=hrel;have iB:Bel w wr:=⟨hbw⟩;have iD:=hd8.lt;have a4:w.heap.size+1<=wr.heap.size:=iD.lt;obtain⟨iL,y1,yf⟩:=b7.out wr hbw;obtain⟨-,e0,e1,e2⟩:=gR hd8;obtain⟨va,vc,rfl⟩:=hO.formL;generalize hzn:(zs.map PDesc.cells).length=zn at hO |-;have HO:=eH hO hzn hd8;clear hO hzn hd8;by_cases hlt:q<S.op.length
 .obtain ⟨z,hz⟩:∃z,S.op[q]? =some z:=⟨_,gE hlt⟩
  rw[qI _ _ _ q z d zs hz]at hre;obtain⟨be,oe,rfl,iE0,iE,hce⟩:=HA.out wr hbw q z.cells (by rw[gM,hz];rfl);have c0:=hce 0 _ rfl;have c1:=hce 1 _ rfl;have c2:=hce 2 _ rfl;rw[zN]at c0;have b4:(q:Int)<S.op.length:=by omega
  clear hce hz;obtain⟨zc,zf,zm⟩:=z;simp only at c0 c1 c2;rcases d with _|_
  .rw [zA (by decide)]at hre;by_cases hA:core<zc
   .have ha:fN core fd ⟨zc,zf,zm⟩=true:=by simp[fN,hA]
    rw[ha,zB rfl]at hre;have a5:=aC hre;have c3:∀w2,Bl w w2->BlockLt be w2:=by intro w2 h2;exact⟨zR iE0.lt h2.size⟩
    clear hre;go_wp2_with(at_builtin;refine nG rfl (.tmp 53) (.tmp 55) rfl (w.heap.size+1) _ _ zs [⟨core,fd,num⟩] rfl (by go_simp) (HO.out.1.below (bel wr _)) (RowAt.single (Blk.new_i _ _ _ _) 3 1) (by simp;omega) (zD a4 (bel wr _).size) ?_);intro v' w' hg;have a0:=hg.on (HO.out.1.below (bel wr _)) (zD a4 (bel wr _).size);have a2:=(bel w _).trans (a0.mono (Nat.le_succ _));have a1:OwnP (w.heap.size+1) w' 95 3 v' ((zs++[(⟨core,fd,num⟩:PDesc)]).map PDesc.cells):=by have:=hg.1;simpa using this
    have a3:=hg.2.1.blk ((Keep.of_below (bel wr _) (λ_=>False)).blk HO.out.2.2 (λh=>h)) (λh=>by have:=HO.out.1.ge h;omega);have a6:=hg.2.1.blk (Blk.alloc (Blk.new_i wr #[zc,zf,zm] 95 wr.heap.size) _) (λh=>by have:=HO.out.1.lt h;omega);have i2:Bel w w':=⟨a2⟩;have b5:=a3.lt;obtain⟨iZ2,f0,f1,f2⟩:=gR a6;have a7:w.heap.size+1<=w'.heap.size:=b5.lt;have H2:=bJ a1 a3;clear hg a0 a1 a3 a6 c0 c1 c2 iE e0 e1 e2 iD y1 yf iL;go_wp2_with(at_builtin;refine nG rfl (.tmp 57) (.tmp 59) rfl (w.heap.size+1) _ _ (zs++[(⟨core,fd,num⟩:PDesc)]) [⟨zc,zf,zm⟩] rfl (by go_simp) (H2.out.1.below (bel w' _)) (RowAt.single (Blk.new_i _ _ _ _) 3 1) (by simp;omega) (zD a7 (bel w' _).size) ?_);intro v2 w2 hg;have a0:=hg.on (H2.out.1.below (bel w' _)) (zD a7 (bel w' _).size);have a8:=(bel w _).trans (a0.mono (Nat.le_succ _));have a9:OwnP (w.heap.size+1) w2 95 3 v2 ((zs++[(⟨core,fd,num⟩:PDesc)]++[(⟨zc,zf,zm⟩:PDesc)]).map PDesc.cells):=by have:=hg.1;simpa using this
    have b0:=hg.2.1.blk ((Keep.of_below (bel w' _) (λ_=>False)).blk H2.out.2 (λh=>h)) (λh=>by have:=H2.out.1.ge h;omega);have H3:=eH a9 a8 b0;clear hg a0 a9 a8 b0;go_wp2;go_roundw
    case rel=>exact⟨q+1,true,_,by go_num,rfl,by omega,by simp;omega,H3.out.1,a5.out,H3.out.2.1,H3.out.2.2⟩
    simp[intOf];omega
   by_cases hC:zc=core
   .subst hC;by_cases hF:fd<zf
    .have ha:fN zc fd ⟨zc,zf,zm⟩=true:=by simp[fN,hF]
     rw[ha,zB rfl]at hre;have a5:=aC hre;have c3:∀w2,Bl w w2->BlockLt be w2:=by intro w2 h2;exact⟨zR iE0.lt h2.size⟩
     clear hre;go_wp2_with(at_builtin;refine nG rfl (.tmp 53) (.tmp 55) rfl (w.heap.size+1) _ _ zs [⟨zc,fd,num⟩] rfl (by go_simp) (HO.out.1.below (bel wr _)) (RowAt.single (Blk.new_i _ _ _ _) 3 1) (by simp;omega) (zD a4 (bel wr _).size) ?_);intro v' w' hg;have a0:=hg.on (HO.out.1.below (bel wr _)) (zD a4 (bel wr _).size);have a2:=(bel w _).trans (a0.mono (Nat.le_succ _));have a1:OwnP (w.heap.size+1) w' 95 3 v' ((zs++[(⟨zc,fd,num⟩:PDesc)]).map PDesc.cells):=by have:=hg.1;simpa using this
     have a3:=hg.2.1.blk ((Keep.of_below (bel wr _) (λ_=>False)).blk HO.out.2.2 (λh=>h)) (λh=>by have:=HO.out.1.ge h;omega);have a6:=hg.2.1.blk (Blk.alloc (Blk.new_i wr #[zc,zf,zm] 95 wr.heap.size) _) (λh=>by have:=HO.out.1.lt h;omega);have i2:Bel w w':=⟨a2⟩;have b5:=a3.lt;obtain⟨iZ2,f0,f1,f2⟩:=gR a6;have a7:w.heap.size+1<=w'.heap.size:=b5.lt;have H2:=bJ a1 a3;clear hg a0 a1 a3 a6 c0 c1 c2 iE e0 e1 e2 iD y1 yf iL;go_wp2_with(at_builtin;refine nG rfl (.tmp 57) (.tmp 59) rfl (w.heap.size+1) _ _ (zs++[(⟨zc,fd,num⟩:PDesc)]) [⟨zc,zf,zm⟩] rfl (by go_simp) (H2.out.1.below (bel w' _)) (RowAt.single (Blk.new_i _ _ _ _) 3 1) (by simp;omega) (zD a7 (bel w' _).size) ?_);intro v2 w2 hg;have a0:=hg.on (H2.out.1.below (bel w' _)) (zD a7 (bel w' _).size);have a8:=(bel w _).trans (a0.mono (Nat.le_succ _));have a9:OwnP (w.heap.size+1) w2 95 3 v2 ((zs++[(⟨zc,fd,num⟩:PDesc)]++[(⟨zc,zf,zm⟩:PDesc)]).map PDesc.cells):=by have:=hg.1;simpa using this
     have b0:=hg.2.1.blk ((Keep.of_below (bel w' _) (λ_=>False)).blk H2.out.2 (λh=>h)) (λh=>by have:=H2.out.1.ge h;omega);have H3:=eH a9 a8 b0;clear hg a0 a9 a8 b0;go_wp2;go_roundw
     case rel=>exact⟨q+1,true,_,by go_num,rfl,by omega,by simp;omega,H3.out.1,a5.out,H3.out.2.1,H3.out.2.2⟩
     simp[intOf];omega
    have ha:fN zc fd ⟨zc,zf,zm⟩=false:=by simp[fN,hF]
    rw[ha,zA (by decide)]at hre;have a5:=aC hre;clear hre;go_wp2_with(at_builtin;refine nG rfl (.tmp 57) (.tmp 59) rfl (w.heap.size+1) _ _ zs [⟨zc,zf,zm⟩] rfl (by go_simp) (HO.out.1.below (bel wr _)) (RowAt.single (Blk.new_i _ _ _ _) 3 1) (by simp;omega) (zD a4 (bel wr _).size) ?_);intro v' w' hg;have a0:=hg.on (HO.out.1.below (bel wr _)) (zD a4 (bel wr _).size);have a2:=(bel w _).trans (a0.mono (Nat.le_succ _));have a1:OwnP (w.heap.size+1) w' 95 3 v' ((zs++[(⟨zc,zf,zm⟩:PDesc)]).map PDesc.cells):=by have:=hg.1;simpa using this
    have a3:=hg.2.1.blk ((Keep.of_below (bel wr _) (λ_=>False)).blk HO.out.2.2 (λh=>h)) (λh=>by have:=HO.out.1.ge h;omega);have H2:=eH a1 a2 a3;clear hg a0 a1 a2 a3;go_wp2;go_roundw
    case rel=>exact⟨q+1,false,_,by go_num,rfl,by omega,by simp;omega,H2.out.1,a5.out,H2.out.2.1,H2.out.2.2⟩
    simp[intOf];omega
   have c4:(zc==core)=false:=by simpa using hC
   have ha:fN core fd ⟨zc,zf,zm⟩=false:=by simp[fN,hA,hC]
   rw[ha,zA (by decide)]at hre;have a5:=aC hre;clear hre;go_wp2_with(at_builtin;refine nG rfl (.tmp 57) (.tmp 59) rfl (w.heap.size+1) _ _ zs [⟨zc,zf,zm⟩] rfl (by go_simp) (HO.out.1.below (bel wr _)) (RowAt.single (Blk.new_i _ _ _ _) 3 1) (by simp;omega) (zD a4 (bel wr _).size) ?_);intro v' w' hg;have a0:=hg.on (HO.out.1.below (bel wr _)) (zD a4 (bel wr _).size);have a2:=(bel w _).trans (a0.mono (Nat.le_succ _));have a1:OwnP (w.heap.size+1) w' 95 3 v' ((zs++[(⟨zc,zf,zm⟩:PDesc)]).map PDesc.cells):=by have:=hg.1;simpa using this
   have a3:=hg.2.1.blk ((Keep.of_below (bel wr _) (λ_=>False)).blk HO.out.2.2 (λh=>h)) (λh=>by have:=HO.out.1.ge h;omega);have H2:=eH a1 a2 a3;clear hg a0 a1 a2 a3;go_wp2;go_roundw
   case rel=>exact⟨q+1,false,_,by go_num,rfl,by omega,by simp;omega,H2.out.1,a5.out,H2.out.2.1,H2.out.2.2⟩
   simp[intOf];omega
  rw[zB rfl]at hre;have a5:=aC hre;clear hre;go_wp2_with(at_builtin;refine nG rfl (.tmp 57) (.tmp 59) rfl (w.heap.size+1) _ _ zs [⟨zc,zf,zm⟩] rfl (by go_simp) (HO.out.1.below (bel wr _)) (RowAt.single (Blk.new_i _ _ _ _) 3 1) (by simp;omega) (zD a4 (bel wr _).size) ?_);intro v' w' hg;have a0:=hg.on (HO.out.1.below (bel wr _)) (zD a4 (bel wr _).size);have a2:=(bel w _).trans (a0.mono (Nat.le_succ _));have a1:OwnP (w.heap.size+1) w' 95 3 v' ((zs++[(⟨zc,zf,zm⟩:PDesc)]).map PDesc.cells):=by have:=hg.1;simpa using this
  have a3:=hg.2.1.blk ((Keep.of_below (bel wr _) (λ_=>False)).blk HO.out.2.2 (λh=>h)) (λh=>by have:=HO.out.1.ge h;omega);have H2:=eH a1 a2 a3;clear hg a0 a1 a2 a3;go_wp2;go_roundw
  case rel=>exact⟨q+1,true,_,by go_num,rfl,by omega,by simp;omega,H2.out.1,a5.out,H2.out.2.1,H2.out.2.2⟩
  simp[intOf];omega
 rw[aAD _ _ _ q d zs hlt]at hre;have b4:¬(q:Int)<S.op.length:=by omega
 have b1:∀(w1:World) (v:Value),OwnP (w.heap.size+1) w1 95 3 v (R.map PDesc.cells)->Bl w w1->Below B w (w1.setCell ⟨b,1,none⟩ v)/\Keep (λg=>g=b) w (w1.setCell ⟨b,1,none⟩ v)/\∃ov',Blk (w1.setCell ⟨b,1,none⟩ v) b #[.slice ai ni ci,ov',.slice am nm' cm] 26/\StOwn B (w1.setCell ⟨b,1,none⟩ v) (.slice ai ni ci) ov' (.slice am nm' cm) { S with op:=R}:=by intro w1 v h1 h2;obtain⟨hb,ho⟩:=HH.out;have b8:=(Keep.of_below h2 (λ_=>False)).blk hb (λh=>h);have hK:Keep (λg=>g=b) w1 (w1.setCell ⟨b,1,none⟩ v):=Keep.setCell (S:=λg=>g=b) (p:=⟨b,1,none⟩) (Keep.refl _ _) (.inl rfl) _;have b9:Keep (λg=>g=b) w (w1.setCell ⟨b,1,none⟩ v):=(Keep.of_below h2 (λg=>g=b)).trans hK (λ_ _ h=>h);refine⟨b9.below hB (λi hi h=>by omega),b9,v,b8.set_ 1 v,?_⟩;have h3:=(ho.on h2).setOp (h1.mono (by omega));exact h3.keep hK (λg hg=>by rw[hg];exact⟨_,26,b8,by decide,by decide,by decide,by decide⟩)
 have b2:=aC b1;clear b1;rcases d with _|_
 .rw[zA (by decide)]at hre;have a5:=aC hre;clear hre;go_wp2_with(at_builtin;refine nG rfl (.tmp 63) (.tmp 65) rfl (w.heap.size+1) _ _ zs [⟨core,fd,num⟩] rfl (by go_simp) (HO.out.1.below (bel wr _)) (RowAt.single (Blk.new_i _ _ _ _) 3 1) (by simp;omega) (zD a4 (bel wr _).size) ?_)
  intro v' w' hg;have a0:=hg.on (HO.out.1.below (bel wr _)) (zD a4 (bel wr _).size);have a2:=(bel w _).trans (a0.mono (Nat.le_succ _));have i2:Bel w w':=⟨a2⟩;obtain⟨iL2,z1,zf1⟩:=b7.out w' a2;have a1:OwnP (w.heap.size+1) w' 95 3 v' ((zs++[(⟨core,fd,num⟩:PDesc)]).map PDesc.cells):=by have:=hg.1;simpa using this
  rw[a5.out]at a1;have hf:=b2.out w' v' a1 a2;obtain⟨va2,vc2,rfl⟩:=a1.formL;generalize(R.map PDesc.cells).length=zn2 at hf |-;have HF:=aC hf;clear hg a0 a1 a2 hf y1 yf iL e0 e1 e2 iD;go_wp2;exact xE (v:=.tuple #[]) (by simp[results,go_sem]) rfl ⟨rfl,HF.out⟩
 rw[zB rfl]at hre;subst hre;have hf:=b2.out wr _ HO.out.1 hbw;have HF:=aC hf;clear hf;go_wp2;exact xE (v:=.tuple #[]) (by simp[results,go_sem]) rfl ⟨rfl,HF.out⟩
end
section
structure CpAt (w0 wr:World) (iv ov mv v0:Value) (S:PSt) (q:Nat) (is:List IRec):Prop where
 b0:Blk wr w0.heap.size #[iv,ov,mv] 26
 b1:Blk wr (w0.heap.size+1) #[.slice none 0 0,.slice none 0 0,.slice none 0 0] 26
 b2:Blk wr (w0.heap.size+1+1) #[v0,.slice none 0 0,.slice none 0 0] 26
 own:OwnP (w0.heap.size+3) wr 68 4 v0 (is.map IRec.cells)
 len:is.length=q
 each:∀(j:Nat) (r:IRec) (x:PIn),is[j]? =some r->S.ins[j]? =some x->r.num=x.num/\r.dir=x.dir/\r.data=x.data/\OwnP (w0.heap.size+3) wr 97 2 r.ev (x.ents.map PEnt.cells)
 apart:∀(p q:Nat) (r r':IRec),p≠q->is[p]? =some r->is[q]? =some r'->∀g,r.ev.ownBlock=some g->r'.ev.ownBlock≠some g
 below:Bl w0 wr
variable {S:PSt} {iv mv ov v0:Value} {q:Nat} {w w' w0 wr:World}
theorem aB {b:Nat} {c:Array Value} {t:TypeId} (h:Blk w b c t) (hb:Bl w w'):Blk w' b c t:=(Keep.of_below hb (λ_=>False)).blk h (λh=>h)
theorem CpAt.on {is:List IRec} (h:CpAt w0 wr iv ov mv v0 S q is) (hb:Bl wr w'):CpAt w0 w' iv ov mv v0 S q is:=
 ⟨aB h.b0 hb,aB h.b1 hb,aB h.b2 hb,h.own.below hb,h.len,λj r x hr hx=>by
  obtain⟨a1,a2,a3,a4⟩:=h.each j r x hr hx;exact⟨a1,a2,a3,a4.below hb⟩,h.apart,h.below.trans (hb.mono h.below.size)⟩
theorem CpAt.step {wC w2:World} {v0':Value} {is:List IRec} (h:CpAt w0 wr iv ov mv v0 S q is) {r:IRec} {x:PIn} (hx:S.ins[q]? =some x) (hn:r.num=x.num/\r.dir=x.dir/\r.data=x.data) (hC:Bl wr wC) (hv:OwnP (w0.heap.size+3) wC 97 2 r.ev (x.ents.map PEnt.cells)) (hf:∀g,r.ev.ownBlock=some g->wr.heap.size<=g)
 (hg:Grew (w0.heap.size+3) 68 4 wC v0 ((is++[r]).map IRec.cells) v0' w2):CpAt w0 (w2.setCell ⟨w0.heap.size+1+1,0,none⟩ v0') iv ov mv v0' S (q+1) (is++[r]):=by
 have hc:=h.on hC;obtain⟨g1,g2,g3⟩:=hg;have a5:=hc.b2.lt.lt;have k2:Keep (λg=>g=w0.heap.size+1+1) w2 (w2.setCell ⟨w0.heap.size+1+1,0,none⟩ v0'):=Keep.setCell (S:=λg=>g=w0.heap.size+1+1) (p:=⟨w0.heap.size+1+1,0,none⟩) (Keep.refl _ _) (.inl rfl) _;have nv:∀b,b<w0.heap.size+3->¬v0.ownBlock=some b:=λb hb e=>by have:=hc.own.ge e;omega
 have ev:∀{v:Value} {rows:List (List Value)},OwnP (w0.heap.size+3) wC 97 2 v rows->OwnP (w0.heap.size+3) (w2.setCell ⟨w0.heap.size+1+1,0,none⟩ v0') 97 2 v rows:=by
  intro v rows ho;have h1:=ho.keep g2 (λg hg e=>by
   rcases hc.own with⟨h0,_⟩|⟨g',cap,arr,h0,_,hb',_⟩
   .rw[h0]at e;simp[Value.ownBlock]at e
   rw[h0]at e;simp[Value.ownBlock]at e;subst e;exact ho.ne_blk hb' (by decide) hg rfl)
  exact h1.keep k2 (λg hg e=>by have:=h1.ge hg;omega)
 have a6:Bl w0 (w2.setCell ⟨w0.heap.size+1+1,0,none⟩ v0'):=by have h1:=hc.below;have h2:=g2.below (B:=w0.heap.size) h1.size (λi hi e=>nv i (by omega) e);have h3:=k2.below (B:=w0.heap.size) (zD h1.size h2.size) (λi hi e=>by omega);exact(h1.trans h2).trans h3
 refine⟨k2.blk (g2.blk hc.b0 (nv _ (by omega))) (by omega),k2.blk (g2.blk hc.b1 (nv _ (by omega))) (by omega),(g2.blk hc.b2 (nv _ (by omega))).set_ 0 v0',g1.keep k2 (λg hg e=>by have:=g1.ge hg;omega),by simp[h.len],?_,?_,a6⟩
 .intro j r' x' hr hx';by_cases hj:j<is.length
  .rw[zZ hj]at hr;obtain⟨a1,a2,a3,a4⟩:=hc.each j r' x' hr hx';exact⟨a1,a2,a3,ev a4⟩
  rw[yC (by omega)]at hr;have:j=q:=by obtain⟨hl,_⟩:=gI.1 hr;have:=h.len;simp at hl;omega
  subst this;rw[h.len,Nat.sub_self]at hr;simp at hr;subst hr;rw[hx]at hx';cases hx';exact⟨hn.1,hn.2.1,hn.2.2,ev hv⟩
 intro p1 q1 r1 r2 hne h1 h2 g e1 e2;have a0:∀(p:Nat) (rr:IRec),(is++[r])[p]? =some rr->(p<is.length/\is[p]? =some rr)\/(p=is.length/\rr=r):=by
  intro p rr hp;by_cases hj:p<is.length
  .rw[zZ hj]at hp;exact .inl ⟨hj,hp⟩
  rw[yC (by omega)]at hp;obtain⟨hl,_⟩:=gI.1 hp;simp at hl;have:p=is.length:=by omega
  subst this;simp at hp;exact .inr ⟨rfl,hp.symm⟩
 have lt:∀(p:Nat) (rr:IRec),is[p]? =some rr->∀g,rr.ev.ownBlock=some g->g<wr.heap.size:=by intro p rr hp g hg;obtain⟨hl,_⟩:=gI.1 hp;obtain⟨hq,_⟩:=gI.1 hx;have a7:=h.len;exact(h.each p rr _ hp (gE (by omega))).2.2.2.lt hg
 rcases a0 p1 r1 h1 with⟨hl1,h1'⟩|⟨e3,rfl⟩
 .rcases a0 q1 r2 h2 with⟨hl2,h2'⟩|⟨e4,rfl⟩
  .exact h.apart p1 q1 r1 r2 hne h1' h2' g e1 e2
  have:=lt _ _ h1' g e1;have:=hf g e2;omega
 rcases a0 q1 r2 h2 with⟨hl2,h2'⟩|⟨e4,rfl⟩
 .have:=lt _ _ h2' g e2;have:=hf g e1;omega
 omega
theorem StOwn.setMd {B:Nat} {mv':Value} {zs:List Int} (h:StOwn B w iv ov mv S) (ho:OwnP B w 3 1 mv' (zs.map aJ)):StOwn B w iv ov mv' { S with made:=zs}:=⟨h.1,ho,h.2.2⟩
theorem aUB (S:PSt) (iv ov mv:Value) (w:World) (h:StRead w iv ov mv S) (hwf:S.wf):
 Calls prog 91 #[.agg #[iv,ov,mv]] w λe w'=>∃iv' ov' mv',e=.returned (.agg #[iv',ov',mv'])/\Bl w w'/\StOwn w.heap.size w' iv' ov' mv' S:=by
 obtain⟨h1,h2,h3⟩:=And.intro h.1 (And.intro h.2.1 h);obtain⟨ai,ni,ci,ao,no,co,am,nm,cm,rfl,rfl,rfl⟩:=h.slices;obtain⟨a,cap,e1,hai⟩:=h.ins_at2;cases e1;have HI:=aC hai;have b8:=aC hwf;have HR:=bJ h1 h2;clear h h1 h2 h3 hai hwf;go_in;go_wp2
 go_loopw[4] (λi wr=>∃(q:Nat) (is:List IRec) (v0:Value),i=.int .i64 q/\q<=S.ins.length/\CpAt w wr (.slice ai S.ins.length ci) (.slice ao no co) (.slice am nm cm) v0 S q is) (λi _=>(S.ins.length-intOf i).toNat)
 case atStart=>
  refine⟨0,[],.slice none 0 0,rfl,by omega,⟨?_,?_,?_,.inl ⟨rfl,rfl⟩,rfl,λj r x hr=>by simp at hr,λp q r r' _ hr=>by simp at hr,bel _ _⟩⟩
  .exact((Blk.new w _ 26).alloc _).alloc _
  .exact(Blk.new_i _ _ _ _).alloc _
  exact Blk.new_i _ _ _ _
 obtain⟨q,is,v0,rfl,hq,hc⟩:=hrel;have iB:Bel w wr:=⟨hc.below⟩;have i0:=hc.b0.lt;have i1:=hc.b1.lt;have i2:=hc.b2.lt;obtain⟨-,s0,s1,s2⟩:=gR hc.b0;obtain⟨-,t0,t1,t2⟩:=gR hc.b2;obtain⟨va,vn,vc,rfl⟩:=hc.own.form;have HC:=aC hc;clear hc;by_cases hlt:q<S.ins.length
 .obtain⟨x,hx⟩:=gAA hlt
  obtain⟨bi,oi,ev,rfl,iI0,hoi,her,hci⟩:=HI.out q x hx;obtain⟨iI,x0,x1,x2,x3⟩:=hci wr iB.below;have d6:=(b8.out.2.2.2.1 x (mG hx)).2.1;have c4:(q:Int)<S.ins.length:=by omega
  obtain⟨ae,ce,rfl,-⟩:=her.at_;rw[lM]at x2;have HE:=bJ her hx;obtain⟨xn,xd,xe,xs⟩:=x;simp only at x0 x1 x2 x3 d6;clear hci hoi her hx;have b9:w.heap.size+3<=wr.heap.size:=i2.lt;have e5:is.length=q:=HC.out.len;have d7:S.ins.length<=1000000000:=b8.out.1;have a0:OwnP wr.heap.size ((wr.alloc (.cells #[xn,xd,.slice ae xe.length ce,xs] 68)).alloc (.cells #[] 97)) 97 2 (.slice (some ⟨wr.heap.size+1,0,none⟩) 0 0) (([]:List PEnt).map PEnt.cells):=
   .inr ⟨_,0,#[],rfl,by omega,Blk.new_i _ _ _ _,by simp,by unfold maxLen;omega,by simp,λq cs h=>by simp at h⟩
  go_wp2_with(at_builtin;refine sP rfl (.tmp 18) (.tmp 20) rfl wr.heap.size _ _ [] xe rfl (by go_simp) a0 (HE.out.1.below (bel w _) (zC _)) (by simp;omega) (bel wr _).size ?_);intro v' w' hg;have d0:=hg.on a0 (bel wr _).size;have a1:Bl wr w':=(bel wr _).trans d0;have c0:OwnP wr.heap.size w' 97 2 v' (xe.map PEnt.cells):=by have:=hg.1;simpa using this
  have a4:=hg.2.1.blk ((Blk.new wr #[xn,xd,.slice ae xe.length ce,xs] 68).alloc _) (λh=>by simp[Value.ownBlock]at h);have a6:=HC.out.on a1;have e6:Bel w w':=⟨a6.below⟩;have e7:Bel wr w':=⟨a1⟩;have e8:BlockGe wr.heap.size wr:=⟨zC _⟩;have iX:=a4.lt;have j0:=a6.b0.lt;have j1:=a6.b1.lt;have j2:=a6.b2.lt;have u0:=a6.b2.cell 0;have y0:=a4.cell 0;have y1:=a4.cell 1;have y2:=a4.cell 2;have y3:=a4.cell 3;have yf:=a4.frozen 2;simp at u0 y0 y1 y2 y3;obtain⟨va2,vc2,rfl⟩:=c0.formL;generalize(xe.map PEnt.cells).length=zn2 at c0 |-;have H2:=eH c0 a1 a4;clear hg d0 c0 a1 a4 a6 a0 s0 s1 s2 t0 t1 t2 x0 x1 x2 x3 iI i0 i1 i2;have d8:wr.heap.size≠w.heap.size+1+1:=by omega
  have d1:w.heap.size+1+1≠wr.heap.size:=by omega
  go_wp2_with(at_builtin;refine vC rfl (.tmp 24) (.tmp 26) rfl (w.heap.size+3) _ _ is [⟨xn,xd,.slice va2 zn2 vc2,xs,rfl⟩] rfl (by go_simp) (HC.out.on (bel wr _)).own (RowAt.single (Blk.new_i _ _ _ _) 4 1) (by simp;omega) (zD b9 (bel wr _).size) ?_);intro v2 w2 a7;have hC:Bl wr ((w'.setCell ⟨wr.heap.size,2,none⟩ (.slice va2 zn2 vc2)).alloc (.cells #[xn,xd,.slice va2 zn2 vc2,xs] 68)):=bel wr _;have a3:Grew (w.heap.size+3) 68 4 ((w'.setCell ⟨wr.heap.size,2,none⟩ (.slice va2 zn2 vc2)).alloc (.cells #[xn,xd,.slice va2 zn2 vc2,xs] 68)) (.slice va vn vc) ((is++[(⟨xn,xd,.slice va2 zn2 vc2,xs,rfl⟩:IRec)]).map IRec.cells) v2 w2:=by simpa using a7
  have c5:OwnP wr.heap.size ((w'.setCell ⟨wr.heap.size,2,none⟩ (.slice va2 zn2 vc2)).alloc (.cells #[xn,xd,.slice va2 zn2 vc2,xs] 68)) 97 2 (.slice va2 zn2 vc2) (xe.map PEnt.cells):=by have hK:Keep (λg=>g=wr.heap.size) w' (w'.setCell ⟨wr.heap.size,2,none⟩ (.slice va2 zn2 vc2)):=Keep.setCell (S:=λg=>g=wr.heap.size) (p:=⟨wr.heap.size,2,none⟩) (Keep.refl _ _) (.inl rfl) _;exact(H2.out.1.keep hK (λg hg e=>H2.out.1.ne_blk H2.out.2.2 (by decide) hg e)).below (bel _ _)
  have hs:=HC.out.step (r:=⟨xn,xd,.slice va2 zn2 vc2,xs,rfl⟩) HE.out.2 ⟨rfl,rfl,rfl⟩ hC (c5.mono b9) (λg hg=>c5.ge hg) a3;have c1:=a3.2.1.blk (HC.out.on hC).b2 (λe=>by have:=HC.out.own.ge e;omega);have l3:=c1.lt;have v3:=c1.cell 0;have f3:=c1.frozen 0;simp at v3;obtain⟨vb,vbn,vbc,rfl⟩:=a3.1.form;have HS:=aC hs;clear hs c1 a7 a3 c5 hC u0 y0 y1 y2 y3 yf;go_wp2;go_roundw
  case rel=>exact⟨q+1,_,_,by go_num,by omega,HS.out⟩
  simp[intOf];omega
 have d9:q=S.ins.length:=by omega
 subst d9;have c4:¬(S.ins.length:Int)<S.ins.length:=by omega
 have e9:S.op.length<=1000000000:=b8.out.2.1;have f4:S.made.length<=1000000000:=b8.out.2.2.1;have b9:w.heap.size+3<=wr.heap.size:=i2.lt;have d2:StOwn (w.heap.size+3) wr (.slice va vn vc) (.slice none 0 0) (.slice none 0 0) ⟨S.ins,[],[]⟩:=⟨.inl ⟨rfl,rfl⟩,.inl ⟨rfl,rfl⟩,is,HC.out.own,HC.out.len,HC.out.each,HC.out.apart⟩;have e0:=aC d2;clear d2;go_wp2_with(at_builtin;refine nG rfl (.tmp 30) (.tmp 32) rfl (w.heap.size+3) _ _ [] S.op rfl (by go_simp) (.inl ⟨rfl,rfl⟩) (HR.out.1.below iB.below (zC _)) (by simp;omega) b9 ?_);intro v1 w1 hg;have c6:OwnP (w.heap.size+3) w1 95 3 v1 (S.op.map PDesc.cells):=by have:=hg.1;simpa using this
 have c7:Bl wr w1:=hg.2.1.below (zC _) (λi hi e=>by simp[Value.ownBlock]at e);have a2:=HC.out.on c7;have a5:=(e0.out.on c7).setOp c6;have a8:=a2.b2.set_ 1 v1;have a9:Keep (λg=>g=w.heap.size+1+1) w1 (w1.setCell ⟨w.heap.size+1+1,1,none⟩ v1):=Keep.setCell (S:=λg=>g=w.heap.size+1+1) (p:=⟨w.heap.size+1+1,1,none⟩) (Keep.refl _ _) (.inl rfl) _;have b3:=a5.keep a9 (λg hg=>by rw[hg];exact⟨_,26,a2.b2,by decide,by decide,by decide,by decide⟩);have d3:=a9.blk a2.b0 (by omega);have b4:=a9.blk a2.b1 (by omega);have b5:Bl w (w1.setCell ⟨w.heap.size+1+1,1,none⟩ v1):=a2.below.trans (a9.below (a2.below.size) (λi hi e=>by omega));have l2:=a2.b2.lt;have p1:=a2.b2.cell 1;have f1:=a2.b2.frozen 1;simp at p1;obtain⟨vo,von,voc,rfl⟩:=c6.form;have HX:=qM b3 a8 d3 b4 b5;clear hg c6 c7 a2 a5 a8 a9 b3 d3 b4 b5 s0 s1 s2 t0 t1 t2 i0 i1 i2 iB;go_upto_region 9 with fail;refine aD (F:=λwa=>StOwn (w.heap.size+3) wa (.slice va vn vc) (.slice vo von voc) (.slice none 0 0) ⟨S.ins,S.op,[]⟩/\Blk wa (w.heap.size+1+1) #[.slice va vn vc,.slice vo von voc,.slice none 0 0] 26/\Blk wa w.heap.size #[.slice ai S.ins.length ci,.slice ao no co,.slice am nm cm] 26/\Blk wa (w.heap.size+1) #[.slice none 0 0,.slice none 0 0,.slice none 0 0] 26/\Bl w wa) HX.out ?_;clear HX l2 p1 f1;rintro wa ⟨a5,b2,b0,b1,hbw⟩;have iB:Bel w wa:=⟨hbw⟩;have l2:=b2.lt;have l0:=b0.lt;have p2:=b2.cell 2;have q2:=b0.cell 2;simp at p2 q2;have c8:w.heap.size+3<=wa.heap.size:=l2.lt;have HY:=mJ a5 b2 b0 b1;clear a5 b2 b0 b1;go_wp2_with(at_builtin;refine aWQ rfl (.tmp 36) (.tmp 38) rfl (w.heap.size+3) _ _ [] S.made rfl (by go_simp) (.inl ⟨rfl,rfl⟩) (HR.out.2.below iB.below (zC _)) (by simp;omega) c8 ?_);intro v2 w2 hg;have a7:OwnP (w.heap.size+3) w2 3 1 v2 (S.made.map aJ):=by have:=hg.1;simpa using this
 have a1:Bl wa w2:=hg.2.1.below (zC _) (λi hi e=>by simp[Value.ownBlock]at e);obtain⟨a5,b2,b0,b1⟩:=HY.out;have d4:=(a5.on a1).setMd a7;have c2:=aB b2 a1;have c3:Keep (λg=>g=w.heap.size+1+1) w2 (w2.setCell ⟨w.heap.size+1+1,2,none⟩ v2):=Keep.setCell (S:=λg=>g=w.heap.size+1+1) (p:=⟨w.heap.size+1+1,2,none⟩) (Keep.refl _ _) (.inl rfl) _;have b6:=d4.keep c3 (λg hg=>by rw[hg];exact⟨_,26,c2,by decide,by decide,by decide,by decide⟩);have b4:=c3.blk (aB b1 a1) (by omega);have a8:=c2.set_ 2 v2;have b7:Bl w (w2.setCell ⟨w.heap.size+1+1,2,none⟩ v2):=(hbw.trans (a1.mono hbw.size)).trans (c3.below (zD hbw.size a1.size) (λi hi e=>by omega));have e2:=c2.lt;have d5:=c2.cell 2;have e3:=c2.frozen 2;simp at d5;obtain⟨vm,vmn,vmc,rfl⟩:=a7.form;have HX:=mJ b6 a8 b4 b7;clear hg a7 a1 a5 b2 b0 b1 d4 c2 c3 b6 b4 a8 b7 l2 l0 p2 q2 iB hbw;go_upto_region 10 with fail;refine aD (F:=λwa=>StOwn (w.heap.size+3) wa (.slice va vn vc) (.slice vo von voc) (.slice vm vmn vmc) S/\Blk wa (w.heap.size+1+1) #[.slice va vn vc,.slice vo von voc,.slice vm vmn vmc] 26/\Blk wa (w.heap.size+1) #[.slice none 0 0,.slice none 0 0,.slice none 0 0] 26/\Bl w wa) HX.out ?_;clear HX e2 d5 e3;rintro wb ⟨hs,b2,b1,hbw⟩;have l2:=b2.lt;have l1:=b1.lt;have p0:=b2.cell 0;have p1:=b2.cell 1;have p2:=b2.cell 2;have z0:=b1.cell 0;have z1:=b1.cell 1;have z2:=b1.cell 2;have f0:=b1.frozen 0;have f1:=b1.frozen 1;have f2:=b1.frozen 2;simp at p0 p1 p2 z0 z1 z2;have HZ:=eH hs b1 hbw;clear hs b2 b1 hbw;go_wp2_with fail;have hK:Keep (λg=>g=w.heap.size+1) wb (((wb.setCell ⟨w.heap.size+1,0,none⟩ (.slice va vn vc)).setCell ⟨w.heap.size+1,1,none⟩ (.slice vo von voc)).setCell ⟨w.heap.size+1,2,none⟩ (.slice vm vmn vmc)):=Keep.setCell (S:=λg=>g=w.heap.size+1) (p:=⟨w.heap.size+1,2,none⟩) (Keep.setCell (S:=λg=>g=w.heap.size+1) (p:=⟨w.heap.size+1,1,none⟩) (Keep.setCell (S:=λg=>g=w.heap.size+1) (p:=⟨w.heap.size+1,0,none⟩) (Keep.refl _ _) (.inl rfl) _) (.inl rfl) _) (.inl rfl) _;have c9:=(HZ.out.1.keep hK (λg hg=>by rw[hg];exact⟨_,26,HZ.out.2.1,by decide,by decide,by decide,by decide⟩)).mono (B':=w.heap.size) (by omega);have e4:=HZ.out.2.2.trans (hK.below HZ.out.2.2.size (λi hi e=>by omega));exact xD (v:=.agg #[.slice va vn vc,.slice vo von voc,.slice vm vmn vmc]) (by unfold results;simp only[results91];go_simp) rfl ⟨_,_,_,rfl,e4,c9⟩
end
section
theorem gO {α:Type} (p:α->Bool) (x:α):∀(es zs:List α) (d:Bool),cT p x es d zs=zs++cT p x es d []
 |[],zs,d=>by unfold cT;split<;>simp
 | e::r,zs,d=>by
   unfold cT;rw[gO p x r (zs++[e]),gO p x r (zs++[x]++[e]),gO p x r ([]++[e]),gO p x r ([]++[x]++[e]),gO p x r (zs++[e]) false,gO p x r ([]++[e]) false];split
   .simp
   split<;>simp
theorem aDG {α:Type} (p:α->Bool) (x:α):∀(es:List α),cT p x es true []=es
 |[]=>by simp[cT]
 | e::r=>by unfold cT;rw[zB rfl,gO,aDG p x r];rfl
theorem qJ {α:Type} (p:α->Bool) (x:α):∀(es:List α),cT p x es false []=aY es (es.findIdx p) x
 |[]=>by simp[cT,aY]
 | e::r=>by
   unfold cT;rw[zA (by decide),gO p x r ([]++[x]++[e]),gO p x r ([]++[e]),aDG,qJ p x r,findIdx_cons];rcases p e with _|_
   .simp[aY]
   simp[aY]
variable {B b g r:Nat} {S:PSt} {c:Array Value} {iv mv ov v:Value} {t:TypeId} {w w1 wz:World}
theorem StOwn.made_form (h:StOwn B w iv ov mv S) (h0:0<S.made.length):∃gm cap,mv=.slice (some ⟨gm,0,none⟩) S.made.length cap:=by
 rcases h.2.1 with⟨_,h1⟩|⟨g,cap,arr,rfl,_⟩
 .rw[map_eq_nil_iff]at h1;rw[h1]at h0;simp at h0
 exact⟨g,cap,by rw[lM]⟩
theorem StOwn.made_at {gm cap:Nat} (h:StOwn B w iv ov (.slice gm S.made.length cap) S) {k:Nat} {m:Int} (hm:S.made[k]? =some m):w.cell? ⟨gm,k,none⟩=some (.int .i64 m)/\w.frozen? ⟨gm,k,none⟩=false/\BlockLt gm w:=by
 rcases h.2.1 with⟨h1,_⟩|⟨g,cap',arr,he,_,hb,_,_,_,hr⟩
 .cases h1
 simp only[zO,zF,yG]at he;obtain⟨⟨rfl,-,-⟩,-,-⟩:=he;refine⟨?_,hb.frozen k,hb.lt⟩;rw[hb.cell];have:=hr k (aJ m) (by rw[gM,hm];rfl) 0 _ rfl;rw[Nat.mul_one,zN]at this;exact this
def Spared (b:Nat) (w w':World):Prop:=∀g c t,Blk w g c t->g≠b->(t=26\/t=28\/t=52)->Blk w' g c t
theorem Spared.trans {w2:World} (h:Spared b w w1) (h':Spared b w1 w2):Spared b w w2:=λg c t hb hn ht=>h' g c t (h g c t hb hn ht) hn ht
theorem Spared.of_below (h:Bl w w1):Spared b w w1:=λg c t hb _ _=>aB hb h
theorem Spared.of_in (h:Keep (tZ w) w w1):Spared b w w1:=λg c t hb _ ht=>h.blk hb (λ⟨c',t',hb',ht'⟩=>by
 have:t=t':=by have e:=hb.symm.trans hb';simp at e;exact e.2
 subst this;rcases ht with rfl|rfl|rfl<;>rcases ht' with h|h<;>exact absurd h (by decide))
theorem Spared.set {o:Nat} (h:Blk w g c t) (ht:g=b\/(t≠26/\t≠28/\t≠52)):Spared b w (w.setCell ⟨g,o,none⟩ v):=λg' c' t' hb hn htt=>by
 refine Keep.blk (Keep.setCell (S:=λx=>x=g) (p:=⟨g,o,none⟩) (Keep.refl _ w) (.inl rfl) v) hb (λe=>?_);subst e;rcases ht with ht|ht
 .exact hn ht
 have:t=t':=by have e:=h.symm.trans hb;simp at e;exact e.2
 subst this;rcases htt with rfl|rfl|rfl
 .exact ht.1 rfl
 .exact ht.2.1 rfl
 exact ht.2.2 rfl
theorem lY {a0 a1 a2 a3 a4 a5:Value} {p:Behind}:Keep (λg=>g=r) wz (((((((wz.setCell r a0).setCell ⟨r,1,none⟩ a1).setCell ⟨r,2,none⟩ a2).setCell ⟨r,3,none⟩ a3).setCell ⟨r,4,none⟩ a4).setCell ⟨r,5,none⟩ a5).junk p):=
 ((((((((Keep.refl (λg=>g=r) wz).setCell (p:=r) (.inl rfl) a0).setCell (p:=⟨r,1,none⟩) (.inl rfl) a1).setCell (p:=⟨r,2,none⟩) (.inl rfl) a2).setCell (p:=⟨r,3,none⟩) (.inl rfl) a3).setCell (p:=⟨r,4,none⟩) (.inl rfl) a4).setCell (p:=⟨r,5,none⟩) (.inl rfl) a5).junk p)
theorem nJ {w':World} (hK:Keep (λg=>g=r) wz w') (hrw:w.heap.size<=r) (hbw:b<w.heap.size) (hB:B<=w.heap.size) (hr:Blk wz r c 52) (f1:Blk wz b #[iv,ov,mv] 26) (f2:StOwn B wz iv ov mv S) (f4:Below B w wz) (f5:Spared b w wz):
 Below B w w'/\Spared b w w'/\∃iv' ov' mv',Blk w' b #[iv',ov',mv'] 26/\StOwn B w' iv' ov' mv' S:=by
 refine⟨f4.trans (hK.below (zD hB f4.size) (λi hi e=>by omega)),λg c t hb hn ht=>hK.blk (f5 g c t hb hn ht) (λe=>by have:=hb.lt.lt;omega),iv,ov,mv,hK.blk f1 (λe=>by omega),f2.keep hK (λg hg=>by rw[hg];exact⟨_,52,hr,by decide,by decide,by decide,by decide⟩)⟩
theorem eS (h:Blk w g c t) (h1:t≠68) (h2:t≠97):¬tZ w g:=λ⟨c',t',hb',ht'⟩=>by
 have:t=t':=by have e:=h.symm.trans hb';simp at e;exact e.2
 subst this;rcases ht' with e|e
 .exact h1 e
 exact h2 e
theorem PSt.wf_made (h:S.wf) (k:Nat) {v:Int} (hv:I64 v):({ S with made:=S.made.set k v}:PSt).wf:=by
 obtain⟨h1,h2,h3,h4,h5,h6⟩:=h;refine⟨h1,h2,by show(S.made.set k v).length<=_;rw[yB];exact h3,h4,h5,λm hm=>?_⟩;rcases mem_or_eq_of_mem_set hm with hm|rfl
 .exact h6 m hm
 exact hv
end
theorem lF {wz:World} {r:Nat} {a0 a1 a2 a3 a4 a5:Value}:Keep (λg=>g=r) wz ((((((wz.setCell r a0).setCell ⟨r,1,none⟩ a1).setCell ⟨r,2,none⟩ a2).setCell ⟨r,3,none⟩ a3).setCell ⟨r,4,none⟩ a4).setCell ⟨r,5,none⟩ a5):=
 (((((((Keep.refl (λg=>g=r) wz).setCell (p:=r) (.inl rfl) a0).setCell (p:=⟨r,1,none⟩) (.inl rfl) a1).setCell (p:=⟨r,2,none⟩) (.inl rfl) a2).setCell (p:=⟨r,3,none⟩) (.inl rfl) a3).setCell (p:=⟨r,4,none⟩) (.inl rfl) a4).setCell (p:=⟨r,5,none⟩) (.inl rfl) a5)
end Go.Proofs.YtmkapobnfigedaaGreatDoor
