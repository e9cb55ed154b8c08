/- A part of a proof of a law. Conditions: none. -/
import Derived.Test.YtmkapobnfigedaaGreatDoorDk23
import Derived.Test.YtmkapobnfigedaaGreatDoorDk27
set_option linter.unusedVariables false
set_option linter.unusedSimpArgs false
set_option maxRecDepth 100000
set_option maxHeartbeats 8000000
namespace Go.Proofs.YtmkapobnfigedaaGreatDoor
open Go.Proofs.Tryz List Go.RowKit
section
def nT:PSt->List PCall->List (List PKey)
 |_,[]=>[]
 |S,c::r=>mN S c::nT (lX S c).1 r
def stM:PSt->List PCall->PSt
 |S,[]=>S
 |S,c::r=>stM (lX S c).1 r
theorem sJ:∀(cs:List PCall) (S:PSt),(nT S cs).length=cs.length
 |[],_=>rfl
 |c::r,S=>by unfold nT;rw[zK,sJ r,zK]
theorem aTU:∀(cs:List PCall) (S:PSt),S.wf->(stM S cs).wf
 |[],_,h=>h
 |c::r,S,h=>aTU r _ (aDM h)
theorem aGO:∀(cs:List PCall) (S:PSt) (c:PCall),stM S (cs++[c])=(lX (stM S cs) c).1
 |[],_,_=>rfl
 |d::r,S,c=>aGO r _ c
theorem aCT:∀(cs:List PCall) (S:PSt) (c:PCall),nT S (cs++[c])=nT S cs++[mN (stM S cs) c]
 |[],_,_=>rfl
 | d::r,S,c=>by show mN S d::nT _ (r++[c])=_;rw[aCT r];rfl
def StHere (w wr:World) (iv ov mv:Value) (S:PSt):Prop:=(StRead w iv ov mv S/\Bl w wr)\/StOwn w.heap.size wr iv ov mv S
variable {B:Nat} {S:PSt} {iv mv ov vo:Value} {kvs:List Value} {w w' wr:World}
theorem StHere.read (h:StHere w wr iv ov mv S):StRead wr iv ov mv S:=by
 rcases h with⟨h,hb⟩|h
 .exact h.below hb (zC _)
 exact h.read
theorem StHere.keep {X:Nat->Prop} (h:StHere w wr iv ov mv S) (hk:Keep X wr w') (hw:w.heap.size<=wr.heap.size) (h1:∀g,X g->w.heap.size<=g) (hX:∀g,X g->∃c t,Blk wr g c t/\t≠95/\t≠3/\t≠68/\t≠97):StHere w w' iv ov mv S:=by
 rcases h with⟨h,hb⟩|h
 .exact .inl ⟨h,hb.trans (hk.below hw (λi hi hg=>by have:=h1 i hg;omega))⟩
 exact .inr (StOwn.keep h hk hX)
structure KRows (B:Nat) (w:World) (vo:Value) (kss:List (List PKey)) (kvs:List Value):Prop where
 out:OwnP B w 29 1 vo (kvs.map λkv=>[kv])
 len:kvs.length=kss.length
 keys:∀(i:Nat) (kv:Value) (ks:List PKey),kvs[i]? =some kv->kss[i]? =some ks->OwnP B w 61 2 kv (ks.map PKey.cells)
theorem KRows.keep {kss:List (List PKey)} {X:Nat->Prop} (h:KRows B w vo kss kvs) (hk:Keep X w w') (hX:∀g,X g->∃c t,Blk w g c t/\t≠29/\t≠61):KRows B w' vo kss kvs:=by
 obtain⟨h1,h2,h3⟩:=h;refine⟨OwnP.keep h1 hk (λg hg hx=>?_),h2,λi kv ks hi hj=>OwnP.keep (h3 i kv ks hi hj) hk (λg hg hx=>?_)⟩
 .obtain⟨c,t,hb,n1,n2⟩:=hX g hx;exact h1.ne_blk hb n1.symm hg rfl
 obtain⟨c,t,hb,n1,n2⟩:=hX g hx;exact(h3 i kv ks hi hj).ne_blk hb n2.symm hg rfl
theorem OwnP.blk {e:TypeId} {k:Nat} {v:Value} {rows:List (List Value)} (h:OwnP B w e k v rows) {g:Nat} (hg:v.ownBlock=some g):∃c,Blk w g c e:=by
 rcases h with⟨rfl,_⟩|⟨g',cap,cur,rfl,_,hb,_⟩
 .simp[Value.ownBlock]at hg
 simp[Value.ownBlock]at hg;subst hg;exact⟨_,hb⟩
theorem KRows.more {w1 w2:World} {v' kv:Value} {kss:List (List PKey)} {ks:List PKey} (h:KRows B w vo kss kvs) (hn:OwnP B w 61 2 kv (ks.map PKey.cells)) (hb:Bl w w1) (hG:Grew B 29 1 w1 vo ((kvs++[kv]).map λkv=>[kv]) v' w2):KRows B w2 v' (kss++[ks]) (kvs++[kv]):=by
 obtain⟨g1,g2,-⟩:=hG;obtain⟨h1,h2,h3⟩:=h;have key:∀(kv:Value) (ks:List PKey),OwnP B w 61 2 kv (ks.map PKey.cells)->OwnP B w2 61 2 kv (ks.map PKey.cells):=λkv ks ho=>by refine OwnP.keep (OwnP.keep ho (Keep.of_below hb (λ_=>False)) (λ_ _ h=>h)) g2 (λg hg hx=>?_);obtain⟨c,hc⟩:=h1.blk hx;exact ho.ne_blk hc (by decide) hg rfl
 refine⟨g1,by rw[lP,lP,h2];rfl,λi kv' ks' hi hj=>?_⟩;by_cases hl:i<kvs.length
 .rw[zZ hl]at hi;rw[zZ (by omega)]at hj;exact key kv' ks' (h3 i kv' ks' hi hj)
 rw[yC (by omega)]at hi;rw[yC (by omega)]at hj;rcases hz:i-kvs.length with _|z
 .rw[hz]at hi;rw[<-h2,hz]at hj;cases hi;cases hj;exact key _ _ hn
 rw[hz]at hi;simp at hi
theorem aYU:(prog.info? 29).map (λi=>(i.zero,i.size,i.bytes))=some (some (.slice none 0 0),1,24):=by kernel_rfl
theorem bAR {ops:Array Oper} {rest:List Oper} {o:Oper} {a:Act} {Q:Exit->Act->World->Prop} (hgd:o.guard=none) (s y:Operand)
 (hop:o.op=.call { callee:=.builtin .append,args:=#[s,y],argTypes:=#[85,85]}) (B:Nat) (v x kv:Value) (kvs:List Value) (hs:a.eval s=v) (hy:a.eval y=x) (ho:OwnP B w 29 1 v (kvs.map λkv=>[kv])) (hx:RowAt w 1 x [[kv]]) (h1:kv.oneCell'=true) (hl:kvs.length<=1000000000000) (hB:B<=w.heap.size)
 (h:∀v' w',Grew B 29 1 w v ((kvs++[kv]).map λkv=>[kv]) v' w'->wpList prog ops Q rest (a.put o.dst v') w'):
 wpList prog ops Q (o::rest) a w:=by
 obtain⟨i,hi,hz,h2,h3⟩:=info_parts aYU;refine jJ w hgd s y 85 hop B 29 1 24 i _ underlying85 hi hz h2 h3 rfl (by decide) v x (kvs.map λkv=>[kv]) [[kv]] hs hy (by
  intro cs hc;obtain⟨r,_,rfl⟩:=mem_map.1 hc;rfl) (by intro cs hc;simp only[yZ]at hc;subst hc;rfl) (by intro cs hc u hu;simp only[yZ]at hc;subst hc;simp only[yZ]at hu;subst hu;exact h1) ho hx ?_ ?_ hB ?_
 .rw[lM,length_singleton];unfold maxLen;omega
 .rw[lM,length_singleton];omega
 intro v' w' hg;exact h v' w' (by rw[yS];exact hg)
theorem aXA (iv ov mv:Value) (S:PSt) (cs:List PCall) (vc:Value) (w:World) (h:StRead w iv ov mv S) (hwf:S.wf) (hc:RowAt w 8 vc (cs.map PCall.cells)) (hcd:∀c∈cs,c.data.size<=1000000000000000000) (hcl:cs.length<=1000000000):
 Calls prog 54 #[.agg #[iv,ov,mv],vc] w λe w'=>Bl w w'/\∃vo kvs,e=.returned vo/\KRows w.heap.size w' vo (nT S cs) kvs:=by
 have o1:=h.1.one;have o2:=h.2.1.one;have o3:iv.oneCell'=true:=by obtain⟨_,_,_,h3,_⟩:=h;exact h3.one
 obtain⟨ac,cc,rfl,hatc⟩:=hc.at_;rw[lM];have HS:=bG h hatc;clear h hatc hc;go_in;go_upto_region 2 with fail;refine aD (F:=λwA=>Bl w wA/\(∃iv ov mv,Blk wA w.heap.size #[iv,ov,mv] 26/\StHere w wA iv ov mv S)/\KRows w.heap.size wA (.slice none 0 0) [] []) ⟨bel w _,⟨iv,ov,mv,Blk.new _ _ _,.inl ⟨HS.out.1,bel w _⟩⟩,⟨.inl ⟨rfl,rfl⟩,rfl,λi kv ks h=>by simp at h⟩⟩ ?_;intro wA HA0;have HA:=aC HA0;clear HA0;go_wp2
 go_loopw[5,11] (λvo vi wr=>∃(q:Nat) (kvs:List Value) (vx:Value),vi=.int .i64 q/\vx=vo/\q<=cs.length/\Bl w wr/\(∃iv ov mv,Blk wr w.heap.size #[iv,ov,mv] 26/\StHere w wr iv ov mv (stM S (cs.take q)))/\KRows w.heap.size wr vx (nT S (cs.take q)) kvs) (λ_ vi _=>(cs.length-intOf vi).toNat)
 case atStart=>exact⟨0,[],_,rfl,rfl,by omega,HA.out.1,HA.out.2.1,HA.out.2.2⟩
 obtain⟨q,kvs,vx,rfl,rfl,hq,hbr,⟨iv2,ov2,mv2,hbk,hst⟩,hkr⟩:=hrel;by_cases hlt:q<cs.length
 .obtain⟨c,hc⟩:∃c,cs[q]? =some c:=⟨_,gE hlt⟩
  obtain⟨bc,offc,rfl,iC0,iC,hcc⟩:=HS.out.2 wr hbr q c.cells (by rw[gM,hc];rfl);have c0:=hcc 0 _ rfl;have c1:=hcc 1 _ rfl;have c2:=hcc 2 _ rfl;have c3:=hcc 3 _ rfl;have c4:=hcc 4 _ rfl;have c5:=hcc 5 _ rfl;have c6:=hcc 6 _ rfl;have c7:=hcc 7 _ rfl;rw[zN]at c0;have a2:=aTU (cs.take q) S hwf;have a0:=fun(ww:World) (hb:Bl wr ww)=>aRV iv2 ov2 mv2 (stM S (cs.take q)) c ww (hst.read.below hb (zC _)) a2 (aDM a2) (hcd c (mG hc));have a9:cs.take (q+1)=cs.take q++[c]:=by rw[take_succ_eq_append_getElem hlt];congr 2;rw[gE hlt]at hc;exact Option.some.inj hc
  have b4:(lX (stM S (cs.take q)) c).1=stM S (cs.take (q+1)):=by rw[a9,aGO]
  have b5:nT S (cs.take (q+1))=nT S (cs.take q)++[mN (stM S (cs.take q)) c]:=by rw[a9,aCT]
  rw[b4]at a0;have d4:=hst.read.1.one;have d5:=hst.read.2.1.one;have d6:iv2.oneCell'=true:=by obtain⟨_,_,_,h3,_⟩:=hst.read;exact h3.one
  have ib:=hbk.lt;have k0:wr.cell? w.heap.size=some iv2:=hbk.cell 0;have k1:wr.cell? ⟨w.heap.size,1,none⟩=some ov2:=hbk.cell 1;have k2:wr.cell? ⟨w.heap.size,2,none⟩=some mv2:=hbk.cell 2;have c8:∀w1,Below (wr.alloc (.cells #[c.kind,c.core,c.fd,c.off,c.num,c.path,c.path2,c.data] 28)).heap.size (wr.alloc (.cells #[c.kind,c.core,c.fd,c.off,c.num,c.path,c.path2,c.data] 28)) w1->Blk w1 w.heap.size #[iv2,ov2,mv2] 26:=λw1 hb=>(hbk.alloc _).below hb (by have:=ib.lt;simp;omega);have c9:∀w1,Below (wr.alloc (.cells #[c.kind,c.core,c.fd,c.off,c.num,c.path,c.path2,c.data] 28)).heap.size (wr.alloc (.cells #[c.kind,c.core,c.fd,c.off,c.num,c.path,c.path2,c.data] 28)) w1->Bl wr w1:=λw1 hb=>(bel wr _).trans (hb.mono (by simp));have d0:∀w1,Below (wr.alloc (.cells #[c.kind,c.core,c.fd,c.off,c.num,c.path,c.path2,c.data] 28)).heap.size (wr.alloc (.cells #[c.kind,c.core,c.fd,c.off,c.num,c.path,c.path2,c.data] 28)) w1->w.heap.size<=(wr.alloc (.cells #[c.kind,c.core,c.fd,c.off,c.num,c.path,c.path2,c.data] 28)).heap.size:=λw1 _=>by have:=ib.lt;simp;omega
  have HR:=lE hbr hkr b5 hbk;clear hbr hst hkr b5 b4 a9 hcc hc hbk a2;unfold PCall.val at a0;go_upto_region 7 with(go_at_call 40;refine(a0 _ (bel _ _)).mono ?_;rintro e w1 ⟨hb1,kv,iv3,ov3,mv3,rfl,hok,hso⟩;have a4:=c9 w1 hb1;have a1:=c8 w1 hb1;have b6:=d0 w1 hb1;have x0:w1.cell? w.heap.size=some iv2:=a1.cell 0;have x1:w1.cell? ⟨w.heap.size,1,none⟩=some ov2:=a1.cell 1;have x2:w1.cell? ⟨w.heap.size,2,none⟩=some mv2:=a1.cell 2;have d1:=a1.frozen 0;have d2:=a1.frozen 1;have d3:=a1.frozen 2;have ix:=a1.lt;obtain⟨a11,a12,a13,a14,a15,a16,a17,a18,a19,rfl,rfl,rfl⟩:=hso.forms;clear hb1)
  have a3:=OwnP.mono hok b6;have a5:=StOwn.mono hso b6;clear hok hso;have b0:∀(u0 u1 u2:Value),Keep (λg=>g=w.heap.size) wr (((w1.setCell w.heap.size u0).setCell ⟨w.heap.size,1,none⟩ u1).setCell ⟨w.heap.size,2,none⟩ u2):=λu0 u1 u2=>(((Keep.of_below a4 (λg=>g=w.heap.size)).setCell (p:=w.heap.size) (.inl rfl) _).setCell (p:=⟨w.heap.size,1,none⟩) (.inl rfl) _).setCell (p:=⟨w.heap.size,2,none⟩) (.inl rfl) _;have b1:∀(u0 u1 u2:Value),Keep (λg=>g=w.heap.size) w1 (((w1.setCell w.heap.size u0).setCell ⟨w.heap.size,1,none⟩ u1).setCell ⟨w.heap.size,2,none⟩ u2):=λu0 u1 u2=>(((Keep.refl (λg=>g=w.heap.size) w1).setCell (p:=w.heap.size) (.inl rfl) _).setCell (p:=⟨w.heap.size,1,none⟩) (.inl rfl) _).setCell (p:=⟨w.heap.size,2,none⟩) (.inl rfl) _;refine aD (F:=λwB=>Bl w wB/\(∃iv ov mv,Blk wB w.heap.size #[iv,ov,mv] 26/\StHere w wB iv ov mv (stM S (cs.take (q+1))))/\KRows w.heap.size wB vx (nT S (cs.take q)) kvs/\OwnP w.heap.size wB 61 2 kv ((mN (stM S (cs.take q)) c).map PKey.cells)) ⟨?_,?_,?_,?_⟩ ?_
  .exact HR.out.1.trans ((b0 _ _ _).below HR.out.1.size (λi hi hg=>by omega))
  .exact⟨_,_,_,((a1.set_ 0 _).set_ 1 _).set_ 2 _,.inr (StOwn.keep a5 (b1 _ _ _) (λg hg=>by rw[hg];exact⟨_,26,a1,by decide,by decide,by decide,by decide⟩))⟩
  .exact HR.out.2.1.keep (b0 _ _ _) (λg hg=>by rw[hg];exact⟨_,26,HR.out.2.2.2,by decide,by decide⟩)
  .exact OwnP.keep a3 (b1 _ _ _) (λg hg hx=>by
    rw[hx]at hg;exact a3.ne_blk a1 (by decide) hg rfl)
  clear a3 a5 b0 b1 a1 a4 x0 x1 x2 d1 d2 d3 ix k0 k1 k2;rintro wB ⟨hbB,hstB,hkB,hokB⟩;have b7:=hbB.size;obtain⟨ak,nk,ck,rfl⟩:∃a n c,kv=.slice a n c:=by obtain⟨a,c,h,-⟩:=hokB.row;exact⟨a,_,c,h⟩
  have b2:=hokB.one;have HB:=lE hbB hstB hkB hokB;have b8:=HB.out.2.2.1.len;rw[sJ,zU]at b8;have C1:OwnP w.heap.size (wB.alloc (.cells #[.slice ak nk ck] 29)) 29 1 vx (kvs.map λkv=>[kv]):=OwnP.keep HB.out.2.2.1.out (Keep.of_below (bel wB _) (λ_=>False)) (λ_ _ h=>h);have C2:RowAt (wB.alloc (.cells #[.slice ak nk ck] 29)) 1 (.slice wB.heap.size 1 1) [[.slice ak nk ck]]:=OwnP.row (B:=0) (e:=29) (.inr ⟨wB.heap.size,1,#[.slice ak nk ck],rfl,Nat.zero_le _,Blk.new _ _ _,zC _,by decide,rfl,λq' cs' hq' t u hu=>by
   rcases q' with _|q'
   .simp only[zH,zF]at hq';subst hq';rcases t with _|t
    .exact hu
    simp at hu
   simp at hq'⟩)
  have C5:w.heap.size<=(wB.alloc (.cells #[.slice ak nk ck] 29)).heap.size:=by simp;omega
  have C4:kvs.length<=1000000000000:=by omega
  have CC:=lE C1 C2 C5 C4;clear C1 C2 C5 C4 hbB hstB hkB hokB b8;go_wp2_with(at_builtin;refine bAR rfl _ _ rfl w.heap.size vx (.slice wB.heap.size 1 1) (.slice ak nk ck) kvs rfl rfl CC.out.1 CC.out.2.1 b2 CC.out.2.2.2 CC.out.2.2.1 ?_);intro v' w2 hG;rw[show (List.map (λkv=>[kv]) kvs++[[Value.slice ak nk ck]])=(kvs++[Value.slice ak nk ck]).map (λkv=>[kv]) by rw[yS];rfl]at hG;have b3:=HB.out.2.2.1.more HB.out.2.2.2 (bel wB (wB.alloc (.cells #[.slice ak nk ck] 29))) hG;rw[<-HR.out.2.2.1]at b3;have a8:Keep (λg=>vx.ownBlock=some g) wB w2:=(Keep.of_below (bel wB (wB.alloc (.cells #[.slice ak nk ck] 29))) _).trans hG.2.1 (λi hi hg=>hg);have a6:∀g,vx.ownBlock=some g->w.heap.size<=g/\∃c,Blk wB g c 29:=λg hg=>⟨HB.out.2.2.1.out.ge hg,HB.out.2.2.1.out.blk hg⟩;have b9:Bl w w2:=HB.out.1.trans (a8.below b7 (λi hi hg=>by have:=(a6 i hg).1;omega));have a7:∃iv ov mv,Blk w2 w.heap.size #[iv,ov,mv] 26/\StHere w w2 iv ov mv (stM S (cs.take (q+1))):=by
   obtain⟨iv,ov,mv,h1,h2⟩:=HB.out.2.1;exact⟨iv,ov,mv,a8.blk h1 (λhg=>by
    obtain⟨_,c,hc⟩:=a6 _ hg;exact hc.ne_ h1 (by decide) rfl),h2.keep a8 b7 (λg hg=>(a6 g hg).1) (λg hg=>by
    obtain⟨_,c,hc⟩:=a6 g hg;exact⟨c,29,hc,by decide,by decide,by decide,by decide⟩)⟩
  have HF:=eK b9 a7 b3;clear hG b3 a8 a6 b9 a7;go_wp2;go_roundw
  case rel=>exact⟨q+1,_,v',by go_num,rfl,by omega,HF.out.1,HF.out.2.1,HF.out.2.2⟩
  simp[intOf];omega
 have e:cs.take q=cs:=take_of_length_le (by omega);rw[e]at hkr;have HK:=bG hbr hkr;clear hbr hst hbk hkr e;go_wp2;go_ret;exact⟨HK.out.1.trans ((bel wr _).mono HK.out.1.size),vx,kvs,rfl,HK.out.2.keep (Keep.of_below (bel wr _) (λ_=>False)) (λ_ h=>h.elim)⟩
end
theorem KRows.at_ {B:Nat} {w:World} {vo:Value} {kss:List (List PKey)} {kvs:List Value} (h:KRows B w vo kss kvs):∃a cap,vo=.slice a kss.length cap/\∀wr,Bl w wr->∀(q:Nat) (ks:List PKey),kss[q]? =some ks->∃b off kv,a=some ⟨b,off,none⟩/\BlockLt b wr/\wr.cell? ⟨b,off+q,none⟩=some kv/\RowAt wr 2 kv (ks.map PKey.cells):=by obtain⟨h1,h2,h3⟩:=h;obtain⟨a,cap,rfl,hat⟩:=h1.row.at_;rw[lM,h2];refine⟨a,cap,rfl,λwr hb q ks hq=>?_⟩;obtain⟨hql,_⟩:=gI.1 hq;obtain⟨kv,hkv⟩:∃kv,kvs[q]? =some kv:=⟨_,gE (by omega)⟩;obtain⟨b,off,e,_,i2,hc⟩:=hat wr hb q [kv] (by rw[gM,hkv];rfl);have:=hc 0 _ rfl;rw[Nat.mul_one,zN]at this;exact⟨b,off,kv,e,i2,this,(h3 q kv ks hkv hq).row.below hb (zC _)⟩
def dU (kss:List (List PKey)) (e l:Nat):Bool:=match kss[e]?,kss[l]? with
 |some x,some y=>gH x y
 |_,_=>false
def rO (S:PSt) (cs:List PCall) (inn:List Bool):Bool:=decide (inn.length=cs.length)&&cS S&&aKM (dU (nT S cs)) inn
theorem oC (f:Nat->Bool) (n q:Nat) (h:q<n):((List.range n).drop q).all f=(f q&&((List.range n).drop (q+1)).all f):=by rw[yH (by simpa using h),all_cons];simp
theorem qH (f:Nat->Bool) (n q:Nat) (h:¬q<n):((List.range n).drop q).all f=true:=by rw[drop_eq_nil_of_le (by simp;omega)];rfl
theorem aQA (iv ov mv:Value) (S:PSt) (cs:List PCall) (inn:List Bool) (vc vi:Value) (w:World) (h:StRead w iv ov mv S) (hwf:S.wf) (hc:RowAt w 8 vc (cs.map PCall.cells)) (hcd:∀c∈cs,c.data.size<=1000000000000000000) (hcl:cs.length<=1000000000) (hi:RowAt w 1 vi (inn.map bS)) (hil:inn.length<=1000000000):
 vR w 26 #[.agg #[iv,ov,mv],vc,vi] (.bool (rO S cs inn)):=by
 have a2:=fun(ww:World) (hb:Bl w ww)=>aXA iv ov mv S cs vc ww (h.below hb (zC _)) hwf (hc.below hb (zC _)) hcd hcl;have a0:=fun(ww:World) (hb:Bl w ww)=>aFZ iv ov mv S ww (h.below hb (zC _)) hwf;have o1:=h.1.one;have o2:=h.2.1.one;have o3:iv.oneCell'=true:=by obtain⟨_,_,_,h3,_⟩:=h;exact h3.one
 obtain⟨ac,cc,rfl,-⟩:=hc;obtain⟨ai,ci,rfl,hati⟩:=hi.at_;rw[lM]at a2 |-;rw[lM];obtain⟨R,hR⟩:∃R,rO S cs inn=R:=⟨_,rfl⟩;rw[hR];have HR:=aC hR;have HI:=aC hati;unfold rO at hR;clear h hi hati;by_cases hl:inn.length=cs.length
 .have b1 : ((inn.length:Int) !=cs.length)=false:=by simp;omega
  rw[decide_eq_true hl,xC]at hR;rcases hm:cS S with _|_
  .rw[hm,yJ]at hR;subst hR;rw[hm]at a0;clear hm a2
   unfold vR;go_in;go_wp2_with(go_at_call 39;refine aE (a0 _ (bel _ _)) λp=>?_);go_ret;exact⟨rfl,bel _ _⟩
  rw [hm, xC]at hR;rw[hm]at a0;have HC:=aC hR;clear hm hR;unfold vR;go_in;go_upto_region 4 with(first|(go_at_call 39;refine aE (a0 _ (bel _ _)) λp=>?_)|(go_at_call 54;refine(a2 _ (bel _ _)).mono ?_;rintro e w3 ⟨hb3,vo,kvs,rfl,hk⟩;obtain⟨ao,co,rfl,hato⟩:=hk.at_))
  have b3:=sJ cs S;generalize nT S cs=kss at *;have a7:Bl w w3:=(bel w _).trans (hb3.mono (bel w _).size);have HO:=aC hato;have HW:=aC a7;have a8:=a7.size;have b4:(kss.length:Int)=cs.length:=by omega
  clear hato hk hb3 a2 a0 hcd a7;go_wp2
  go_loopw[25] (λvi wr=>∃q:Nat,vi=.int .i64 q/\q<=kss.length/\((List.range inn.length).drop q).all (λl=>(List.range l).all λe=>!(inn.getD l false&&!inn.getD e false&&dU kss e l))=R/\Bl w3 wr) (λvi _=>(kss.length-intOf vi).toNat)
  case atStart=>exact⟨0,rfl,by omega,by rw[<-HC.out];rfl,bel _ _⟩
  obtain⟨q,rfl,hq,hre,hbr⟩:=hrel
  rename World=>wo
  have iB:Bel w3 wo:=⟨hbr⟩;by_cases hlt:q<kss.length
  .rw [oC _ _ _ (by omega)]at hre;obtain⟨y,hy⟩:∃y,inn[q]? =some y:=⟨_,gE (by omega)⟩
   obtain⟨ky,hky⟩:∃ky,kss[q]? =some ky:=⟨_,gE (by omega)⟩;have a9:inn.getD q false=y:=by rw[zG,hy];rfl
   rw[a9]at hre;have a6:=aC hre;have HY:=bG hy hky;clear hre hy hky a9;go_wp2
   go_loopw[29] (λvi w2=>∃k:Nat,vi=.int .i64 k/\k<=q/\((List.range q).drop k).all (λe=>!(y&&!inn.getD e false&&dU kss e q))=(List.range q).all (λe=>!(y&&!inn.getD e false&&dU kss e q))/\Bl wo w2) (λvi _=>(q-intOf vi).toNat)
   case atStart=>exact⟨0,rfl,by omega,rfl,bel _ _⟩
   obtain⟨k,rfl,hk,hre2,hb2⟩:=hrel;have a3:Bl w3 wr:=hbr.trans (hb2.mono hbr.size);have b2:Bel w3 wr:=⟨a3⟩;have b5:Bel wo wr:=⟨hb2⟩;by_cases hlk:k<q
   .rw[oC _ _ _ hlk]at hre2;obtain⟨x,hx⟩:∃x,inn[k]? =some x:=⟨_,gE (by omega)⟩
    obtain⟨kx,hkx⟩:∃kx,kss[k]? =some kx:=⟨_,gE (by omega)⟩;have b0:inn.getD k false=x:=by rw[zG,hx];rfl
    rw[b0]at hre2;have hT:dU kss k q=gH kx ky:=by unfold dU;rw[hkx,HY.out.2]
    rw[hT]at hre2;have a5:Bl w wr:=HW.out.trans (a3.mono a8);obtain⟨bi,oi,rfl,iI0,iI,hci⟩:=HI.out wr a5 q (bS y) (by rw[gM,HY.out.1];rfl);have i0:=hci 0 _ rfl;obtain⟨bi2,oi2,he2,-,-,hci2⟩:=HI.out wr a5 k (bS x) (by rw[gM,hx];rfl);have j0:=hci2 0 _ rfl;simp only[zF,yG,and_true]at he2;obtain⟨rfl,rfl⟩:=he2;rw[Nat.mul_one,zN]at i0 j0;obtain⟨bo,oo,kvy,rfl,iO,oy,hry⟩:=HO.out wr a3 q ky HY.out.2;obtain⟨bo2,oo2,kvx,heo,-,ox,hrx⟩:=HO.out wr a3 k kx hkx;simp only[zF,yG,and_true]at heo;obtain⟨rfl,rfl⟩:=heo;have a4:=fun(ww:World) (hb:Bl wr ww)=>qD kx ky kvx kvy ww (hrx.below hb (zC _)) (hry.below hb (zC _));have g1:(q:Int)<inn.length:=by omega
    have g2:(k:Int)<inn.length:=by omega
    have g3:(k:Int)<kss.length:=by omega
    obtain⟨ax,nx,cx,rfl⟩:∃a n c,kvx=.slice a n c:=by obtain⟨a,c,h,-⟩:=hrx;exact⟨a,_,c,h⟩
    obtain⟨ay,ny,cy,rfl⟩:∃a n c,kvy=.slice a n c:=by obtain⟨a,c,h,-⟩:=hry;exact⟨a,_,c,h⟩
    generalize gH kx ky=t at *;have a1:=aC hre2;clear hre2 hx hkx b0 hT hci hci2 hrx hry;rcases y with _|_
    .go_wp2;refine qR ?_
     repeat(go_big_quiet_step (fail))
     refine QN λp=>?_;go_wp2;go_roundw
     case rel=>exact⟨k+1,by go_num,by omega,by have:=a1.out;simpa using this,bel _ _⟩
     simp[intOf];omega
    rcases x with _|_;rotate_left
    .go_wp2;refine qR ?_
     repeat(go_big_quiet_step (fail))
     refine QN λp=>?_;go_wp2;go_roundw
     case rel=>exact⟨k+1,by go_num,by omega,by have:=a1.out;simpa using this,bel _ _⟩
     simp[intOf];omega
    rcases t with _|_
    .go_wp2;refine qR ?_
     repeat(go_big_quiet_step ((first|refine cI (a4 _ (bel _ _))|refine cJ (a4 _ (bel _ _)))))
     refine QN λp=>?_;go_wp2;go_roundw
     case rel=>exact⟨k+1,by go_num,by omega,by have:=a1.out;simpa using this,bel _ _⟩
     simp[intOf];omega
    go_wp2;refine qR ?_
    repeat(go_big_quiet_step ((first|refine cI (a4 _ (bel _ _))|refine cJ (a4 _ (bel _ _)))))
    refine QN λp=>?_;go_wp2;go_ret;exact⟨gC (by have h2:=a6.out;rw[<-a1.out]at h2;rw[<-h2];rfl),HW.out.trans ((bel w3 _).mono a8)⟩
   rw[qH _ _ _ hlk]at hre2;have a1:=aC hre2;clear hre2;go_wp2;go_roundw
   case rel=>exact⟨q+1,by go_num,by omega,by have:=a6.out;rw[<-a1.out]at this;simpa using this,b2.below⟩
   simp[intOf];omega
  rw[qH _ _ _ (by omega)]at hre;have a6:=aC hre;clear hre;go_wp2;go_ret;exact⟨gC a6.out,HW.out.trans ((bel w3 _).mono a8)⟩
 have b1:((inn.length:Int) !=cs.length)=true:=by simp;omega
 rw[yM hl,yJ,yJ]at hR;subst hR;clear a2 a0;unfold vR;go_in;go_wp2;go_ret;exact⟨rfl,bel _ _⟩
end Go.Proofs.YtmkapobnfigedaaGreatDoor
namespace Go
theorem lV {P:Program} {ops:Array Oper} {S:World->Prop} {E:List Nat} {lx:Bool} {Q:Act->World->Prop} {o:Oper} {a:Act} {w:World} {k:Nat} {l:List Oper} (hw:Region.wanted o (yielded ops a.tmps)=false)
 (h:wpL P ops S E lx Q (k+1) l (a.put o.dst undef) w):wpL P ops S E lx Q k (o::l) a w:=by
 simp only[wpL];rw[zA (by rintro⟨_,h⟩;rw[hw]at h;cases h)];exact⟨undef,.inr ⟨hw,rfl⟩,h⟩
end Go
namespace Go.Proofs.YtmkapobnfigedaaGreatDoor
open Go.Proofs.Tryz List Go.RowKit
def eO (inn:List Bool):Array Value:=(inn.map Value.bool).toArray
theorem uD {inn:List Bool} {k:Nat} {x:Bool} (h:inn[k]? =some x):(eO inn)[k]? =some (.bool x):=by unfold eO;simp[h]
theorem uE (inn:List Bool) (k:Nat) (x:Bool):(eO inn).setIfInBounds k (.bool x)=eO (inn.set k x):=by unfold eO;simp[List.map_set]
theorem KRows.mono {B B':Nat} {w:World} {vo:Value} {kss:List (List PKey)} {kvs:List Value} (h:KRows B w vo kss kvs) (hb:B'<=B):KRows B' w vo kss kvs:=⟨OwnP.mono h.out hb,h.len,λi kv ks h1 h2=>OwnP.mono (h.keys i kv ks h1 h2) hb⟩
def oB (S:PSt) (cs:List PCall) (want:List Int):List Bool:=if cS S=true then sY (dU (nT S cs)) cs.length (oE cs.length want (List.replicate cs.length false))else oE cs.length want (List.replicate cs.length false)
theorem aHM (n:Nat) (l:List Int) (q:Nat) {k:Int} (h:l[q]? =some k) (inn:List Bool):oE n (l.drop q) inn=oE n (l.drop (q+1)) (if 0<=k/\k<n then inn.set k.toNat true else inn):=by obtain⟨hl,rfl⟩:=gI.1 h;rw[yH hl];rfl
structure CW (w:World) (n:Nat) (vo:Value) (kss:List (List PKey)) (kvs:List Value) (inn:List Bool) (wr:World):Prop where
 len:inn.length=n
 below:Bl w wr
 blk:Blk wr (w.heap.size+1) (eO inn) 4
 keys:KRows w.heap.size wr vo kss kvs
theorem CW.later {w:World} {n:Nat} {vo:Value} {kss:List (List PKey)} {kvs:List Value} {inn:List Bool} {wr w':World} (h:CW w n vo kss kvs inn wr) (hb:Bl wr w'):CW w n vo kss kvs inn w':=
 ⟨h.len,h.below.trans (hb.mono h.below.size),h.blk.below hb h.blk.lt.lt,h.keys.keep (Keep.of_below hb (λ_=>False)) (λ_ h=>h.elim)⟩
theorem CW.store {w:World} {n:Nat} {vo:Value} {kss:List (List PKey)} {kvs:List Value} {inn:List Bool} {wr w':World} (h:CW w n vo kss kvs inn wr) (hb:Bl wr w') {k m:Nat} (hk:k<m) (x:Bool) (hm:m<=n):CW w n vo kss kvs (inn.set k x) (w'.setCell ⟨w.heap.size+1,k,none⟩ (.bool x)):=by
 have h2:=h.later hb;refine⟨by rw[yB];exact h2.len,h2.below.setCell (p:=⟨w.heap.size+1,k,none⟩) (by show w.heap.size<=w.heap.size+1;omega) _,?_,?_⟩
 .have:=h2.blk.set_ k (.bool x);rw[uE]at this;exact this
 exact h2.keys.keep (Keep.setCell (S:=λg=>g=w.heap.size+1) (p:=⟨w.heap.size+1,k,none⟩) (Keep.refl _ w') (.inl rfl) _) (λg hg=>by rw[hg];exact⟨_,4,h2.blk,by decide,by decide⟩)
theorem aMK (iv ov mv:Value) (S:PSt) (cs:List PCall) (want:List Int) (vc vw:Value) (w:World) (h:StRead w iv ov mv S) (hwf:S.wf) (hc:RowAt w 8 vc (cs.map PCall.cells)) (hcd:∀c∈cs,c.data.size<=1000000000000000000) (hcl:cs.length<=2000000) (hw:RowAt w 1 vw (want.map aL)) (hwl:want.length<=1000000000) (hw64:∀k∈want,I64 k):
 Calls prog 23 #[.agg #[iv,ov,mv],vc,vw] w λe w'=>Bl w w'/\∃g,e=.returned (.slice (some ⟨g,0,none⟩) cs.length cs.length)/\w.heap.size<=g/\Blk w' g (eO (oB S cs want)) 4:=by
 have a3:=fun(ww:World) (hb:Bl w ww)=>aXA iv ov mv S cs vc ww (h.below hb (zC _)) hwf (hc.below hb (zC _)) hcd (by omega);have a4:=fun(ww:World) (hb:Bl w ww)=>aFZ iv ov mv S ww (h.below hb (zC _)) hwf;have o1:=h.1.one;have o2:=h.2.1.one;have o3:iv.oneCell'=true:=by obtain⟨_,_,_,h3,_⟩:=h;exact h3.one
 obtain⟨ac,cc,rfl,-⟩:=hc;obtain⟨aw,cw,rfl,hatw⟩:=hw.at_;rw[lM]at a3 |-;rw[lM];obtain⟨R,hR⟩:∃R,oB S cs want=R:=⟨_,rfl⟩;rw[hR];have HI:=aC hatw;unfold oB at hR;obtain⟨j0,ji,jz0,jz1,jz2⟩:=info_parts aUD;have c3:∀u:World,(Instr.makeSlice 39 (.int .i64 cs.length) (.int .i64 cs.length)).run prog u=.ok (.slice (some ⟨u.heap.size,0,none⟩) cs.length cs.length) (u.alloc (.cells (eO (List.replicate cs.length false)) 4)):=λu=>by have:=run_makeSlice (P:=prog) u 39 4 j0 _ underlying39 ji jz0 .i64 .i64 cs.length cs.length (by omega) (Int.le_refl _) (by rw[jz1];omega) (by rw[jz2];omega) (by omega);unfold eO;rw[<-sH (λx=>Value.bool x)];simpa[jz1,Value.cells]using this
 have b5:(List.replicate cs.length false).length=cs.length:=yP;generalize List.replicate cs.length false=I0 at *;have HR:=bG hR b5;clear h hw hatw hR;go_in;go_upto_region 2 with fail;refine aD (F:=λwA=>Bl w wA/\Blk wA w.heap.size #[iv,ov,mv] 26/\Blk wA (w.heap.size+1) (eO I0) 4) ⟨bel w _,(Blk.new _ _ _).alloc _,Blk.new_i _ _ _ _⟩ ?_;rintro wA ⟨hbA,hsA,hiA⟩;have a5:=fun(ww:World) (hb:Bl wA ww)=>a4 ww (hbA.trans (hb.mono hbA.size));have HA:=eK hbA hsA hiA;have iG:=hiA.lt;clear hbA hsA hiA;go_wp2
 go_loopw[9,18] (λ_ vi wr=>∃(q:Nat) (inn:List Bool),vi=.int .i64 q/\q<=want.length/\inn.length=cs.length/\oE cs.length (want.drop q) inn=oE cs.length want I0/\Bl w wr/\Blk wr w.heap.size #[iv,ov,mv] 26/\Blk wr (w.heap.size+1) (eO inn) 4) (λ_ vi _=>(want.length-intOf vi).toNat)
 case atStart=>exact⟨0,I0,rfl,by omega,HR.out.2,by simp,HA.out.1,HA.out.2.1,HA.out.2.2⟩
 obtain⟨q,inn,rfl,hq,hil,hre,hbr,hsr,hir⟩:=hrel;have c0:=hir.lt;by_cases hlt:q<want.length
 .obtain⟨k,hk⟩:∃k,want[q]? =some k:=⟨_,gE hlt⟩
  obtain⟨bw,ow,rfl,iW0,iW,hcw⟩:=HI.out wr hbr q (aL k) (by rw[gM,hk];rfl);have w0:=hcw 0 _ rfl;rw[Nat.mul_one,zN]at w0;rw[aHM _ _ _ hk]at hre;have c4:=hw64 k (mG hk);have fz:∀i,wr.frozen? ⟨w.heap.size+1,i,none⟩=false:=λi=>hir.frozen i;by_cases hk0:0<=k
  .by_cases hk1:k<cs.length
   .rw[zB ⟨hk0,hk1⟩]at hre;obtain⟨m,rfl⟩:∃m:Nat,k=m:=⟨k.toNat,by omega⟩
    rw[zJ]at hre;obtain⟨u,hu⟩:∃u,wr.cell? ⟨w.heap.size+1,m,none⟩=some u:=⟨_,by rw[hir.cell];exact yA (by unfold eO;simp;omega)⟩;have fm:=fz m;have a6:Blk (wr.setCell ⟨w.heap.size+1,m,none⟩ (.bool true)) (w.heap.size+1) (eO (inn.set m true)) 4:=by have:=hir.set_ m (.bool true);rw[uE]at this;exact this
    have a7:=hsr.far (a:=⟨w.heap.size+1,m,none⟩) (by simp) (.bool true);have a8:=hbr.setCell (p:=⟨w.heap.size+1,m,none⟩) (by show w.heap.size<=w.heap.size+1;omega) (.bool true);have HF:=nV hre a8 a7 a6 hil;clear hre hbr hsr hir hcw hk fz a6 a7 a8 hil;go_wp2;go_roundw
    case rel=>exact⟨q+1,_,by go_num,by omega,by rw[yB];exact HF.out.2.2.2.2,HF.out.1,HF.out.2.1,HF.out.2.2.1,HF.out.2.2.2.1⟩
    simp[intOf];omega
   rw[zA (by omega)]at hre;have HF:=nV hre hbr hsr hir hil;clear hre hbr hsr hir hcw hk fz hil;go_wp2;go_roundw
   case rel=>exact⟨q+1,_,by go_num,by omega,HF.out.2.2.2.2,HF.out.1,HF.out.2.1,HF.out.2.2.1,HF.out.2.2.2.1⟩
   simp[intOf];omega
  rw[zA (by omega)]at hre;have HF:=nV hre hbr hsr hir hil;clear hre hbr hsr hir hcw hk fz hil;go_wp2;go_roundw
  case rel=>exact⟨q+1,_,by go_num,by omega,HF.out.2.2.2.2,HF.out.1,HF.out.2.1,HF.out.2.2.1,HF.out.2.2.2.1⟩
  simp[intOf];omega
 have hM : inn = oE cs.length want I0:=by rw[List.drop_eq_nil_of_le (by omega)]at hre;exact hre
 subst hM;have s0:wr.cell? w.heap.size=some iv:=hsr.cell 0;have s1:wr.cell? ⟨w.heap.size,1,none⟩=some ov:=hsr.cell 1;have s2:wr.cell? ⟨w.heap.size,2,none⟩=some mv:=hsr.cell 2;have c5:=hsr.lt;have a0:=fun(ww:World) (hb:Bl wr ww)=>a4 ww (hbr.trans (hb.mono hbr.size));have a1:=fun(ww:World) (hb:Bl wr ww)=>a3 ww (hbr.trans (hb.mono hbr.size));generalize oE cs.length want I0=M0 at *;have HB:=eK hbr hir hil;clear hbr hir hil hre hsr a5 a4 a3;rcases hm:cS S with _|_
 .have b3:M0=R:=by
   have:=HR.out.1;rw[hm,zA (by decide)]at this;exact this
  rw[hm]at a0;clear hm a1;go_wp2_with(go_at_call 39;refine aE (a0 _ (bel _ _)) λp=>?_);go_ret;subst b3;exact⟨HB.out.1.trans ((bel wr _).mono HB.out.1.size),_,rfl,by omega,HB.out.2.1.below (bel wr _) c0.lt⟩
 have b3 : sY (dU (nT S cs)) cs.length M0=R:=by have:=HR.out.1;rw[hm,zB rfl]at this;exact this
 rw[hm]at a0;clear hm;go_upto_region 11 with(first|(go_at_call 39;refine aE (a0 _ (bel _ _)) λp=>?_)|(go_at_call 54;refine(a1 _ (bel _ _)).mono ?_;rintro e w3 ⟨hb3,vo,kvs,rfl,hkr⟩;obtain⟨ao,co,rfl,hato⟩:=hkr.at_))
 have c6:=sJ cs S;generalize nT S cs=kss at *;have a9:=HB.out.1;have b0:Bl wr w3:=(bel wr _).trans (hb3.mono (bel wr _).size);have c1:Bl w w3:=HB.out.1.trans (b0.mono HB.out.1.size);have b6:Blk w3 (w.heap.size+1) (eO M0) 4:=HB.out.2.1.below b0 c0.lt;have c7:=aC b3;have c9:IntKind.i64.wrap ((kss.length:Int)-1)=(kss.length:Int)-1:=I64.wrap (by unfold I64;omega);have d0:kss.length=cs.length:=c6;have c2:CW w cs.length (.slice ao kss.length co) kss kvs M0 w3:=⟨HB.out.2.2,c1,b6,hkr.mono (by have:=a9.size;simp;omega)⟩;have d1:=b6.lt;have c8:=aC c2;clear hato hkr hb3 a1 a0 hcd c1 b6 b3 s0 s1 s2 c5 c2 a9;go_wp2
 go_loopw[11] (λvl wr=>∃(l:Nat) (inn:List Bool),vl=.int .i64 ((l:Int)-1)/\l<=cs.length/\sY (dU kss) l inn=R/\CW w cs.length (.slice ao kss.length co) kss kvs inn wr) (λvl _=>(intOf vl+1).toNat)
 case atStart=>exact⟨cs.length,M0,rfl,by omega,c7.out,c8.out⟩
 obtain⟨l,inn,rfl,hl,hre,hcw⟩:=hrel
 rename World=>wo
 rcases l with _|m
 .have b7:inn=R:=hre;subst b7;have n0:¬(0:Int)<=((0:Nat):Int)-1:=by omega
  have HC:=aC hcw;clear hcw hre;go_wp2;go_ret;exact⟨HC.out.below.trans ((bel wo _).mono HC.out.below.size),_,rfl,by omega,HC.out.blk.below (bel wo _) HC.out.blk.lt.lt⟩
 have b1 : sY (dU kss) m (nE (dU kss) m m 0 inn)=R:=hre;have e1:((m+1:Nat):Int)-1=m:=by omega
 rw[e1];have b8:=aC b1;have HC:=aC hcw;clear hcw hre b1;go_wp2
 go_loopw[49] (λvk wr=>∃(k:Nat) (inn':List Bool),vk=.int .i64 k/\k<=m/\nE (dU kss) m (m-k) k inn'=nE (dU kss) m m 0 inn/\CW w cs.length (.slice ao kss.length co) kss kvs inn' wr) (λvk _=>(m-intOf vk).toNat)
 case atStart=>exact⟨0,inn,rfl,by omega,rfl,HC.out.later (bel wo _)⟩
 obtain⟨k,inn',rfl,hk,hst,hcw⟩:=hrel;have HX:=aC hcw;have d2:=hcw.blk.lt;by_cases hkm:k<m
 .obtain ⟨x,hx⟩:∃x,inn'[k]? =some x:=⟨_,gE (by have:=hcw.len;omega)⟩
  obtain⟨y,hy⟩:∃y,inn'[m]? =some y:=⟨_,gE (by have:=hcw.len;omega)⟩;obtain⟨kx,hkx⟩:∃kx,kss[k]? =some kx:=⟨_,gE (by omega)⟩;obtain⟨ky,hky⟩:∃ky,kss[m]? =some ky:=⟨_,gE (by omega)⟩;have hT:dU kss k m=gH kx ky:=by unfold dU;rw[hkx,hky]
  rw[show m-k=(m-(k+1))+1 by omega]at hst;have a2:nE (dU kss) m (m-(k+1)) (k+1) (inn'.set k (x||(y&&gH kx ky)))=nE (dU kss) m m 0 inn:=by rw[<-hst];show _=nE (dU kss) m (m-(k+1)) (k+1) (aQG (dU kss) m k inn');unfold aQG;rw[hT,zG,zG,hx,hy];rfl
  have x0:wr.cell? ⟨w.heap.size+1,k,none⟩=some (.bool x):=(hcw.blk.cell k).trans (uD hx);have y0:wr.cell? ⟨w.heap.size+1,m,none⟩=some (.bool y):=(hcw.blk.cell m).trans (uD hy);have fk:=hcw.blk.frozen k;obtain⟨ao',co',he,hato⟩:=hcw.keys.at_;simp only[zO]at he;obtain⟨rfl,-,rfl⟩:=he;obtain⟨bo,oo,kvy,rfl,iO,oy,hry⟩:=hato wr (Below.refl _ _) m ky hky;obtain⟨bo2,oo2,kvx,heo,-,ox,hrx⟩:=hato wr (Below.refl _ _) k kx hkx;simp only[zF,yG,and_true]at heo;obtain⟨rfl,rfl⟩:=heo;have b2:=fun(ww:World) (hb:Bl wr ww)=>qD kx ky kvx kvy ww (hrx.below hb (zC _)) (hry.below hb (zC _));have g1:(k:Int)<cs.length:=by omega
  have g2:(m:Int)<cs.length:=by omega
  have g3:(k:Int)<kss.length:=by omega
  have g4:(m:Int)<kss.length:=by omega
  obtain⟨ax,nx,cx,rfl⟩:∃a n c,kvx=.slice a n c:=by obtain⟨a,c,h,-⟩:=hrx;exact⟨a,_,c,h⟩
  obtain⟨ay,ny,cy,rfl⟩:∃a n c,kvy=.slice a n c:=by obtain⟨a,c,h,-⟩:=hry;exact⟨a,_,c,h⟩
  generalize gH kx ky=t at *;have b4:=aC a2;clear hst a2 hcw hx hy hkx hky hT hato hrx hry;rcases x with _|_;rotate_left
  .go_upto_region 17 with fail
   refine aH [20,24] true (λw'=>w'.cell? ⟨w.heap.size+1,k,none⟩=some (.bool true)/\w'.cell? ⟨w.heap.size+1,m,none⟩=some (.bool y)/\w'.cell? ⟨bo,oo+k,none⟩=some (.slice ax nx cx)/\w'.cell? ⟨bo,oo+m,none⟩=some (.slice ay ny cy)) (by kernel_rfl) (by kernel_rfl) ?_ ?_
   · (try dsimp only);(repeat' apply And.intro)<;>go_simp
   repeat
    first
     | (refine aI rfl rfl ?_
        apply Exists.intro;refine⟨?_,?_⟩
        focus
         rintro w' ⟨s0,s1,s2,s3⟩;go_simp
         first|done|rfl
        simp only[Act.put,sA,sZ,sS])
     | (refine lV rfl ?_
        simp only[Act.put,sA,sZ,sS])
   refine aV rfl rfl ?_;apply Exists.intro;apply And.intro
   focus
    go_simp
    first|done|rfl
   apply And.intro
   focus
    exact .inr ⟨rfl,rfl⟩
   refine aS ?_;simp only[Act.put];have HF:=aC (HX.out.store (bel wr wr.drew) hkm true (by omega));change Exit.inBlock _ _ .normal _ (wr.drew.setCell ⟨w.heap.size+1,k,none⟩ (.bool true));generalize wr.drew.setCell ⟨w.heap.size+1,k,none⟩ (.bool true)=wF at HF |-;go_wp2;go_roundw
   case rel=>exact⟨k+1,_,by go_num,by omega,by have:=b4.out;simpa using this,HF.out.later (bel wF _)⟩
   simp[intOf];omega
  rcases y with _|_
  .go_upto_region 17 with fail
   refine aH [20,24] true (λw'=>w'.cell? ⟨w.heap.size+1,k,none⟩=some (.bool false)/\w'.cell? ⟨w.heap.size+1,m,none⟩=some (.bool false)/\w'.cell? ⟨bo,oo+k,none⟩=some (.slice ax nx cx)/\w'.cell? ⟨bo,oo+m,none⟩=some (.slice ay ny cy)) (by kernel_rfl) (by kernel_rfl) ?_ ?_
   · (try dsimp only);(repeat' apply And.intro)<;>go_simp
   repeat
    first
     | (refine aI rfl rfl ?_
        apply Exists.intro;refine⟨?_,?_⟩
        focus
         rintro w' ⟨s0,s1,s2,s3⟩;go_simp
         first|done|rfl
        simp only[Act.put,sA,sZ,sS])
     | (refine lV rfl ?_
        simp only[Act.put,sA,sZ,sS])
   refine aV rfl rfl ?_;apply Exists.intro;apply And.intro
   focus
    go_simp
    first|done|rfl
   apply And.intro
   focus
    exact .inr ⟨rfl,rfl⟩
   refine aS ?_;simp only[Act.put];have HF:=aC (HX.out.store (bel wr wr.drew) hkm false (by omega));change Exit.inBlock _ _ .normal _ (wr.drew.setCell ⟨w.heap.size+1,k,none⟩ (.bool false));generalize wr.drew.setCell ⟨w.heap.size+1,k,none⟩ (.bool false)=wF at HF |-;go_wp2;go_roundw
   case rel=>exact⟨k+1,_,by go_num,by omega,by have:=b4.out;simpa using this,HF.out.later (bel wF _)⟩
   simp[intOf];omega
  rcases t with _|_
  .go_upto_region 17 with fail
   refine aH [20,24] true (λw'=>w'.cell? ⟨w.heap.size+1,k,none⟩=some (.bool false)/\w'.cell? ⟨w.heap.size+1,m,none⟩=some (.bool true)/\w'.cell? ⟨bo,oo+k,none⟩=some (.slice ax nx cx)/\w'.cell? ⟨bo,oo+m,none⟩=some (.slice ay ny cy)) (by kernel_rfl) (by kernel_rfl) ?_ ?_
   · (try dsimp only);(repeat' apply And.intro)<;>go_simp
   repeat
    first
     | (refine aI rfl rfl ?_
        apply Exists.intro;refine⟨?_,?_⟩
        focus
         rintro w' ⟨s0,s1,s2,s3⟩;go_simp
         first|done|rfl
        simp only[Act.put,sA,sZ,sS])
     | (refine lV rfl ?_
        simp only[Act.put,sA,sZ,sS])
   refine bA rfl rfl ?_;refine aR 17 #[.slice ax nx cx,.slice ay ny cy] ?_ ((b2 wr.drew (bel wr _)).mono ?_)
   .go_simp
    first|done|rfl
   rintro e w4 ⟨rfl,hb4⟩;obtain⟨p4,rfl⟩:=hb4.rest;refine⟨_,rfl,.inl ?_,?_⟩
   · (try dsimp only);(repeat' apply And.intro)<;>go_simp
   simp only[Act.put,sA,sZ,sS]
   repeat
    first
     | (refine aI rfl rfl ?_
        apply Exists.intro;refine⟨?_,?_⟩
        focus
         rintro w' ⟨s0,s1,s2,s3⟩;go_simp
         first|done|rfl
        simp only[Act.put,sA,sZ,sS])
     | (refine lV rfl ?_
        simp only[Act.put,sA,sZ,sS])
   refine aV rfl rfl ?_;apply Exists.intro;apply And.intro
   focus
    go_simp
    first|done|rfl
   apply And.intro
   focus
    exact .inr ⟨rfl,rfl⟩
   refine aS ?_;simp only[Act.put];have HF:=aC ((HX.out.store (Below.refl _ _) hkm false (by omega)).later (bel (wr.setCell ⟨w.heap.size+1,k,none⟩ (.bool false)) ((wr.setCell ⟨w.heap.size+1,k,none⟩ (.bool false)).drew.junk p4)));change Exit.inBlock _ _ .normal _ ((wr.setCell ⟨w.heap.size+1,k,none⟩ (.bool false)).drew.junk p4);generalize(wr.setCell ⟨w.heap.size+1,k,none⟩ (.bool false)).drew.junk p4=wF at HF |-;go_wp2;go_roundw
   case rel=>exact⟨k+1,_,by go_num,by omega,by have:=b4.out;simpa using this,HF.out.later (bel wF _)⟩
   simp[intOf];omega
  go_upto_region 17 with fail;refine aH [20,24] true (λw'=>w'.cell? ⟨w.heap.size+1,k,none⟩=some (.bool false)/\w'.cell? ⟨w.heap.size+1,m,none⟩=some (.bool true)/\w'.cell? ⟨bo,oo+k,none⟩=some (.slice ax nx cx)/\w'.cell? ⟨bo,oo+m,none⟩=some (.slice ay ny cy)) (by kernel_rfl) (by kernel_rfl) ?_ ?_
  · (try dsimp only);(repeat' apply And.intro)<;>go_simp
  repeat
   first
    | (refine aI rfl rfl ?_
       apply Exists.intro;refine⟨?_,?_⟩
       focus
        rintro w' ⟨s0,s1,s2,s3⟩;go_simp
        first|done|rfl
       simp only[Act.put,sA,sZ,sS])
    | (refine lV rfl ?_
       simp only[Act.put,sA,sZ,sS])
  refine bA rfl rfl ?_;refine aR 17 #[.slice ax nx cx,.slice ay ny cy] ?_ ((b2 wr.drew (bel wr _)).mono ?_)
  .go_simp
   first|done|rfl
  rintro e w4 ⟨rfl,hb4⟩;obtain⟨p4,rfl⟩:=hb4.rest;refine⟨_,rfl,.inl ?_,?_⟩
  · (try dsimp only);(repeat' apply And.intro)<;>go_simp
  simp only[Act.put,sA,sZ,sS]
  repeat
   first
    | (refine aI rfl rfl ?_
       apply Exists.intro;refine⟨?_,?_⟩
       focus
        rintro w' ⟨s0,s1,s2,s3⟩;go_simp
        first|done|rfl
       simp only[Act.put,sA,sZ,sS])
    | (refine lV rfl ?_
       simp only[Act.put,sA,sZ,sS])
  refine aV rfl rfl ?_;apply Exists.intro;apply And.intro
  focus
   go_simp
   first|done|rfl
  apply And.intro
  focus
   exact .inr ⟨rfl,rfl⟩
  refine aS ?_;simp only[Act.put];have HF:=aC ((HX.out.store (Below.refl _ _) hkm true (by omega)).later (bel (wr.setCell ⟨w.heap.size+1,k,none⟩ (.bool true)) ((wr.setCell ⟨w.heap.size+1,k,none⟩ (.bool true)).drew.junk p4)));change Exit.inBlock _ _ .normal _ ((wr.setCell ⟨w.heap.size+1,k,none⟩ (.bool true)).drew.junk p4);generalize(wr.setCell ⟨w.heap.size+1,k,none⟩ (.bool true)).drew.junk p4=wF at HF |-;go_wp2;go_roundw
  case rel=>exact⟨k+1,_,by go_num,by omega,by have:=b4.out;simpa using this,HF.out.later (bel wF _)⟩
  simp[intOf];omega
 have b9:k=m:=by omega
 subst b9;have a2:inn'=nE (dU kss) k k 0 inn:=by rw[Nat.sub_self]at hst;exact hst
 have HS:=aC a2;have d3:IntKind.i64.wrap ((k:Int)-1)=(k:Int)-1:=I64.wrap (by unfold I64;omega);clear hst a2 hcw;go_wp2;go_roundw
 case rel=>exact⟨k,inn',rfl,by omega,by rw[HS.out];exact b8.out,HX.out.later (bel wr _)⟩
 first|(simp [intOf];done)|(simp [intOf];omega)
def jL (S:PSt) (c:PCall):List PKey:=if cS S=true then mN S c else[]
theorem aRW (iv ov mv:Value) (S:PSt) (c:PCall) (w:World) (h:StRead w iv ov mv S) (hwf:S.wf) (hcd:c.data.size<=1000000000000000000):
 Calls prog 12 #[.agg #[iv,ov,mv],c.val] w λe w'=>Bl w w'/\∃kv,e=.returned kv/\OwnP w.heap.size w' 61 2 kv ((jL S c).map PKey.cells):=by
 have a1:=fun(ww:World) (hb:Bl w ww)=>aFZ iv ov mv S ww (h.below hb (zC _)) hwf;have a0:=fun(ww:World) (hb:Bl w ww)=>aRV iv ov mv S c ww (h.below hb (zC _)) hwf (aDM hwf) hcd;have o1:=h.1.one;have o2:=h.2.1.one;have o3:iv.oneCell'=true:=by obtain⟨_,_,_,h3,_⟩:=h;exact h3.one
 obtain⟨R,hR⟩:∃R,jL S c=R:=⟨_,rfl⟩;rw[hR];unfold jL at hR;clear h;unfold PCall.val at a0 |-;rcases hm:cS S with _|_
 .rw[hm,zA (by decide)]at hR;subst hR;rw[hm]at a1;clear hm a0
  go_in;go_wp2_with(go_at_call 39;refine aE (a1 _ (bel _ _)) λp=>?_);go_ret;exact⟨bel _ _,_,rfl,.inl ⟨rfl,rfl⟩⟩
 rw[hm,zB rfl]at hR;rw[hm]at a1;rw[hR]at a0;clear hm hR;go_in;go_wp2_with(first|(go_at_call 39;refine aE (a1 _ (bel _ _)) λp=>?_)|(go_at_call 40;refine(a0 _ (bel _ _)).mono ?_;rintro e w3 ⟨hb3,kv,iv3,ov3,mv3,rfl,hk,hs⟩;have a2:=hk.one;obtain⟨a11,a12,a13,a14,a15,a16,a17,a18,a19,rfl,rfl,rfl⟩:=hs.forms));go_ret;exact⟨(bel w _).trans ((hb3.mono (bel w _).size).trans ((bel w3 _).mono (zD (bel w _).size hb3.size))),kv,rfl,OwnP.mono (OwnP.keep hk (Keep.of_below (bel w3 _) (λ_=>False)) (λ_ _ h=>h)) (bel w _).size⟩
theorem aNO (us bs:List Bool) (q:Nat) {x y:Bool} (hx:us[q]? =some x) (hy:bs[q]? =some y):(us.drop q==bs.drop q)=((x==y)&&(us.drop (q+1)==bs.drop (q+1))):=by obtain⟨h1,rfl⟩:=gI.1 hx;obtain⟨h2,rfl⟩:=gI.1 hy;rw[yH h1,yH h2];rfl
theorem aFQ (us bs:List Bool) (va vb:Value) (w:World) (ha:RowAt w 1 va (us.map bS)) (hb:RowAt w 1 vb (bs.map bS)):
 vR w 25 #[va,vb] (.bool (us==bs)):=by
 have a2:us.length<=9223372036854775807:=by obtain⟨_,_,_,h,_⟩:=ha;rw[lM]at h;exact h
 obtain⟨aa,ca,rfl,hata⟩:=ha.at_;obtain⟨ab,cb,rfl,hatb⟩:=hb.at_;rw[lM,lM];have HA:=bG hata hatb;clear hata hatb ha hb;obtain⟨R,hR⟩:∃R,(us==bs)=R:=⟨_,rfl⟩;rw[hR];by_cases hl:us.length=bs.length
 .have a0:((us.length:Int) !=bs.length)=false:=by simp;omega
  have HR:=aC hR;clear hR;unfold vR;go_in;go_wp2
  go_loopw[5] (λvi wr=>∃q:Nat,vi=.int .i64 q/\q<=us.length/\(us.drop q==bs.drop q)=R/\Bl w wr) (λvi _=>(us.length-intOf vi).toNat)
  case atStart=>exact⟨0,rfl,by omega,by simpa using HR.out,bel _ _⟩
  obtain⟨q,rfl,hq,hre,hbr⟩:=hrel;have iB:Bel w wr:=⟨hbr⟩;by_cases hlt:q<us.length
  .obtain⟨x,hx⟩:∃x,us[q]? =some x:=⟨_,gE hlt⟩
   obtain⟨y,hy⟩:∃y,bs[q]? =some y:=⟨_,gE (by omega)⟩;obtain⟨be,offe,rfl,iE0,iE,hce⟩:=HA.out.1 wr hbr q (bS x) (by rw[gM,hx];rfl);have e0:=hce 0 _ rfl;obtain⟨bf,offf,rfl,iF0,iF,hcf⟩:=HA.out.2 wr hbr q (bS y) (by rw[gM,hy];rfl);have f0:=hcf 0 _ rfl;rw[Nat.mul_one,zN]at e0 f0;rw[aNO us bs q hx hy]at hre;have g1:(q:Int)<us.length:=by omega
   have g2:(q:Int)<bs.length:=by omega
   have HE:=aC hre;clear hre hce hcf hx hy;rcases x with _|_<;>rcases y with _|_
   .go_wp2;refine qR ?_
    repeat(go_big_quiet_step (fail))
    refine QN λp=>?_;go_wp2;go_roundw
    case rel=>exact⟨q+1,by go_num,by omega,by have:=HE.out;simpa using this,bel _ _⟩
    simp[intOf];omega
   .go_wp2;refine qR ?_
    repeat(go_big_quiet_step (fail))
    refine QN λp=>?_;go_wp2;go_ret;exact⟨gC (by rw[<-HE.out];rfl),bel _ _⟩
   .go_wp2;refine qR ?_
    repeat(go_big_quiet_step (fail))
    refine QN λp=>?_;go_wp2;go_ret;exact⟨gC (by rw[<-HE.out];rfl),bel _ _⟩
   go_wp2;refine qR ?_
   repeat(go_big_quiet_step (fail))
   refine QN λp=>?_;go_wp2;go_roundw
   case rel=>exact⟨q+1,by go_num,by omega,by have:=HE.out;simpa using this,bel _ _⟩
   simp[intOf];omega
  rw[drop_eq_nil_of_le (by omega),drop_eq_nil_of_le (by omega)]at hre;have HE:=aC hre;clear hre;go_wp2;go_ret;exact⟨gC (by rw[<-HE.out];rfl),bel _ _⟩
 have a0:((us.length:Int) !=bs.length)=true:=by simp;omega
 have a1:R=false:=by rw[<-hR,Bool.eq_false_iff];intro h;rw[beq_iff_eq]at h;exact hl (by rw[h])
 subst a1;clear hR;unfold vR;go_in;go_wp2;go_ret;exact⟨rfl,bel _ _⟩
def aIC (k:PKey):List PKey->List PKey
 |[]=>[k]
 |y::r=>if nC y k=true then y::aIC k r else k::y::r
def isK (l:List PKey):List PKey:=l.foldr aIC []
def uY (x y:PKey):Bool:=!nC y x
theorem aNF (x y:PKey):(uY x y||uY y x)=true:=by
 unfold uY;rcases h1:nC y x with _|_
 .simp
 rcases h2:nC x y with _|_
 .simp
 have:=fX h1 h2;rw[kH]at this;cases this
theorem aBK (x y z:PKey) (h1:uY x y=true) (h2:uY y z=true):uY x z=true:=by
 unfold uY at *;simp only[yL]at *;rw[Bool.eq_false_iff];intro h;rcases jT y z with h3|h3|h3
 .rw[fX h3 h]at h1;cases h1
 .subst h3;rw[h]at h1;cases h1
 rw[h3]at h2;cases h2
theorem aRM {x y:PKey} (h1:uY x y=true) (h2:uY y x=true):x=y:=by
 unfold uY at *;simp only[yL]at *;rcases jT x y with h3|h3|h3
 .rw[h3]at h2;cases h2
 .exact h3
 rw[h3]at h1;cases h1
theorem tE (k:PKey):∀l,(aIC k l).Perm (k::l)
 |[]=>List.Perm.refl _
 | y::r=>by
   unfold aIC;split
   .exact((tE k r).cons y).trans (List.Perm.swap k y r)
   exact List.Perm.refl _
theorem uG (k:PKey):∀l,l.Pairwise (λx y=>uY x y=true)->(aIC k l).Pairwise (λx y=>uY x y=true)
 |[],_=>by simp[aIC]
 | y ::r,h=>by
   rw[pairwise_cons]at h;unfold aIC;split
   .rename_i hy
    rw[pairwise_cons];refine⟨λz hz=>?_,uG k r h.2⟩;rcases mem_cons.1 ((tE k r).mem_iff.1 hz)with rfl|hz
    .unfold uY;rcases h3:nC z y with _|_
     .rfl
     have:=fX hy h3;rw[kH]at this;cases this
    exact h.1 z hz
   rename_i hy;have a0:uY k y=true:=by unfold uY;simpa using hy
   rw[pairwise_cons];refine⟨λz hz=>?_,pairwise_cons.2 h⟩;rcases mem_cons.1 hz with rfl|hz
   .exact a0
   exact aBK _ _ _ a0 (h.1 z hz)
theorem rR:∀l,(isK l).Perm l
 |[]=>List.Perm.refl _
 |k::l=>(tE k (isK l)).trans ((rR l).cons k)
theorem qV:∀l,(isK l).Pairwise (λx y=>uY x y=true)
 |[]=>List.Pairwise.nil
 |k::l=>uG k _ (qV l)
theorem oQ:∀(a b:List PKey),a.Pairwise (λx y=>uY x y=true)->b.Pairwise (λx y=>uY x y=true)->a.Perm b->a=b
 |[],b,_,_,h=>(List.Perm.nil_eq h)
 |x::a,[],_,_,h=>by simp at h
 | x::a,y::b,ha,hb,h=>by
   rw[pairwise_cons]at ha hb;have a0:x=y:=by
    have h1:x∈y::b:=h.mem_iff.1 (by simp);have h2:y∈x::a:=h.mem_iff.2 (by simp);rcases mem_cons.1 h1 with e|h1
    .exact e
    rcases mem_cons.1 h2 with e|h2
    .exact e.symm
    exact aRM (ha.1 y h2) (hb.1 x h1)
   subst a0;rw[oQ a b ha.2 hb.2 (List.Perm.cons_inv h)]
theorem aFG (l:List PKey):nS l=isK l:=by
 refine oQ _ _ ?_ (qV l) ?_
 .unfold nS;exact pairwise_mergeSort (λa b c h1 h2=>aBK a b c h1 h2) (λa b=>aNF a b) l
 unfold nS;exact(mergeSort_perm _ _).trans (rR l).symm
def aQY (code:Int) (o:Option (List PKey)):List PKey:=if code=0 then(match o with|none=>[]|some l=>cE (isK l))else[]
theorem aQZ (code:Int) (o:Option (List PKey)):rV code o=aQY code o:=by
 unfold aQY;by_cases h:code=0
 .rw[zB h];rcases o with _|l
  .rw[nI]
  rw[qX h,aFG]
 rw[zA h,tK h]
def aRA (S:PSt) (c:PCall):List PKey:=aQY (lX S c).2.code (cH S (lX S c).1 c)
theorem aFE (S:PSt) (c:PCall):mN S c=aRA S c:=aQZ _ _
def aRB:PSt->List PCall->List (List PKey)
 |_,[]=>[]
 |S,c::r=>aRA S c::aRB (lX S c).1 r
theorem aDN:∀(cs:List PCall) (S:PSt),nT S cs=aRB S cs
 |[],_=>rfl
 | c::r,S=>by unfold nT aRB;rw[aFE,aDN r]
def vW (S:PSt) (cs:List PCall) (want:List Int):List Bool:=if cS S=true then sY (dU (aRB S cs)) cs.length (oE cs.length want (List.replicate cs.length false))else oE cs.length want (List.replicate cs.length false)
theorem aFF (S:PSt) (cs:List PCall) (want:List Int):oB S cs want=vW S cs want:=by unfold oB vW;rw[aDN]
def aDO (S:PSt) (cs:List PCall) (inn:List Bool):Bool:=decide (inn.length=cs.length)&&cS S&&aKM (dU (aRB S cs)) inn
theorem aHY (S:PSt) (cs:List PCall) (inn:List Bool):rO S cs inn=aDO S cs inn:=by unfold rO aDO;rw[aDN]
def cA:PCall:=⟨0,0,0,0,0,⟨#[47,97]⟩,⟨#[]⟩,⟨#[]⟩⟩
def cB:PCall:=⟨2,1,0,0,0,⟨#[47,97]⟩,⟨#[]⟩,⟨#[]⟩⟩
def ksA:List PKey:=aRA (kD 2) cA
theorem aVA:cS (kD 2)=true:=by kernel_rfl
theorem aDP:ksA.length=4:=by kernel_rfl
theorem aWQ:ksA[0]? =some ⟨-1,⟨#[]⟩⟩:=by kernel_rfl
theorem aWR:ksA[3]? =some ⟨2,⟨#[]⟩⟩:=by kernel_rfl
theorem aXP:gH ksA ksA=true:=by kernel_rfl
theorem aXQ:gH ksA [⟨1,⟨#[46]⟩⟩]=false:=by kernel_rfl
theorem aXR:vW (kD 2) [cA,cB] [1]=[true,true]:=by kernel_rfl
theorem aXS:aDO (kD 2) [cA] [false]=true:=by kernel_rfl
theorem aHZ:(kD 2).wf:=by
 refine⟨by decide,by decide,by decide,?_,?_,?_⟩
 .intro x hx;have:x=⟨1,true,[],⟨#[]⟩⟩:=by simpa[kD]using hx
  subst this;exact⟨by unfold I64;decide,by simp,by simp⟩
 .intro d hd;simp[kD]at hd
 intro m hm;have:m=0:=by simpa[kD]using hm
 subst this;unfold I64;decide
section
variable {k:Nat} {r:List Value}
theorem dZ {w:World} {b n:Nat} {arr:Array Value} {t:TypeId} {rows:List (List Value)} (hb:Blk w b arr t) (hn:rows.length=n) (hm:n<=maxLen) (hr:RowsIn arr k rows):RowAt w k (.slice b n n) rows:=by subst hn;exact⟨_,_,rfl,hm,λ_=>⟨b,0,rfl,hb.lt.lt,λq cs hq t u hu=>by rw[hb.cell,zM];exact hr q cs hq t u hu⟩⟩
theorem jV (hk:r.length=k):RowsIn r.toArray k [r]:=by
 intro q cs hq t u hu;rcases q with _|q
 .cases hq;rw[Nat.zero_mul,zM];simpa using hu
 simp at hq
theorem aKH {s:List Value} (hr:r.length=k) (hs:s.length=k):RowsIn (r++s).toArray k [r,s]:=by
 intro q cs hq t u hu;rcases q with _|_|q
 .cases hq;rw[Nat.zero_mul,zM];obtain⟨h,_⟩:=gI.1 hu;rw[yD,zZ h];exact hu
 .cases hq;rw[yD,Nat.one_mul,yC (by omega),hr,Nat.add_sub_cancel_left];exact hu
 simp at hq
theorem aUJ (w:World):vR w 20 #[] (.bool true):=by
 have a8:=bAQ 2 (by omega) (by omega) w;unfold vR;go_in;go_upto_region 3 with(go_at_call 51;refine a8.mono ?_;rintro e w1 ⟨iv,ov,mv,rfl,hb1,hs1⟩;obtain⟨a1,n1,x1,a2,n2,x2,a3,n3,x3,rfl,rfl,rfl⟩:=hs1.slices)
 refine aD (F:=λwA=>Bl w wA/\Blk wA w1.heap.size #[.slice a1 n1 x1,.slice a2 n2 x2,.slice a3 n3 x3] 26/\Blk wA (w1.heap.size+1) #[.int .i64 0,.int .i64 0,.int .i64 0,.int .i64 0,.int .i64 0,.string ⟨#[47,97]⟩,.string ⟨#[]⟩,.string ⟨#[]⟩] 28/\StRead wA (.slice a1 n1 x1) (.slice a2 n2 x2) (.slice a3 n3 x3) (kD 2)) ⟨hb1.trans ((bel w1 _).mono hb1.size),(Blk.new _ _ _).alloc _,Blk.new_i _ _ _ _,hs1.below (bel w1 _) (zC _)⟩ ?_;generalize w1.heap.size=b1;clear hb1 hs1 a8;rintro wA ⟨hbA,hkA,hcA,hsA⟩;have k0:wA.cell? b1=some (.slice a1 n1 x1):=hkA.cell 0;have k1:wA.cell? ⟨b1,1,none⟩=some (.slice a2 n2 x2):=hkA.cell 1;have k2:wA.cell? ⟨b1,2,none⟩=some (.slice a3 n3 x3):=hkA.cell 2;have ik:=hkA.lt;have ic:=hcA.lt;have c0:wA.cell? ⟨b1+1,0,none⟩=some (.int .i64 0):=hcA.cell 0;have c1:wA.cell? ⟨b1+1,1,none⟩=some (.int .i64 0):=hcA.cell 1;have c2:wA.cell? ⟨b1+1,2,none⟩=some (.int .i64 0):=hcA.cell 2;have c3:wA.cell? ⟨b1+1,3,none⟩=some (.int .i64 0):=hcA.cell 3;have c4:wA.cell? ⟨b1+1,4,none⟩=some (.int .i64 0):=hcA.cell 4;have c5:wA.cell? ⟨b1+1,5,none⟩=some (.string ⟨#[47,97]⟩):=hcA.cell 5;have c6:wA.cell? ⟨b1+1,6,none⟩=some (.string ⟨#[]⟩):=hcA.cell 6;have c7:wA.cell? ⟨b1+1,7,none⟩=some (.string ⟨#[]⟩):=hcA.cell 7;have a9:Calls prog 12 #[.agg #[.slice a1 n1 x1,.slice a2 n2 x2,.slice a3 n3 x3],.agg #[.int .i64 0,.int .i64 0,.int .i64 0,.int .i64 0,.int .i64 0,.string ⟨#[47,97]⟩,.string ⟨#[]⟩,.string ⟨#[]⟩]] wA λe w'=>Bl wA w'/\∃kv,e=.returned kv/\OwnP wA.heap.size w' 61 2 kv (ksA.map PKey.cells):=by have:=aRW _ _ _ (kD 2) cA wA hsA aHZ (by decide);unfold jL at this;rw[aVA,zB rfl,aFE]at this;exact this
 have HA:=lE hbA hkA hcA hsA;clear hbA hkA hcA hsA;go_upto_region 4 with(go_at_call 12;refine a9.mono ?_;rintro e w2 ⟨hb2,kv,rfl,hk2⟩)
 rcases hk2 with⟨-,h2⟩|⟨gk,cap,arr,rfl,hgk,hkb,hkn,hkm,hks,hkr⟩
 .exfalso;have:=congrArg List.length h2;rw[lM,aDP]at this;cases this
 rw[lM,aDP];have b0:Bl w w2:=HA.out.1.trans (hb2.mono HA.out.1.size);have a5:Blk w2 b1 #[.slice a1 n1 x1,.slice a2 n2 x2,.slice a3 n3 x3] 26/\Blk w2 (b1+1) #[.int .i64 0,.int .i64 0,.int .i64 0,.int .i64 0,.int .i64 0,.string ⟨#[47,97]⟩,.string ⟨#[]⟩,.string ⟨#[]⟩] 28:=⟨HA.out.2.1.below hb2 ik.lt,HA.out.2.2.1.below hb2 ic.lt⟩;have c8:=HA.out.2.2.2.below hb2 (zC _);have a0:RowAt w2 2 (.slice gk 4 cap) (ksA.map PKey.cells):=by have:=OwnP.row (B:=0) (e:=61) (.inr ⟨gk,cap,arr,rfl,Nat.zero_le _,hkb,hkn,hkm,hks,hkr⟩);rw[lM,aDP]at this;exact this
 have b4:w2.cell? gk=some (.int .i64 (-1)):=(hkb.cell 0).trans (hkr 0 _ (by rw[gM,aWQ];rfl) 0 _ rfl);have b5:w2.cell? ⟨gk,1,none⟩=some (.string ⟨#[]⟩):=(hkb.cell 1).trans (hkr 0 _ (by rw[gM,aWQ];rfl) 1 _ rfl);have b6:w2.cell? ⟨gk,6,none⟩=some (.int .i64 2):=(hkb.cell 6).trans (hkr 3 _ (by rw[gM,aWR];rfl) 0 _ rfl);have b7:w2.cell? ⟨gk,7,none⟩=some (.string ⟨#[]⟩):=(hkb.cell 7).trans (hkr 3 _ (by rw[gM,aWR];rfl) 1 _ rfl);have a7:=hkb.lt;have H2:=jj8 b0 a5 c8 a0 b4 b5 b6 b7;clear k0 k1 k2 ik ic c0 c1 c2 c3 c4 c5 c6 c7 a9 hkb hkr hkn hkm hks hb2 HA b4 b5 b6 b7 b0 c8 a0;have c9:w2.cell? b1=some (.slice a1 n1 x1):=(a5.1).cell 0;have d0:w2.cell? ⟨b1,1,none⟩=some (.slice a2 n2 x2):=(a5.1).cell 1;have d1:w2.cell? ⟨b1,2,none⟩=some (.slice a3 n3 x3):=(a5.1).cell 2;have b8:=(a5.1).lt;have b9:=(a5.2).lt;have d2:w2.cell? ⟨b1+1,0,none⟩=some (.int .i64 0):=(a5.2).cell 0;have d3:w2.cell? ⟨b1+1,1,none⟩=some (.int .i64 0):=(a5.2).cell 1;have d4:w2.cell? ⟨b1+1,2,none⟩=some (.int .i64 0):=(a5.2).cell 2;have d5:w2.cell? ⟨b1+1,3,none⟩=some (.int .i64 0):=(a5.2).cell 3;have d6:w2.cell? ⟨b1+1,4,none⟩=some (.int .i64 0):=(a5.2).cell 4;have d7:w2.cell? ⟨b1+1,5,none⟩=some (.string ⟨#[47,97]⟩):=(a5.2).cell 5;have d8:w2.cell? ⟨b1+1,6,none⟩=some (.string ⟨#[]⟩):=(a5.2).cell 6;have d9:w2.cell? ⟨b1+1,7,none⟩=some (.string ⟨#[]⟩):=(a5.2).cell 7;clear a5;have b2:∀ww,Below ((w2.alloc (.cells #[.int .i64 0,.int .i64 0,.int .i64 0,.int .i64 0,.int .i64 0,.string ⟨#[47,97]⟩,.string ⟨#[]⟩,.string ⟨#[]⟩,.int .i64 2,.int .i64 1,.int .i64 0,.int .i64 0,.int .i64 0,.string ⟨#[47,97]⟩,.string ⟨#[]⟩,.string ⟨#[]⟩] 28)).alloc (.cells #[.int .i64 1] 3)).heap.size ((w2.alloc (.cells #[.int .i64 0,.int .i64 0,.int .i64 0,.int .i64 0,.int .i64 0,.string ⟨#[47,97]⟩,.string ⟨#[]⟩,.string ⟨#[]⟩,.int .i64 2,.int .i64 1,.int .i64 0,.int .i64 0,.int .i64 0,.string ⟨#[47,97]⟩,.string ⟨#[]⟩,.string ⟨#[]⟩] 28)).alloc (.cells #[.int .i64 1] 3)) ww->Calls prog 23 #[.agg #[.slice a1 n1 x1,.slice a2 n2 x2,.slice a3 n3 x3],.slice w2.heap.size 2 2,.slice (some ⟨w2.heap.size+1,0,none⟩) 1 1] ww λe w'=>Bl ww w'/\∃g,e=.returned (.slice (some ⟨g,0,none⟩) 2 2)/\ww.heap.size<=g/\Blk w' g (eO [true,true]) 4:=λww hb=>by have e2:=(bel w2 ((w2.alloc (.cells #[.int .i64 0,.int .i64 0,.int .i64 0,.int .i64 0,.int .i64 0,.string ⟨#[47,97]⟩,.string ⟨#[]⟩,.string ⟨#[]⟩,.int .i64 2,.int .i64 1,.int .i64 0,.int .i64 0,.int .i64 0,.string ⟨#[47,97]⟩,.string ⟨#[]⟩,.string ⟨#[]⟩] 28)).alloc (.cells #[.int .i64 1] 3))).trans (hb.mono (bel w2 _).size);have h1:RowAt ww 8 (.slice w2.heap.size 2 2) ([cA,cB].map PCall.cells):=dZ (t:=28) ((((Blk.new w2 #[.int .i64 0,.int .i64 0,.int .i64 0,.int .i64 0,.int .i64 0,.string ⟨#[47,97]⟩,.string ⟨#[]⟩,.string ⟨#[]⟩,.int .i64 2,.int .i64 1,.int .i64 0,.int .i64 0,.int .i64 0,.string ⟨#[47,97]⟩,.string ⟨#[]⟩,.string ⟨#[]⟩] 28).alloc _).below hb (by simp;omega))) rfl (by decide) (aKH (r:=cA.cells) (s:=cB.cells) rfl rfl);have h2:RowAt ww 1 (.slice (some ⟨w2.heap.size+1,0,none⟩) 1 1) (([1]:List Int).map aL):=dZ (t:=3) ((Blk.new_i (w2.alloc (.cells #[.int .i64 0,.int .i64 0,.int .i64 0,.int .i64 0,.int .i64 0,.string ⟨#[47,97]⟩,.string ⟨#[]⟩,.string ⟨#[]⟩,.int .i64 2,.int .i64 1,.int .i64 0,.int .i64 0,.int .i64 0,.string ⟨#[47,97]⟩,.string ⟨#[]⟩,.string ⟨#[]⟩] 28)) #[.int .i64 1] 3 _).below hb (by simp)) rfl (by decide) (jV rfl);have:=aMK _ _ _ (kD 2) [cA,cB] [1] _ _ ww (H2.out.2.2.1.below e2 (zC _)) aHZ h1 (by decide) (by decide) h2 (by decide) (by decide);rw[aFF,aXR]at this;exact this
 go_upto_region 5 with(go_at_call 23;refine(b2 _ (bel _ _)).mono ?_;rintro e w5 ⟨hb5,g5,rfl,hg5,hi5⟩)
 have a4:Bl w2 w5:=(bel w2 ((w2.alloc (.cells #[.int .i64 0,.int .i64 0,.int .i64 0,.int .i64 0,.int .i64 0,.string ⟨#[47,97]⟩,.string ⟨#[]⟩,.string ⟨#[]⟩,.int .i64 2,.int .i64 1,.int .i64 0,.int .i64 0,.int .i64 0,.string ⟨#[47,97]⟩,.string ⟨#[]⟩,.string ⟨#[]⟩] 28)).alloc (.cells #[.int .i64 1] 3))).trans (hb5.mono (bel w2 ((w2.alloc (.cells #[.int .i64 0,.int .i64 0,.int .i64 0,.int .i64 0,.int .i64 0,.string ⟨#[47,97]⟩,.string ⟨#[]⟩,.string ⟨#[]⟩,.int .i64 2,.int .i64 1,.int .i64 0,.int .i64 0,.int .i64 0,.string ⟨#[47,97]⟩,.string ⟨#[]⟩,.string ⟨#[]⟩] 28)).alloc (.cells #[.int .i64 1] 3))).size);have b3:Bl w w5:=H2.out.1.trans (a4.mono H2.out.1.size);have a6:Blk w5 b1 #[.slice a1 n1 x1,.slice a2 n2 x2,.slice a3 n3 x3] 26/\Blk w5 (b1+1) #[.int .i64 0,.int .i64 0,.int .i64 0,.int .i64 0,.int .i64 0,.string ⟨#[47,97]⟩,.string ⟨#[]⟩,.string ⟨#[]⟩] 28:=⟨H2.out.2.1.1.below a4 b8.lt,H2.out.2.1.2.below a4 b9.lt⟩;have e0:=H2.out.2.2.1.below a4 (zC _);have a0:=H2.out.2.2.2.1.below a4 (zC _);have b4:w5.cell? gk=some (.int .i64 (-1)):=(a4.cell (p:=gk) a7.lt).trans H2.out.2.2.2.2.1;have b5:w5.cell? ⟨gk,1,none⟩=some (.string ⟨#[]⟩):=(a4.cell (p:=⟨gk,1,none⟩) a7.lt).trans H2.out.2.2.2.2.2.1;have b6:w5.cell? ⟨gk,6,none⟩=some (.int .i64 2):=(a4.cell (p:=⟨gk,6,none⟩) a7.lt).trans H2.out.2.2.2.2.2.2.1;have b7:w5.cell? ⟨gk,7,none⟩=some (.string ⟨#[]⟩):=(a4.cell (p:=⟨gk,7,none⟩) a7.lt).trans H2.out.2.2.2.2.2.2.2;have e3:BlockLt gk w5:=⟨by have:=a7.lt;have:=a4.size;omega⟩;have e8:=hi5.lt;clear c9 d0 d1 b8 b9 d2 d3 d4 d5 d6 d7 d8 d9 b2 a7 hb5 H2 a4;have e1:RowAt w5 1 (.slice g5 2 2) (([true,true]:List Bool).map bS):=dZ (t:=4) hi5 rfl (by decide) (aKH (r:=bS true) (s:=bS true) rfl rfl);have e4:vB w5 17 #[.slice gk 4 cap,.slice gk 4 cap] (.bool true):=λww hb=>by have:=qD ksA ksA _ _ ww (a0.below hb (zC _)) (a0.below hb (zC _));rw[aXP]at this;exact this
 have e5:∀b ww,Bl w5 ww->Blk ww b #[.int .i64 1,.string ⟨#[46]⟩] 61->vR ww 17 #[.slice gk 4 cap,.slice (some ⟨b,0,none⟩) 1 1] (.bool false):=λb ww hb hbk=>by have:=qD ksA [⟨1,⟨#[46]⟩⟩] _ _ ww (a0.below hb (zC _)) (dZ (t:=61) hbk rfl (by decide) (jV (r:=PKey.cells ⟨1,⟨#[46]⟩⟩) rfl));rw[aXQ]at this;exact this
 have e6:∀b ww,Bl w5 ww->Blk ww b #[true,true] 4->vR ww 25 #[.slice g5 2 2,.slice (some ⟨b,0,none⟩) 2 2] (.bool true):=λb ww hb hbk=>aFQ [true,true] [true,true] _ _ ww (e1.below hb (zC _)) (dZ (t:=4) hbk rfl (by decide) (aKH (r:=bS true) (s:=bS true) rfl rfl));have e7:∀b b' ww,Bl w5 ww->Blk ww b #[.int .i64 0,.int .i64 0,.int .i64 0,.int .i64 0,.int .i64 0,.string ⟨#[47,97]⟩,.string ⟨#[]⟩,.string ⟨#[]⟩] 28->Blk ww b' #[false] 4->vR ww 26 #[.agg #[.slice a1 n1 x1,.slice a2 n2 x2,.slice a3 n3 x3],.slice (some ⟨b,0,none⟩) 1 1,.slice (some ⟨b',0,none⟩) 1 1] (.bool true):=λb b' ww hb hbk hbk'=>by have:=aQA _ _ _ (kD 2) [cA] [false] _ _ ww (e0.below hb (zC _)) aHZ (dZ (t:=28) hbk rfl (by decide) (jV (r:=PCall.cells cA) rfl)) (by decide) (by decide) (dZ (t:=4) hbk' rfl (by decide) (jV (r:=bS false) rfl)) (by decide);rw[aHY,aXS]at this;exact this
 have c9:w5.cell? b1=some (.slice a1 n1 x1):=(a6.1).cell 0;have d0:w5.cell? ⟨b1,1,none⟩=some (.slice a2 n2 x2):=(a6.1).cell 1;have d1:w5.cell? ⟨b1,2,none⟩=some (.slice a3 n3 x3):=(a6.1).cell 2;have b8:=(a6.1).lt;have b9:=(a6.2).lt;have d2:w5.cell? ⟨b1+1,0,none⟩=some (.int .i64 0):=(a6.2).cell 0;have d3:w5.cell? ⟨b1+1,1,none⟩=some (.int .i64 0):=(a6.2).cell 1;have d4:w5.cell? ⟨b1+1,2,none⟩=some (.int .i64 0):=(a6.2).cell 2;have d5:w5.cell? ⟨b1+1,3,none⟩=some (.int .i64 0):=(a6.2).cell 3;have d6:w5.cell? ⟨b1+1,4,none⟩=some (.int .i64 0):=(a6.2).cell 4;have d7:w5.cell? ⟨b1+1,5,none⟩=some (.string ⟨#[47,97]⟩):=(a6.2).cell 5;have d8:w5.cell? ⟨b1+1,6,none⟩=some (.string ⟨#[]⟩):=(a6.2).cell 6;have d9:w5.cell? ⟨b1+1,7,none⟩=some (.string ⟨#[]⟩):=(a6.2).cell 7;have u0:=aKJ;have u1:∀w,(binOp .eql 61 (.agg #[.int .i64 (-1),.string ⟨#[]⟩]) (.agg #[.int .i64 (-1),.string ⟨#[]⟩])).run prog w=.ok (.bool true) w:=λw=>by have:=aAY ⟨-1,⟨#[]⟩⟩ ⟨-1,⟨#[]⟩⟩ w;rw[decide_eq_true rfl]at this;exact this
 have u2:∀w,(binOp .eql 61 (.agg #[.int .i64 2,.string ⟨#[]⟩]) (.agg #[.int .i64 2,.string ⟨#[]⟩])).run prog w=.ok (.bool true) w:=λw=>by have:=aAY ⟨2,⟨#[]⟩⟩ ⟨2,⟨#[]⟩⟩ w;rw[decide_eq_true rfl]at this;exact this
 have HB:=aC b3;clear b3 a6 e0 a0 e1 hi5 hg5;go_wp2_with(first|(go_at_call 17;with_reducible refine aE (e4 _ (bel _ _)) λp=>?_)|(go_at_call 17;with_reducible refine aE (e5 _ _ (bel _ _) (by exact Blk.new_i _ _ _ _)) λp=>?_)|(go_at_call 25;refine aE (e6 _ _ (bel _ _) (by exact Blk.new_i _ _ _ _)) λp=>?_)|(go_at_call 26;refine aE (e7 _ _ _ (bel _ _) (by repeat(first|exact Blk.new_i _ _ _ _|refine Blk.alloc ?_ _)) (by repeat(first|exact Blk.new_i _ _ _ _|refine Blk.alloc ?_ _))) λp=>?_)|(go_at_call 35;refine aE (bAT _ _) λp=>?_));go_ret;exact⟨rfl,HB.out.trans ((bel w5 _).mono HB.out.size)⟩
end
end Go.Proofs.YtmkapobnfigedaaGreatDoor
