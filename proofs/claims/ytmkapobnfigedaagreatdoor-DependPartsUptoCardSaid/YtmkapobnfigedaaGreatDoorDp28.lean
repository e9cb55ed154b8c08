/- A part of a proof of a law. Conditions: none. -/
import Derived.Test.YtmkapobnfigedaaGreatDoorDp25
set_option linter.unusedVariables false
set_option linter.unusedSimpArgs false
set_option maxRecDepth 100000
set_option maxHeartbeats 40000000
namespace Go.Proofs.YtmkapobnfigedaaGreatDoor
open Go.Proofs.Tryz List Go.RowKit
section
def jM:PSt->List PCall->List (List PKey)
 |_,[]=>[]
 |S,c::r=>jK S c::jM (kX S c).1 r
def stM:PSt->List PCall->PSt
 |S,[]=>S
 |S,c::r=>stM (kX S c).1 r
theorem nK:∀(cs:List PCall) (S:PSt),(jM S cs).length=cs.length
 |[],_=>rfl
 |c::r,S=>by unfold jM;rw[zK,nK r,zK]
theorem aKU:∀(cs:List PCall) (S:PSt),S.wf->(stM S cs).wf
 |[],_,h=>h
 |c::r,S,h=>aKU r _ (aEE h)
theorem aAF:∀(cs:List PCall) (S:PSt) (c:PCall),stM S (cs++[c])=(kX (stM S cs) c).1
 |[],_,_=>rfl
 |d::r,S,c=>aAF r _ c
theorem uD:∀(cs:List PCall) (S:PSt) (c:PCall),jM S (cs++[c])=jM S cs++[jK (stM S cs) c]
 |[],_,_=>rfl
 | d::r,S,c=>by show jK S d::jM _ (r++[c])=_;rw[uD r];rfl
def StHere (w wr:World) (iv ov mv:Value) (S:PSt):Prop:=(StRead w iv ov mv S/\Bl w wr)\/StOwn w.heap.size wr iv ov mv S
variable {B:Nat} {S:PSt} {iv mv ov vo:Value} {kvs:List Value} {w w' wr:World}
theorem StHere.read (h:StHere w wr iv ov mv S):StRead wr iv ov mv S:=by
 rcases h with⟨h,hb⟩|h
 .exact h.below hb (zC _)
 exact h.read
theorem StHere.keep {X:Nat->Prop} (h:StHere w wr iv ov mv S) (hk:Keep X wr w') (hw:w.heap.size<=wr.heap.size) (h1:∀g,X g->w.heap.size<=g) (hX:∀g,X g->∃c t,Blk wr g c t/\t≠95/\t≠3/\t≠68/\t≠97):StHere w w' iv ov mv S:=by
 rcases h with⟨h,hb⟩|h
 .exact .inl ⟨h,hb.trans (hk.below hw (λi hi hg=>by have:=h1 i hg;omega))⟩
 exact .inr (StOwn.keep h hk hX)
structure KRows (B:Nat) (w:World) (vo:Value) (kss:List (List PKey)) (kvs:List Value):Prop where
 out:OwnP B w 29 1 vo (kvs.map λkv=>[kv])
 len:kvs.length=kss.length
 keys:∀(i:Nat) (kv:Value) (ks:List PKey),kvs[i]? =some kv->kss[i]? =some ks->OwnP B w 61 2 kv (ks.map PKey.cells)
theorem KRows.keep {kss:List (List PKey)} {X:Nat->Prop} (h:KRows B w vo kss kvs) (hk:Keep X w w') (hX:∀g,X g->∃c t,Blk w g c t/\t≠29/\t≠61):KRows B w' vo kss kvs:=by
 obtain⟨h1,h2,h3⟩:=h;refine⟨OwnP.keep h1 hk (λg hg hx=>?_),h2,λi kv ks hi hj=>OwnP.keep (h3 i kv ks hi hj) hk (λg hg hx=>?_)⟩
 .obtain⟨c,t,hb,n1,n2⟩:=hX g hx;exact h1.ne_blk hb n1.symm hg rfl
 obtain⟨c,t,hb,n1,n2⟩:=hX g hx;exact(h3 i kv ks hi hj).ne_blk hb n2.symm hg rfl
theorem OwnP.blk {e:TypeId} {k:Nat} {v:Value} {rows:List (List Value)} (h:OwnP B w e k v rows) {g:Nat} (hg:v.ownBlock=some g):∃c,Blk w g c e:=by
 rcases h with⟨rfl,_⟩|⟨g',cap,cur,rfl,_,hb,_⟩
 .simp[Value.ownBlock]at hg
 simp[Value.ownBlock]at hg;subst hg;exact⟨_,hb⟩
theorem KRows.more {w1 w2:World} {v' kv:Value} {kss:List (List PKey)} {ks:List PKey} (h:KRows B w vo kss kvs) (hn:OwnP B w 61 2 kv (ks.map PKey.cells)) (hb:Bl w w1) (hG:Grew B 29 1 w1 vo ((kvs++[kv]).map λkv=>[kv]) v' w2):KRows B w2 v' (kss++[ks]) (kvs++[kv]):=by
 obtain⟨g1,g2,-⟩:=hG;obtain⟨h1,h2,h3⟩:=h;have key:∀(kv:Value) (ks:List PKey),OwnP B w 61 2 kv (ks.map PKey.cells)->OwnP B w2 61 2 kv (ks.map PKey.cells):=λkv ks ho=>by refine OwnP.keep (OwnP.keep ho (Keep.of_below hb (λ_=>False)) (λ_ _ h=>h)) g2 (λg hg hx=>?_);obtain⟨c,hc⟩:=h1.blk hx;exact ho.ne_blk hc (by decide) hg rfl
 refine⟨g1,by rw[lP,lP,h2];rfl,λi kv' ks' hi hj=>?_⟩;by_cases hl:i<kvs.length
 .rw[zZ hl]at hi;rw[zZ (by omega)]at hj;exact key kv' ks' (h3 i kv' ks' hi hj)
 rw[yC (by omega)]at hi;rw[yC (by omega)]at hj;rcases hz:i-kvs.length with _|z
 .rw[hz]at hi;rw[<-h2,hz]at hj;cases hi;cases hj;exact key _ _ hn
 rw[hz]at hi;simp at hi
theorem aUN:(prog.info? 29).map (λi=>(i.zero,i.size,i.bytes))=some (some (.slice none 0 0),1,24):=by kernel_rfl
theorem bBG {ops:Array Oper} {rest:List Oper} {o:Oper} {a:Act} {Q:Exit->Act->World->Prop} (hgd:o.guard=none) (s y:Operand)
 (hop:o.op=.call { callee:=.builtin .append,args:=#[s,y],argTypes:=#[85,85]}) (B:Nat) (v x kv:Value) (kvs:List Value) (hs:a.eval s=v) (hy:a.eval y=x) (ho:OwnP B w 29 1 v (kvs.map λkv=>[kv])) (hx:RowAt w 1 x [[kv]]) (h1:kv.oneCell'=true) (hl:kvs.length<=1000000000000) (hB:B<=w.heap.size)
 (h:∀v' w',Grew B 29 1 w v ((kvs++[kv]).map λkv=>[kv]) v' w'->wpList prog ops Q rest (a.put o.dst v') w'):
 wpList prog ops Q (o::rest) a w:=by
 obtain⟨i,hi,hz,h2,h3⟩:=info_parts aUN;refine jR w hgd s y 85 hop B 29 1 24 i _ underlying85 hi hz h2 h3 rfl (by decide) v x (kvs.map λkv=>[kv]) [[kv]] hs hy (by
  intro cs hc;obtain⟨r,_,rfl⟩:=mem_map.1 hc;rfl) (by intro cs hc;simp only[yZ]at hc;subst hc;rfl) (by intro cs hc u hu;simp only[yZ]at hc;subst hc;simp only[yZ]at hu;subst hu;exact h1) ho hx ?_ ?_ hB ?_
 .rw[lM,length_singleton];unfold maxLen;omega
 .rw[lM,length_singleton];omega
 intro v' w' hg;exact h v' w' (by rw[yS];exact hg)
theorem aXS (iv ov mv:Value) (S:PSt) (cs:List PCall) (vc:Value) (w:World) (h:StRead w iv ov mv S) (hwf:S.wf) (hc:RowAt w 8 vc (cs.map PCall.cells)) (hcd:∀c∈cs,c.data.size<=1000000000000000000) (hcl:cs.length<=1000000000):
 Calls prog 54 #[.agg #[iv,ov,mv],vc] w λe w'=>Bl w w'/\∃vo kvs,e=.returned vo/\KRows w.heap.size w' vo (jM S cs) kvs:=by
 have o1:=h.1.one;have o2:=h.2.1.one;have o3:iv.oneCell'=true:=by obtain⟨_,_,_,h3,_⟩:=h;exact h3.one
 obtain⟨ac,cc,rfl,hatc⟩:=hc.at_;rw[lM];have HS:=bJ h hatc;clear h hatc hc;go_in;go_upto_region 2 with fail;refine aD (F:=λwA=>Bl w wA/\(∃iv ov mv,Blk wA w.heap.size #[iv,ov,mv] 26/\StHere w wA iv ov mv S)/\KRows w.heap.size wA (.slice none 0 0) [] []) ⟨bel w _,⟨iv,ov,mv,Blk.new _ _ _,.inl ⟨HS.out.1,bel w _⟩⟩,⟨.inl ⟨rfl,rfl⟩,rfl,λi kv ks h=>by simp at h⟩⟩ ?_;intro wA HA0;have HA:=aC HA0;clear HA0;go_wp2
 go_loopw[5,11] (λvo vi wr=>∃(q:Nat) (kvs:List Value) (vx:Value),vi=.int .i64 q/\vx=vo/\q<=cs.length/\Bl w wr/\(∃iv ov mv,Blk wr w.heap.size #[iv,ov,mv] 26/\StHere w wr iv ov mv (stM S (cs.take q)))/\KRows w.heap.size wr vx (jM S (cs.take q)) kvs) (λ_ vi _=>(cs.length-intOf vi).toNat)
 case atStart=>exact⟨0,[],_,rfl,rfl,by omega,HA.out.1,HA.out.2.1,HA.out.2.2⟩
 obtain⟨q,kvs,vx,rfl,rfl,hq,hbr,⟨iv2,ov2,mv2,hbk,hst⟩,hkr⟩:=hrel;by_cases hlt:q<cs.length
 .obtain⟨c,hc⟩:=gAA hlt
  obtain⟨bc,offc,rfl,iC0,iC,hcc⟩:=HS.out.2 wr hbr q c.cells (by rw[gM,hc];rfl);have c0:=hcc 0 _ rfl;have c1:=hcc 1 _ rfl;have c2:=hcc 2 _ rfl;have c3:=hcc 3 _ rfl;have c4:=hcc 4 _ rfl;have c5:=hcc 5 _ rfl;have c6:=hcc 6 _ rfl;have c7:=hcc 7 _ rfl;rw[zN]at c0;have a2:=aKU (cs.take q) S hwf;have a0:=fun(ww:World) (hb:Bl wr ww)=>aSQ iv2 ov2 mv2 (stM S (cs.take q)) c ww (hst.read.below hb (zC _)) a2 (aEE a2) (hcd c (mG hc));have a9:cs.take (q+1)=cs.take q++[c]:=by rw[take_succ_eq_append_getElem hlt];congr 2;rw[gE hlt]at hc;exact Option.some.inj hc
  have b4:(kX (stM S (cs.take q)) c).1=stM S (cs.take (q+1)):=by rw[a9,aAF]
  have b5:jM S (cs.take (q+1))=jM S (cs.take q)++[jK (stM S (cs.take q)) c]:=by rw[a9,uD]
  rw[b4]at a0;have d4:=hst.read.1.one;have d5:=hst.read.2.1.one;have d6:iv2.oneCell'=true:=by obtain⟨_,_,_,h3,_⟩:=hst.read;exact h3.one
  have ib:=hbk.lt;have k0:wr.cell? w.heap.size=some iv2:=hbk.cell 0;have k1:wr.cell? ⟨w.heap.size,1,none⟩=some ov2:=hbk.cell 1;have k2:wr.cell? ⟨w.heap.size,2,none⟩=some mv2:=hbk.cell 2;have c8:∀w1,Below (wr.alloc (.cells #[c.kind,c.core,c.fd,c.off,c.num,c.path,c.path2,c.data] 28)).heap.size (wr.alloc (.cells #[c.kind,c.core,c.fd,c.off,c.num,c.path,c.path2,c.data] 28)) w1->Blk w1 w.heap.size #[iv2,ov2,mv2] 26:=λw1 hb=>(hbk.alloc _).below hb (by have:=ib.lt;simp;omega);have c9:∀w1,Below (wr.alloc (.cells #[c.kind,c.core,c.fd,c.off,c.num,c.path,c.path2,c.data] 28)).heap.size (wr.alloc (.cells #[c.kind,c.core,c.fd,c.off,c.num,c.path,c.path2,c.data] 28)) w1->Bl wr w1:=λw1 hb=>(bel wr _).trans (hb.mono (by simp));have d0:∀w1,Below (wr.alloc (.cells #[c.kind,c.core,c.fd,c.off,c.num,c.path,c.path2,c.data] 28)).heap.size (wr.alloc (.cells #[c.kind,c.core,c.fd,c.off,c.num,c.path,c.path2,c.data] 28)) w1->w.heap.size<=(wr.alloc (.cells #[c.kind,c.core,c.fd,c.off,c.num,c.path,c.path2,c.data] 28)).heap.size:=λw1 _=>by have:=ib.lt;simp;omega
  have HR:=mJ hbr hkr b5 hbk;clear hbr hst hkr b5 b4 a9 hcc hc hbk a2;unfold PCall.val at a0;go_upto_region 7 with(go_at_call 40;refine(a0 _ (bel _ _)).mono ?_;rintro e w1 ⟨hb1,kv,iv3,ov3,mv3,rfl,hok,hso⟩;have a4:=c9 w1 hb1;have a1:=c8 w1 hb1;have b6:=d0 w1 hb1;have x0:w1.cell? w.heap.size=some iv2:=a1.cell 0;have x1:w1.cell? ⟨w.heap.size,1,none⟩=some ov2:=a1.cell 1;have x2:w1.cell? ⟨w.heap.size,2,none⟩=some mv2:=a1.cell 2;have d1:=a1.frozen 0;have d2:=a1.frozen 1;have d3:=a1.frozen 2;have ix:=a1.lt;obtain⟨a11,a12,a13,a14,a15,a16,a17,a18,a19,rfl,rfl,rfl⟩:=hso.forms;clear hb1)
  have a3:=OwnP.mono hok b6;have a5:=StOwn.mono hso b6;clear hok hso;have b0:∀(u0 u1 u2:Value),Keep (λg=>g=w.heap.size) wr (((w1.setCell w.heap.size u0).setCell ⟨w.heap.size,1,none⟩ u1).setCell ⟨w.heap.size,2,none⟩ u2):=λu0 u1 u2=>(((Keep.of_below a4 (λg=>g=w.heap.size)).setCell (p:=w.heap.size) (.inl rfl) _).setCell (p:=⟨w.heap.size,1,none⟩) (.inl rfl) _).setCell (p:=⟨w.heap.size,2,none⟩) (.inl rfl) _;have b1:∀(u0 u1 u2:Value),Keep (λg=>g=w.heap.size) w1 (((w1.setCell w.heap.size u0).setCell ⟨w.heap.size,1,none⟩ u1).setCell ⟨w.heap.size,2,none⟩ u2):=λu0 u1 u2=>(((Keep.refl (λg=>g=w.heap.size) w1).setCell (p:=w.heap.size) (.inl rfl) _).setCell (p:=⟨w.heap.size,1,none⟩) (.inl rfl) _).setCell (p:=⟨w.heap.size,2,none⟩) (.inl rfl) _;refine aD (F:=λwB=>Bl w wB/\(∃iv ov mv,Blk wB w.heap.size #[iv,ov,mv] 26/\StHere w wB iv ov mv (stM S (cs.take (q+1))))/\KRows w.heap.size wB vx (jM S (cs.take q)) kvs/\OwnP w.heap.size wB 61 2 kv ((jK (stM S (cs.take q)) c).map PKey.cells)) ⟨?_,?_,?_,?_⟩ ?_
  .exact HR.out.1.trans ((b0 _ _ _).below HR.out.1.size (λi hi hg=>by omega))
  .exact⟨_,_,_,((a1.set_ 0 _).set_ 1 _).set_ 2 _,.inr (StOwn.keep a5 (b1 _ _ _) (λg hg=>by rw[hg];exact⟨_,26,a1,by decide,by decide,by decide,by decide⟩))⟩
  .exact HR.out.2.1.keep (b0 _ _ _) (λg hg=>by rw[hg];exact⟨_,26,HR.out.2.2.2,by decide,by decide⟩)
  .exact OwnP.keep a3 (b1 _ _ _) (λg hg hx=>by
    rw[hx]at hg;exact a3.ne_blk a1 (by decide) hg rfl)
  clear a3 a5 b0 b1 a1 a4 x0 x1 x2 d1 d2 d3 ix k0 k1 k2;rintro wB ⟨hbB,hstB,hkB,hokB⟩;have b7:=hbB.size;obtain⟨ak,nk,ck,rfl⟩:∃a n c,kv=.slice a n c:=by obtain⟨a,c,h,-⟩:=hokB.row;exact⟨a,_,c,h⟩
  have b2:=hokB.one;have HB:=mJ hbB hstB hkB hokB;have b8:=HB.out.2.2.1.len;rw[nK,zU]at b8;have C1:OwnP w.heap.size (wB.alloc (.cells #[.slice ak nk ck] 29)) 29 1 vx (kvs.map λkv=>[kv]):=OwnP.keep HB.out.2.2.1.out (Keep.of_below (bel wB _) (λ_=>False)) (λ_ _ h=>h);have C2:RowAt (wB.alloc (.cells #[.slice ak nk ck] 29)) 1 (.slice wB.heap.size 1 1) [[.slice ak nk ck]]:=OwnP.row (B:=0) (e:=29) (.inr ⟨wB.heap.size,1,#[.slice ak nk ck],rfl,Nat.zero_le _,Blk.new _ _ _,zC _,by decide,rfl,λq' cs' hq' t u hu=>by
   rcases q' with _|q'
   .simp only[zH,zF]at hq';subst hq';rcases t with _|t
    .exact hu
    simp at hu
   simp at hq'⟩)
  have C5:w.heap.size<=(wB.alloc (.cells #[.slice ak nk ck] 29)).heap.size:=by simp;omega
  have C4:kvs.length<=1000000000000:=by omega
  have CC:=mJ C1 C2 C5 C4;clear C1 C2 C5 C4 hbB hstB hkB hokB b8;go_wp2_with(at_builtin;refine bBG rfl _ _ rfl w.heap.size vx (.slice wB.heap.size 1 1) (.slice ak nk ck) kvs rfl rfl CC.out.1 CC.out.2.1 b2 CC.out.2.2.2 CC.out.2.2.1 ?_);intro v' w2 hG;rw[show (List.map (λkv=>[kv]) kvs++[[Value.slice ak nk ck]])=(kvs++[Value.slice ak nk ck]).map (λkv=>[kv]) by rw[yS];rfl]at hG;have b3:=HB.out.2.2.1.more HB.out.2.2.2 (bel wB (wB.alloc (.cells #[.slice ak nk ck] 29))) hG;rw[<-HR.out.2.2.1]at b3;have a8:Keep (λg=>vx.ownBlock=some g) wB w2:=(Keep.of_below (bel wB (wB.alloc (.cells #[.slice ak nk ck] 29))) _).trans hG.2.1 (λi hi hg=>hg);have a6:∀g,vx.ownBlock=some g->w.heap.size<=g/\∃c,Blk wB g c 29:=λg hg=>⟨HB.out.2.2.1.out.ge hg,HB.out.2.2.1.out.blk hg⟩;have b9:Bl w w2:=HB.out.1.trans (a8.below b7 (λi hi hg=>by have:=(a6 i hg).1;omega));have a7:∃iv ov mv,Blk w2 w.heap.size #[iv,ov,mv] 26/\StHere w w2 iv ov mv (stM S (cs.take (q+1))):=by
   obtain⟨iv,ov,mv,h1,h2⟩:=HB.out.2.1;exact⟨iv,ov,mv,a8.blk h1 (λhg=>by
    obtain⟨_,c,hc⟩:=a6 _ hg;exact hc.ne_ h1 (by decide) rfl),h2.keep a8 b7 (λg hg=>(a6 g hg).1) (λg hg=>by
    obtain⟨_,c,hc⟩:=a6 g hg;exact⟨c,29,hc,by decide,by decide,by decide,by decide⟩)⟩
  have HF:=eH b9 a7 b3;clear hG b3 a8 a6 b9 a7;go_wp2;go_roundw
  case rel=>exact⟨q+1,_,v',by go_num,rfl,by omega,HF.out.1,HF.out.2.1,HF.out.2.2⟩
  simp[intOf];omega
 have e:cs.take q=cs:=take_of_length_le (by omega);rw[e]at hkr;have HK:=bJ hbr hkr;clear hbr hst hbk hkr e;go_wp2;go_ret;exact⟨HK.out.1.trans ((bel wr _).mono HK.out.1.size),vx,kvs,rfl,HK.out.2.keep (Keep.of_below (bel wr _) (λ_=>False)) (λ_ h=>h.elim)⟩
end
theorem KRows.at_ {B:Nat} {w:World} {vo:Value} {kss:List (List PKey)} {kvs:List Value} (h:KRows B w vo kss kvs):∃a cap,vo=.slice a kss.length cap/\∀wr,Bl w wr->∀(q:Nat) (ks:List PKey),kss[q]? =some ks->∃b off kv,a=some ⟨b,off,none⟩/\BlockLt b wr/\wr.cell? ⟨b,off+q,none⟩=some kv/\RowAt wr 2 kv (ks.map PKey.cells):=by obtain⟨h1,h2,h3⟩:=h;obtain⟨a,cap,rfl,hat⟩:=h1.row.at_;rw[lM,h2];refine⟨a,cap,rfl,λwr hb q ks hq=>?_⟩;obtain⟨hql,_⟩:=gI.1 hq;obtain⟨kv,hkv⟩:∃kv,kvs[q]? =some kv:=⟨_,gE (by omega)⟩;obtain⟨b,off,e,_,i2,hc⟩:=hat wr hb q [kv] (by rw[gM,hkv];rfl);have:=hc 0 _ rfl;rw[Nat.mul_one,zN]at this;exact⟨b,off,kv,e,i2,this,(h3 q kv ks hkv hq).row.below hb (zC _)⟩
def bH (kss:List (List PKey)) (e l:Nat):Bool:=match kss[e]?,kss[l]? with
 |some x,some y=>eZ x y
 |_,_=>false
def jT (S:PSt) (cs:List PCall) (inn:List Bool):Bool:=decide (inn.length=cs.length)&&cO S&&aLO (bH (jM S cs)) inn
theorem oM (f:Nat->Bool) (n q:Nat) (h:q<n):((List.range n).drop q).all f=(f q&&((List.range n).drop (q+1)).all f):=by rw[yH (by simpa using h),all_cons];simp
theorem qP (f:Nat->Bool) (n q:Nat) (h:¬q<n):((List.range n).drop q).all f=true:=by rw[drop_eq_nil_of_le (by simp;omega)];rfl
def bAF (n:Nat):Prop:=∀(iv ov mv:Value) (S:PSt) (w:World),StRead w iv ov mv S->S.wf->Calls prog n #[.agg #[iv,ov,mv]] w λe w'=>e=.returned (.bool (cO S))/\Bl w w'
def aYB (n:Nat):Prop:=∀(iv ov mv:Value) (S:PSt) (cs:List PCall) (vc:Value) (w:World),StRead w iv ov mv S->S.wf->RowAt w 8 vc (cs.map PCall.cells)->(∀c∈cs,c.data.size<=1000000000000000000)->cs.length<=1000000000->Calls prog n #[.agg #[iv,ov,mv],vc] w λe w'=>Bl w w'/\∃vo kvs,e=.returned vo/\KRows w.heap.size w' vo (jM S cs) kvs
def bAG (n:Nat):Prop:=∀(ks bs:List PKey) (va vb:Value) (w:World),RowAt w 2 va (ks.map PKey.cells)->RowAt w 2 vb (bs.map PKey.cells)->Calls prog n #[va,vb] w λe w'=>e=.returned (.bool (eZ ks bs))/\Bl w w'
def aDY (n:Nat):Prop:=∀(iv ov mv:Value) (S:PSt) (cs:List PCall) (inn:List Bool) (vc vi:Value) (w:World) (h:StRead w iv ov mv S) (hwf:S.wf) (hc:RowAt w 8 vc (cs.map PCall.cells)) (hcd:∀c∈cs,c.data.size<=1000000000000000000) (hcl:cs.length<=1000000000) (hi:RowAt w 1 vi (inn.map aO)) (hil:inn.length<=1000000000),Calls prog n #[.agg #[iv,ov,mv],vc,vi] w λe w'=>e=.returned (.bool (jT S cs inn))/\Bl w w'
theorem aLK {n m r t:Nat} (hs:(n=26/\m=39/\r=54/\t=17)\/(n=27/\m=30/\r=55/\t=18)) (fM:bAF m) (fR:aYB r) (fT:bAG t):aDY n:=by
 intro iv ov mv S cs inn vc vi w h hwf hc hcd hcl hi hil;rcases hs with⟨rfl,rfl,rfl,rfl⟩|⟨rfl,rfl,rfl,rfl⟩
 all_goals
  have a2:=fun(ww:World) (hb:Bl w ww)=>fR iv ov mv S cs vc ww (h.below hb (zC _)) hwf (hc.below hb (zC _)) hcd hcl;have a0:=fun(ww:World) (hb:Bl w ww)=>fM iv ov mv S ww (h.below hb (zC _)) hwf;have o1:=h.1.one;have o2:=h.2.1.one;have o3:iv.oneCell'=true:=by obtain⟨_,_,_,h3,_⟩:=h;exact h3.one
  obtain⟨ac,cc,rfl,-⟩:=hc;obtain⟨ai,ci,rfl,hati⟩:=hi.at_;rw[lM]at a2 |-;rw[lM];obtain⟨R,hR⟩:=gAB (jT S cs inn);rw[hR];have HR:=aC hR;have HI:=aC hati;unfold jT at hR;clear h hi hati;by_cases hl:inn.length=cs.length
  .have b1 : ((inn.length:Int) !=cs.length)=false:=by simp;omega
   rw[decide_eq_true hl,xC]at hR;rcases hm:cO S with _|_
   .rw[hm,yJ]at hR;subst hR;rw[hm]at a0;clear hm a2
    go_in
    go_wp2_with((first|go_at_call 39|go_at_call 30);refine aE (a0 _ (bel _ _)) λp=>?_);go_ret;exact gAC
   rw [hm, xC]at hR;rw[hm]at a0;have HC:=aC hR;clear hm hR
   go_in
   go_upto_region 4 with(first|((first|go_at_call 39|go_at_call 30);refine aE (a0 _ (bel _ _)) λp=>?_)|((first|go_at_call 54|go_at_call 55);refine(a2 _ (bel _ _)).mono ?_;rintro e w3 ⟨hb3,vo,kvs,rfl,hk⟩;obtain⟨ao,co,rfl,hato⟩:=hk.at_))
   have b3:=nK cs S;generalize jM S cs=kss at *;have a7:Bl w w3:=(bel w _).trans (hb3.mono (bel w _).size);have HO:=aC hato;have HW:=aC a7;have a8:=a7.size;have b4:(kss.length:Int)=cs.length:=by omega
   clear hato hk hb3 a2 a0 hcd a7;go_wp2_with fail
   first
    |(go_loopw [25] (λvi wr=>∃q:Nat,vi=.int .i64 q/\q<=kss.length/\((List.range inn.length).drop q).all (λl=>(List.range l).all λe=>!(inn.getD l false&&!inn.getD e false&&bH kss e l))=R/\Bl w3 wr) (λvi _=>(kss.length-intOf vi).toNat);case atStart=>exact⟨0,rfl,by omega,by rw[<-HC.out];rfl,bel _ _⟩)
    |(go_loopw [8] (λvi wr=>∃q:Nat,vi=.int .i64 q/\q<=kss.length/\((List.range inn.length).drop q).all (λl=>(List.range l).all λe=>!(inn.getD l false&&!inn.getD e false&&bH kss e l))=R/\Bl w3 wr) (λvi _=>(kss.length-intOf vi).toNat);case atStart=>exact⟨0,rfl,by omega,by rw[<-HC.out];rfl,bel _ _⟩)
   obtain⟨q,rfl,hq,hre,hbr⟩:=hrel
   rename World=>wo
   have iB:Bel w3 wo:=⟨hbr⟩;by_cases hlt:q<kss.length
   .have gq:(q:Int)<cs.length:=by omega
    rw[oM _ _ _ (by omega)]at hre;obtain⟨y,hy⟩:∃y,inn[q]? =some y:=⟨_,gE (by omega)⟩;obtain⟨ky,hky⟩:∃ky,kss[q]? =some ky:=⟨_,gE (by omega)⟩;have a9:inn.getD q false=y:=by rw[zG,hy];rfl
    rw[a9]at hre;have a6:=aC hre;have HY:=bJ hy hky;clear hre hy hky a9;go_wp2_with fail
    first
     |(go_loopw [29] (λvi w2=>∃k:Nat,vi=.int .i64 k/\k<=q/\((List.range q).drop k).all (λe=>!(y&&!inn.getD e false&&bH kss e q))=(List.range q).all (λe=>!(y&&!inn.getD e false&&bH kss e q))/\Bl wo w2) (λvi _=>(q-intOf vi).toNat);case atStart=>exact⟨0,rfl,by omega,rfl,bel _ _⟩)
     |(go_loopw [9] (λvi w2=>∃k:Nat,vi=.int .i64 k/\k<=q/\((List.range q).drop k).all (λe=>!(y&&!inn.getD e false&&bH kss e q))=(List.range q).all (λe=>!(y&&!inn.getD e false&&bH kss e q))/\Bl wo w2) (λvi _=>(q-intOf vi).toNat);case atStart=>exact⟨0,rfl,by omega,rfl,bel _ _⟩)
    obtain⟨k,rfl,hk,hre2,hb2⟩:=hrel;have a3:Bl w3 wr:=hbr.trans (hb2.mono hbr.size);have b2:Bel w3 wr:=⟨a3⟩;have b5:Bel wo wr:=⟨hb2⟩;by_cases hlk:k<q
    .rw[oM _ _ _ hlk]at hre2;obtain⟨x,hx⟩:∃x,inn[k]? =some x:=⟨_,gE (by omega)⟩
     obtain⟨kx,hkx⟩:∃kx,kss[k]? =some kx:=⟨_,gE (by omega)⟩;have b0:inn.getD k false=x:=by rw[zG,hx];rfl
     rw[b0]at hre2;have hT:bH kss k q=eZ kx ky:=by unfold bH;rw[hkx,HY.out.2]
     rw[hT]at hre2;have a5:Bl w wr:=HW.out.trans (a3.mono a8);obtain⟨bi,oi,rfl,iI0,iI,hci⟩:=HI.out wr a5 q (aO y) (by rw[gM,HY.out.1];rfl);have i0:=hci 0 _ rfl;obtain⟨bi2,oi2,he2,-,-,hci2⟩:=HI.out wr a5 k (aO x) (by rw[gM,hx];rfl);have j0:=hci2 0 _ rfl;simp only[zF,yG,and_true]at he2;obtain⟨rfl,rfl⟩:=he2;rw[Nat.mul_one,zN]at i0 j0;obtain⟨bo,oo,kvy,rfl,iO,oy,hry⟩:=HO.out wr a3 q ky HY.out.2;obtain⟨bo2,oo2,kvx,heo,-,ox,hrx⟩:=HO.out wr a3 k kx hkx;simp only[zF,yG,and_true]at heo;obtain⟨rfl,rfl⟩:=heo;have a4:=fun(ww:World) (hb:Bl wr ww)=>fT kx ky kvx kvy ww (hrx.below hb (zC _)) (hry.below hb (zC _));have g1:(q:Int)<inn.length:=by omega
     have g2:(k:Int)<inn.length:=by omega
     have g3:(k:Int)<kss.length:=by omega
     obtain⟨ax,nx,cx,rfl⟩:∃a n c,kvx=.slice a n c:=by obtain⟨a,c,h,-⟩:=hrx;exact⟨a,_,c,h⟩
     obtain⟨ay,ny,cy,rfl⟩:∃a n c,kvy=.slice a n c:=by obtain⟨a,c,h,-⟩:=hry;exact⟨a,_,c,h⟩
     generalize eZ kx ky=t at *;have a1:=aC hre2;clear hre2 hx hkx b0 hT hci hci2 hrx hry;rcases y with _|_
     .go_wp2;refine qR ?_
      repeat(go_big_quiet_step (fail))
      refine QN λp=>?_;go_wp2;go_roundw
      case rel=>exact⟨k+1,by go_num,by omega,by have:=a1.out;simpa using this,bel _ _⟩
      simp[intOf];omega
     rcases x with _|_;rotate_left
     .go_wp2;refine qR ?_
      repeat(go_big_quiet_step (fail))
      refine QN λp=>?_;go_wp2;go_roundw
      case rel=>exact⟨k+1,by go_num,by omega,by have:=a1.out;simpa using this,bel _ _⟩
      simp[intOf];omega
     rcases t with _|_
     .go_wp2;refine qR ?_
      repeat(go_big_quiet_step ((first|refine cI (a4 _ (bel _ _))|refine cJ (a4 _ (bel _ _)))))
      refine QN λp=>?_;go_wp2;go_roundw
      case rel=>exact⟨k+1,by go_num,by omega,by have:=a1.out;simpa using this,bel _ _⟩
      simp[intOf];omega
     go_wp2;refine qR ?_
     repeat(go_big_quiet_step ((first|refine cI (a4 _ (bel _ _))|refine cJ (a4 _ (bel _ _)))))
     refine QN λp=>?_;go_wp2;go_ret;exact⟨gJ (by have h2:=a6.out;rw[<-a1.out]at h2;rw[<-h2];rfl),HW.out.trans ((bel w3 _).mono a8)⟩
    rw[qP _ _ _ hlk]at hre2;have a1:=aC hre2;clear hre2;go_wp2;go_roundw
    case rel=>exact⟨q+1,by go_num,by omega,by have:=a6.out;rw[<-a1.out]at this;simpa using this,b2.below⟩
    simp[intOf];omega
   have gq:¬(q:Int)<cs.length:=by omega
   rw[qP _ _ _ (by omega)]at hre;have a6:=aC hre;clear hre;go_wp2;go_ret;exact⟨gJ a6.out,HW.out.trans ((bel w3 _).mono a8)⟩
  have b1:((inn.length:Int) !=cs.length)=true:=by simp;omega
  rw[yM hl,yJ,yJ]at hR;subst hR;clear a2 a0
  go_in
  go_wp2;go_ret;exact gAC
theorem aFM:aDY 26:=aLK (.inl ⟨rfl,rfl,rfl,rfl⟩) aGZ aXS vW
end Go.Proofs.YtmkapobnfigedaaGreatDoor
namespace Go
theorem mO {P:Program} {ops:Array Oper} {S:World->Prop} {E:List Nat} {lx:Bool} {Q:Act->World->Prop} {o:Oper} {a:Act} {w:World} {k:Nat} {l:List Oper} (hw:Region.wanted o (yielded ops a.tmps)=false)
 (h:wpL P ops S E lx Q (k+1) l (a.put o.dst undef) w):wpL P ops S E lx Q k (o::l) a w:=by
 simp only[wpL];rw[zA (by rintro⟨_,h⟩;rw[hw]at h;cases h)];exact⟨undef,.inr ⟨hw,rfl⟩,h⟩
end Go
namespace Go.Proofs.YtmkapobnfigedaaGreatDoor
open Go.Proofs.Tryz List Go.RowKit
def dV (inn:List Bool):Array Value:=(inn.map Value.bool).toArray
theorem jA {inn:List Bool} {k:Nat} {x:Bool} (h:inn[k]? =some x):(dV inn)[k]? =some (.bool x):=by unfold dV;simp[h]
theorem uM (inn:List Bool) (k:Nat) (x:Bool):(dV inn).setIfInBounds k (.bool x)=dV (inn.set k x):=by unfold dV;simp[List.map_set]
theorem KRows.mono {B B':Nat} {w:World} {vo:Value} {kss:List (List PKey)} {kvs:List Value} (h:KRows B w vo kss kvs) (hb:B'<=B):KRows B' w vo kss kvs:=⟨OwnP.mono h.out hb,h.len,λi kv ks h1 h2=>OwnP.mono (h.keys i kv ks h1 h2) hb⟩
def jE (S:PSt) (cs:List PCall) (want:List Int):List Bool:=if cO S=true then kG (bH (jM S cs)) cs.length (kH cs.length want (List.replicate cs.length false))else kH cs.length want (List.replicate cs.length false)
theorem aDX (S:PSt) (cs:List PCall) (want:List Int):(jE S cs want).length=cs.length:=by
 unfold jE;split
 .rw[wP,tH,yP]
 rw[tH,yP]
theorem aIL (n:Nat) (l:List Int) (q:Nat) {k:Int} (h:l[q]? =some k) (inn:List Bool):kH n (l.drop q) inn=kH n (l.drop (q+1)) (if 0<=k/\k<n then inn.set k.toNat true else inn):=by obtain⟨hl,rfl⟩:=gI.1 h;rw[yH hl];rfl
structure CW (w:World) (n:Nat) (vo:Value) (kss:List (List PKey)) (kvs:List Value) (inn:List Bool) (wr:World):Prop where
 len:inn.length=n
 below:Bl w wr
 blk:Blk wr (w.heap.size+1) (dV inn) 4
 keys:KRows w.heap.size wr vo kss kvs
theorem CW.later {w:World} {n:Nat} {vo:Value} {kss:List (List PKey)} {kvs:List Value} {inn:List Bool} {wr w':World} (h:CW w n vo kss kvs inn wr) (hb:Bl wr w'):CW w n vo kss kvs inn w':=
 ⟨h.len,h.below.trans (hb.mono h.below.size),h.blk.below hb h.blk.lt.lt,h.keys.keep (Keep.of_below hb (λ_=>False)) (λ_ h=>h.elim)⟩
theorem CW.store {w:World} {n:Nat} {vo:Value} {kss:List (List PKey)} {kvs:List Value} {inn:List Bool} {wr w':World} (h:CW w n vo kss kvs inn wr) (hb:Bl wr w') {k m:Nat} (hk:k<m) (x:Bool) (hm:m<=n):CW w n vo kss kvs (inn.set k x) (w'.setCell ⟨w.heap.size+1,k,none⟩ (.bool x)):=by
 have h2:=h.later hb;refine⟨by rw[yB];exact h2.len,h2.below.setCell (p:=⟨w.heap.size+1,k,none⟩) (by show w.heap.size<=w.heap.size+1;omega) _,?_,?_⟩
 .have:=h2.blk.set_ k (.bool x);rw[uM]at this;exact this
 exact h2.keys.keep (Keep.setCell (S:=λg=>g=w.heap.size+1) (p:=⟨w.heap.size+1,k,none⟩) (Keep.refl _ w') (.inl rfl) _) (λg hg=>by rw[hg];exact⟨_,4,h2.blk,by decide,by decide⟩)
theorem wM (T:Nat->Nat->Bool) (l:Nat):∀(n e:Nat) (inn:List Bool),inn[l]? =some false->dG T l n e inn=inn
 |0,_,_,_=>rfl
 | n+1,e,inn,h=>by
   have hs:qQ T l e inn=inn:=by
    unfold qQ;rw[zG (l:=inn) (i:=l),h];simp only[Option.getD_some,yJ,Bool.or_false];by_cases he:e<inn.length
    .rw[zG,gE he];simp
    exact List.set_eq_of_length_le (by omega)
   show dG T l n (e+1) (qQ T l e inn)=inn;rw[hs];exact wM T l n (e+1) inn h
theorem aQY {inn:List Bool} {k:Nat} {x:Bool} (h:inn[k]? =some x):inn.set k x=inn:=by obtain⟨hk,rfl⟩:=gI.1 h;simp
def wN (n:Nat):Prop:=∀(iv ov mv:Value) (S:PSt) (cs:List PCall) (want:List Int) (vc vw:Value) (w:World) (h:StRead w iv ov mv S) (hwf:S.wf) (hc:RowAt w 8 vc (cs.map PCall.cells)) (hcd:∀c∈cs,c.data.size<=1000000000000000000) (hcl:cs.length<=2000000) (hw:RowAt w 1 vw (want.map aJ)) (hwl:want.length<=1000000000) (hw64:∀k∈want,I64 k),Calls prog n #[.agg #[iv,ov,mv],vc,vw] w λe w'=>Bl w w'/\∃g,e=.returned (.slice (some ⟨g,0,none⟩) cs.length cs.length)/\w.heap.size<=g/\Blk w' g (dV (jE S cs want)) 4
theorem aFL {n m r t:Nat} (hs:(n=23/\m=39/\r=54/\t=17)\/(n=24/\m=30/\r=55/\t=18)) (fM:bAF m) (fR:aYB r) (fT:bAG t):wN n:=by
 intro iv ov mv S cs want vc vw w h hwf hc hcd hcl hw hwl hw64;rcases hs with⟨rfl,rfl,rfl,rfl⟩|⟨rfl,rfl,rfl,rfl⟩
 all_goals
  have a9:=fun(ww:World) (hb:Bl w ww)=>fR iv ov mv S cs vc ww (h.below hb (zC _)) hwf (hc.below hb (zC _)) hcd (by omega);have b0:=fun(ww:World) (hb:Bl w ww)=>fM iv ov mv S ww (h.below hb (zC _)) hwf;have o1:=h.1.one;have o2:=h.2.1.one;have o3:iv.oneCell'=true:=by obtain⟨_,_,_,h3,_⟩:=h;exact h3.one
  obtain⟨ac,cc,rfl,-⟩:=hc;obtain⟨aw,cw,rfl,hatw⟩:=hw.at_;rw[lM]at a9 |-;rw[lM];obtain⟨R,hR⟩:=gAB (jE S cs want);rw[hR];have HI:=aC hatw;unfold jE at hR;obtain⟨j0,ji,jz0,jz1,jz2⟩:=info_parts aMZ;have d1:∀u:World,(Instr.makeSlice 39 (.int .i64 cs.length) (.int .i64 cs.length)).run prog u=.ok (.slice (some ⟨u.heap.size,0,none⟩) cs.length cs.length) (u.alloc (.cells (dV (List.replicate cs.length false)) 4)):=λu=>by have:=run_makeSlice (P:=prog) u 39 4 j0 _ underlying39 ji jz0 .i64 .i64 cs.length cs.length (by omega) (Int.le_refl _) (by rw[jz1];omega) (by rw[jz2];omega) (by omega);unfold dV;rw[<-sQ (λx=>Value.bool x)];simpa[jz1,Value.cells]using this
  have c3:(List.replicate cs.length false).length=cs.length:=yP;generalize List.replicate cs.length false=I0 at *;have HR:=bJ hR c3;clear h hw hatw hR
  go_in
  go_upto_region 2 with fail;refine aD (F:=λwA=>Bl w wA/\Blk wA w.heap.size #[iv,ov,mv] 26/\Blk wA (w.heap.size+1) (dV I0) 4) ⟨bel w _,(Blk.new _ _ _).alloc _,Blk.new_i _ _ _ _⟩ ?_;rintro wA ⟨hbA,hsA,hiA⟩;have b5:=fun(ww:World) (hb:Bl wA ww)=>b0 ww (hbA.trans (hb.mono hbA.size));have HA:=eH hbA hsA hiA;have iG:=hiA.lt;clear hbA hsA hiA;go_wp2_with fail
  first
   |(go_loopw [9,18] (λ_ vi wr=>∃(q:Nat) (inn:List Bool),vi=.int .i64 q/\q<=want.length/\inn.length=cs.length/\kH cs.length (want.drop q) inn=kH cs.length want I0/\Bl w wr/\Blk wr w.heap.size #[iv,ov,mv] 26/\Blk wr (w.heap.size+1) (dV inn) 4) (λ_ vi _=>(want.length-intOf vi).toNat);case atStart=>exact⟨0,I0,rfl,by omega,HR.out.2,by simp,HA.out.1,HA.out.2.1,HA.out.2.2⟩)
   |(go_loopw [8] (λvi wr=>∃(q:Nat) (inn:List Bool),vi=.int .i64 q/\q<=want.length/\inn.length=cs.length/\kH cs.length (want.drop q) inn=kH cs.length want I0/\Bl w wr/\Blk wr w.heap.size #[iv,ov,mv] 26/\Blk wr (w.heap.size+1) (dV inn) 4) (λvi _=>(want.length-intOf vi).toNat);case atStart=>exact⟨0,I0,rfl,by omega,HR.out.2,by simp,HA.out.1,HA.out.2.1,HA.out.2.2⟩)
  obtain⟨q,inn,rfl,hq,hil,hre,hbr,hsr,hir⟩:=hrel;have c4:=hir.lt;by_cases hlt:q<want.length
  .obtain⟨k,hk⟩:=gAA hlt
   obtain⟨bw,ow,rfl,iW0,iW,hcw⟩:=HI.out wr hbr q (aJ k) (by rw[gM,hk];rfl);have w0:=hcw 0 _ rfl;rw[Nat.mul_one,zN]at w0;rw[aIL _ _ _ hk]at hre;have d2:=hw64 k (mG hk);have fz:∀i,wr.frozen? ⟨w.heap.size+1,i,none⟩=false:=λi=>hir.frozen i;by_cases hk0:0<=k
   .by_cases hk1:k<cs.length
    .rw[zB ⟨hk0,hk1⟩]at hre;obtain⟨m,rfl⟩:∃m:Nat,k=m:=⟨k.toNat,by omega⟩
     rw[zJ]at hre;obtain⟨u,hu⟩:∃u,wr.cell? ⟨w.heap.size+1,m,none⟩=some u:=⟨_,by rw[hir.cell];exact yA (by unfold dV;simp;omega)⟩;have fm:=fz m;have b6:Blk (wr.setCell ⟨w.heap.size+1,m,none⟩ (.bool true)) (w.heap.size+1) (dV (inn.set m true)) 4:=by have:=hir.set_ m (.bool true);rw[uM]at this;exact this
     have b7:=hsr.far (a:=⟨w.heap.size+1,m,none⟩) (by simp) (.bool true);have b8:=hbr.setCell (p:=⟨w.heap.size+1,m,none⟩) (by show w.heap.size<=w.heap.size+1;omega) (.bool true);have HF:=qM hre b8 b7 b6 hil;clear hre hbr hsr hir hcw hk fz b6 b7 b8 hil;go_wp2;go_roundw
     case rel=>exact⟨q+1,_,by go_num,by omega,by rw[yB];exact HF.out.2.2.2.2,HF.out.1,HF.out.2.1,HF.out.2.2.1,HF.out.2.2.2.1⟩
     simp[intOf];omega
    rw[zA (by omega)]at hre;have HF:=qM hre hbr hsr hir hil;clear hre hbr hsr hir hcw hk fz hil;go_wp2;go_roundw
    case rel=>exact⟨q+1,_,by go_num,by omega,HF.out.2.2.2.2,HF.out.1,HF.out.2.1,HF.out.2.2.1,HF.out.2.2.2.1⟩
    simp[intOf];omega
   rw[zA (by omega)]at hre;have HF:=qM hre hbr hsr hir hil;clear hre hbr hsr hir hcw hk fz hil;go_wp2;go_roundw
   case rel=>exact⟨q+1,_,by go_num,by omega,HF.out.2.2.2.2,HF.out.1,HF.out.2.1,HF.out.2.2.1,HF.out.2.2.2.1⟩
   simp[intOf];omega
  have hM:inn=kH cs.length want I0:=by rw[List.drop_eq_nil_of_le (by omega)]at hre;exact hre
  subst hM;have s0:wr.cell? w.heap.size=some iv:=hsr.cell 0;have s1:wr.cell? ⟨w.heap.size,1,none⟩=some ov:=hsr.cell 1;have s2:wr.cell? ⟨w.heap.size,2,none⟩=some mv:=hsr.cell 2;have c8:=hsr.lt;have a1:=fun(ww:World) (hb:Bl wr ww)=>b0 ww (hbr.trans (hb.mono hbr.size));have a2:=fun(ww:World) (hb:Bl wr ww)=>a9 ww (hbr.trans (hb.mono hbr.size));generalize kH cs.length want I0=M0 at *;have HB:=eH hbr hir hil;clear hbr hir hil hre hsr b5 b0 a9;rcases hm:cO S with _|_
  .have b4:M0=R:=by
    have:=HR.out.1;rw[hm,zA (by decide)]at this;exact this
   rw[hm]at a1;clear hm a2;go_wp2_with((first|go_at_call 39|go_at_call 30);refine aE (a1 _ (bel _ _)) λp=>?_);go_ret;subst b4;exact⟨HB.out.1.trans ((bel wr _).mono HB.out.1.size),_,rfl,by omega,HB.out.2.1.below (bel wr _) c4.lt⟩
  have b4:kG (bH (jM S cs)) cs.length M0=R:=by have:=HR.out.1;rw[hm,zB rfl]at this;exact this
  rw[hm]at a1;clear hm
 .go_upto_region 11 with(first|(go_at_call 39;refine aE (a1 _ (bel _ _)) λp=>?_)|(go_at_call 54;refine(a2 _ (bel _ _)).mono ?_;rintro e w3 ⟨hb3,vo,kvs,rfl,hkr⟩;obtain⟨ao,co,rfl,hato⟩:=hkr.at_))
  have c5:=nK cs S;generalize jM S cs=kss at *;have a3:=HB.out.1;have a4:Bl wr w3:=(bel wr _).trans (hb3.mono (bel wr _).size);have b9:Bl w w3:=HB.out.1.trans (a4.mono HB.out.1.size);have b1:Blk w3 (w.heap.size+1) (dV M0) 4:=HB.out.2.1.below a4 c4.lt;have c6:=aC b4;have d3:IntKind.i64.wrap ((kss.length:Int)-1)=(kss.length:Int)-1:=I64.wrap (by unfold I64;omega);have d4:kss.length=cs.length:=c5;have c0:CW w cs.length (.slice ao kss.length co) kss kvs M0 w3:=⟨HB.out.2.2,b9,b1,hkr.mono (by have:=a3.size;simp;omega)⟩;have d5:=b1.lt;have c7:=aC c0;clear hato hkr hb3 a2 a1 hcd b9 b1 b4 s0 s1 s2 c8 c0 a3;go_wp2
  go_loopw[11] (λvl wr=>∃(l:Nat) (inn:List Bool),vl=.int .i64 ((l:Int)-1)/\l<=cs.length/\kG (bH kss) l inn=R/\CW w cs.length (.slice ao kss.length co) kss kvs inn wr) (λvl _=>(intOf vl+1).toNat)
  case atStart=>exact⟨cs.length,M0,rfl,by omega,c6.out,c7.out⟩
  obtain⟨l,inn,rfl,hl,hre,hcw⟩:=hrel
  rename World=>wo
  rcases l with _|m
  .have b2:inn=R:=hre;subst b2;have n0:¬(0:Int)<=((0:Nat):Int)-1:=by omega
   have HC:=aC hcw;clear hcw hre;go_wp2;go_ret;exact⟨HC.out.below.trans ((bel wo _).mono HC.out.below.size),_,rfl,by omega,HC.out.blk.below (bel wo _) HC.out.blk.lt.lt⟩
  have a5 : kG (bH kss) m (dG (bH kss) m m 0 inn)=R:=hre;have e1:((m+1:Nat):Int)-1=m:=by omega
  rw[e1];have a7:=aC a5;have HC:=aC hcw;clear hcw hre a5;go_wp2
  go_loopw[49] (λvk wr=>∃(k:Nat) (inn':List Bool),vk=.int .i64 k/\k<=m/\dG (bH kss) m (m-k) k inn'=dG (bH kss) m m 0 inn/\CW w cs.length (.slice ao kss.length co) kss kvs inn' wr) (λvk _=>(m-intOf vk).toNat)
  case atStart=>exact⟨0,inn,rfl,by omega,rfl,HC.out.later (bel wo _)⟩
  obtain⟨k,inn',rfl,hk,hst,hcw⟩:=hrel;have HX:=aC hcw;have d6:=hcw.blk.lt;by_cases hkm:k<m
  .obtain ⟨x,hx⟩:∃x,inn'[k]? =some x:=⟨_,gE (by have:=hcw.len;omega)⟩
   obtain⟨y,hy⟩:∃y,inn'[m]? =some y:=⟨_,gE (by have:=hcw.len;omega)⟩;obtain⟨kx,hkx⟩:∃kx,kss[k]? =some kx:=⟨_,gE (by omega)⟩;obtain⟨ky,hky⟩:∃ky,kss[m]? =some ky:=⟨_,gE (by omega)⟩;have hT:bH kss k m=eZ kx ky:=by unfold bH;rw[hkx,hky]
   rw[show m-k=(m-(k+1))+1 by omega]at hst;have a0:dG (bH kss) m (m-(k+1)) (k+1) (inn'.set k (x||(y&&eZ kx ky)))=dG (bH kss) m m 0 inn:=by rw[<-hst];show _=dG (bH kss) m (m-(k+1)) (k+1) (qQ (bH kss) m k inn');unfold qQ;rw[hT,zG,zG,hx,hy];rfl
   have x0:wr.cell? ⟨w.heap.size+1,k,none⟩=some (.bool x):=(hcw.blk.cell k).trans (jA hx);have y0:wr.cell? ⟨w.heap.size+1,m,none⟩=some (.bool y):=(hcw.blk.cell m).trans (jA hy);have fk:=hcw.blk.frozen k;obtain⟨ao',co',he,hato⟩:=hcw.keys.at_;simp only[zO]at he;obtain⟨rfl,-,rfl⟩:=he;obtain⟨bo,oo,kvy,rfl,iO,oy,hry⟩:=hato wr (Below.refl _ _) m ky hky;obtain⟨bo2,oo2,kvx,heo,-,ox,hrx⟩:=hato wr (Below.refl _ _) k kx hkx;simp only[zF,yG,and_true]at heo;obtain⟨rfl,rfl⟩:=heo;have a6:=fun(ww:World) (hb:Bl wr ww)=>fT kx ky kvx kvy ww (hrx.below hb (zC _)) (hry.below hb (zC _));have g1:(k:Int)<cs.length:=by omega
   have g2:(m:Int)<cs.length:=by omega
   have g3:(k:Int)<kss.length:=by omega
   have g4:(m:Int)<kss.length:=by omega
   obtain⟨ax,nx,cx,rfl⟩:∃a n c,kvx=.slice a n c:=by obtain⟨a,c,h,-⟩:=hrx;exact⟨a,_,c,h⟩
   obtain⟨ay,ny,cy,rfl⟩:∃a n c,kvy=.slice a n c:=by obtain⟨a,c,h,-⟩:=hry;exact⟨a,_,c,h⟩
   generalize eZ kx ky=t at *;have a8:=aC a0;clear hst a0 hcw hx hy hkx hky hT hato hrx hry;rcases x with _|_;rotate_left
   .go_upto_region 17 with fail
    refine aH [20,24] true (λw'=>w'.cell? ⟨w.heap.size+1,k,none⟩=some (.bool true)/\w'.cell? ⟨w.heap.size+1,m,none⟩=some (.bool y)/\w'.cell? ⟨bo,oo+k,none⟩=some (.slice ax nx cx)/\w'.cell? ⟨bo,oo+m,none⟩=some (.slice ay ny cy)) (by kernel_rfl) (by kernel_rfl) ?_ ?_
    · (try dsimp only);(repeat' apply And.intro)<;>go_simp
    repeat
     first
      | (refine aI rfl rfl ?_
         apply Exists.intro;refine⟨?_,?_⟩
         focus
          rintro w' ⟨s0,s1,s2,s3⟩;go_simp
          first|done|rfl
         simp only[Act.put,sA,sZ,sS])
      | (refine mO rfl ?_
         simp only[Act.put,sA,sZ,sS])
    refine aW rfl rfl ?_;apply Exists.intro;apply And.intro
    focus
     go_simp
     first|done|rfl
    apply And.intro
    focus
     exact .inr ⟨rfl,rfl⟩
    refine aU ?_;simp only[Act.put];have HF:=aC (HX.out.store (bel wr wr.drew) hkm true (by omega));change Exit.inBlock _ _ .normal _ (wr.drew.setCell ⟨w.heap.size+1,k,none⟩ (.bool true));generalize wr.drew.setCell ⟨w.heap.size+1,k,none⟩ (.bool true)=wF at HF |-;go_wp2;go_roundw
    case rel=>exact⟨k+1,_,by go_num,by omega,by have:=a8.out;simpa using this,HF.out.later (bel wF _)⟩
    simp[intOf];omega
   rcases y with _|_
   .go_upto_region 17 with fail
    refine aH [20,24] true (λw'=>w'.cell? ⟨w.heap.size+1,k,none⟩=some (.bool false)/\w'.cell? ⟨w.heap.size+1,m,none⟩=some (.bool false)/\w'.cell? ⟨bo,oo+k,none⟩=some (.slice ax nx cx)/\w'.cell? ⟨bo,oo+m,none⟩=some (.slice ay ny cy)) (by kernel_rfl) (by kernel_rfl) ?_ ?_
    · (try dsimp only);(repeat' apply And.intro)<;>go_simp
    repeat
     first
      | (refine aI rfl rfl ?_
         apply Exists.intro;refine⟨?_,?_⟩
         focus
          rintro w' ⟨s0,s1,s2,s3⟩;go_simp
          first|done|rfl
         simp only[Act.put,sA,sZ,sS])
      | (refine mO rfl ?_
         simp only[Act.put,sA,sZ,sS])
    refine aW rfl rfl ?_;apply Exists.intro;apply And.intro
    focus
     go_simp
     first|done|rfl
    apply And.intro
    focus
     exact .inr ⟨rfl,rfl⟩
    refine aU ?_;simp only[Act.put];have HF:=aC (HX.out.store (bel wr wr.drew) hkm false (by omega));change Exit.inBlock _ _ .normal _ (wr.drew.setCell ⟨w.heap.size+1,k,none⟩ (.bool false));generalize wr.drew.setCell ⟨w.heap.size+1,k,none⟩ (.bool false)=wF at HF |-;go_wp2;go_roundw
    case rel=>exact⟨k+1,_,by go_num,by omega,by have:=a8.out;simpa using this,HF.out.later (bel wF _)⟩
    simp[intOf];omega
   rcases t with _|_
   .go_upto_region 17 with fail
    refine aH [20,24] true (λw'=>w'.cell? ⟨w.heap.size+1,k,none⟩=some (.bool false)/\w'.cell? ⟨w.heap.size+1,m,none⟩=some (.bool true)/\w'.cell? ⟨bo,oo+k,none⟩=some (.slice ax nx cx)/\w'.cell? ⟨bo,oo+m,none⟩=some (.slice ay ny cy)) (by kernel_rfl) (by kernel_rfl) ?_ ?_
    · (try dsimp only);(repeat' apply And.intro)<;>go_simp
    repeat
     first
      | (refine aI rfl rfl ?_
         apply Exists.intro;refine⟨?_,?_⟩
         focus
          rintro w' ⟨s0,s1,s2,s3⟩;go_simp
          first|done|rfl
         simp only[Act.put,sA,sZ,sS])
      | (refine mO rfl ?_
         simp only[Act.put,sA,sZ,sS])
    refine bB rfl rfl ?_;refine aS 17 #[.slice ax nx cx,.slice ay ny cy] ?_ ((a6 wr.drew (bel wr _)).mono ?_)
    .go_simp
     first|done|rfl
    rintro e w4 ⟨rfl,hb4⟩;obtain⟨p4,rfl⟩:=hb4.rest;refine⟨_,rfl,.inl ?_,?_⟩
    · (try dsimp only);(repeat' apply And.intro)<;>go_simp
    simp only[Act.put,sA,sZ,sS]
    repeat
     first
      | (refine aI rfl rfl ?_
         apply Exists.intro;refine⟨?_,?_⟩
         focus
          rintro w' ⟨s0,s1,s2,s3⟩;go_simp
          first|done|rfl
         simp only[Act.put,sA,sZ,sS])
      | (refine mO rfl ?_
         simp only[Act.put,sA,sZ,sS])
    refine aW rfl rfl ?_;apply Exists.intro;apply And.intro
    focus
     go_simp
     first|done|rfl
    apply And.intro
    focus
     exact .inr ⟨rfl,rfl⟩
    refine aU ?_;simp only[Act.put];have HF:=aC ((HX.out.store (Below.refl _ _) hkm false (by omega)).later (bel (wr.setCell ⟨w.heap.size+1,k,none⟩ (.bool false)) ((wr.setCell ⟨w.heap.size+1,k,none⟩ (.bool false)).drew.junk p4)));change Exit.inBlock _ _ .normal _ ((wr.setCell ⟨w.heap.size+1,k,none⟩ (.bool false)).drew.junk p4);generalize(wr.setCell ⟨w.heap.size+1,k,none⟩ (.bool false)).drew.junk p4=wF at HF |-;go_wp2;go_roundw
    case rel=>exact⟨k+1,_,by go_num,by omega,by have:=a8.out;simpa using this,HF.out.later (bel wF _)⟩
    simp[intOf];omega
   go_upto_region 17 with fail;refine aH [20,24] true (λw'=>w'.cell? ⟨w.heap.size+1,k,none⟩=some (.bool false)/\w'.cell? ⟨w.heap.size+1,m,none⟩=some (.bool true)/\w'.cell? ⟨bo,oo+k,none⟩=some (.slice ax nx cx)/\w'.cell? ⟨bo,oo+m,none⟩=some (.slice ay ny cy)) (by kernel_rfl) (by kernel_rfl) ?_ ?_
   · (try dsimp only);(repeat' apply And.intro)<;>go_simp
   repeat
    first
     | (refine aI rfl rfl ?_
        apply Exists.intro;refine⟨?_,?_⟩
        focus
         rintro w' ⟨s0,s1,s2,s3⟩;go_simp
         first|done|rfl
        simp only[Act.put,sA,sZ,sS])
     | (refine mO rfl ?_
        simp only[Act.put,sA,sZ,sS])
   refine bB rfl rfl ?_;refine aS 17 #[.slice ax nx cx,.slice ay ny cy] ?_ ((a6 wr.drew (bel wr _)).mono ?_)
   .go_simp
    first|done|rfl
   rintro e w4 ⟨rfl,hb4⟩;obtain⟨p4,rfl⟩:=hb4.rest;refine⟨_,rfl,.inl ?_,?_⟩
   · (try dsimp only);(repeat' apply And.intro)<;>go_simp
   simp only[Act.put,sA,sZ,sS]
   repeat
    first
     | (refine aI rfl rfl ?_
        apply Exists.intro;refine⟨?_,?_⟩
        focus
         rintro w' ⟨s0,s1,s2,s3⟩;go_simp
         first|done|rfl
        simp only[Act.put,sA,sZ,sS])
     | (refine mO rfl ?_
        simp only[Act.put,sA,sZ,sS])
   refine aW rfl rfl ?_;apply Exists.intro;apply And.intro
   focus
    go_simp
    first|done|rfl
   apply And.intro
   focus
    exact .inr ⟨rfl,rfl⟩
   refine aU ?_;simp only[Act.put];have HF:=aC ((HX.out.store (Below.refl _ _) hkm true (by omega)).later (bel (wr.setCell ⟨w.heap.size+1,k,none⟩ (.bool true)) ((wr.setCell ⟨w.heap.size+1,k,none⟩ (.bool true)).drew.junk p4)));change Exit.inBlock _ _ .normal _ ((wr.setCell ⟨w.heap.size+1,k,none⟩ (.bool true)).drew.junk p4);generalize(wr.setCell ⟨w.heap.size+1,k,none⟩ (.bool true)).drew.junk p4=wF at HF |-;go_wp2;go_roundw
   case rel=>exact⟨k+1,_,by go_num,by omega,by have:=a8.out;simpa using this,HF.out.later (bel wF _)⟩
   simp[intOf];omega
  have b3:k=m:=by omega
  subst b3;have a0:inn'=dG (bH kss) k k 0 inn:=by rw[Nat.sub_self]at hst;exact hst
  have HS:=aC a0;have c9:IntKind.i64.wrap ((k:Int)-1)=(k:Int)-1:=I64.wrap (by unfold I64;omega);clear hst a0 hcw;go_wp2;go_roundw
  case rel=>exact⟨k,inn',rfl,by omega,by rw[HS.out];exact a7.out,HX.out.later (bel wr _)⟩
  first|(simp [intOf];done)|(simp [intOf];omega)
 go_upto_region 10 with(first|(go_at_call 30;refine aE (a1 _ (bel _ _)) λp=>?_)|(go_at_call 55;refine(a2 _ (bel _ _)).mono ?_;rintro e w3 ⟨hb3,vo,kvs,rfl,hkr⟩;obtain⟨ao,co,rfl,hato⟩:=hkr.at_))
 have c5:=nK cs S;generalize jM S cs=kss at *;have a3:=HB.out.1;have a4:Bl wr w3:=(bel wr _).trans (hb3.mono (bel wr _).size);have b9:Bl w w3:=HB.out.1.trans (a4.mono HB.out.1.size);have b1:Blk w3 (w.heap.size+1) (dV M0) 4:=HB.out.2.1.below a4 c4.lt;have c6:=aC b4;have d3:IntKind.i64.wrap ((cs.length:Int)-1)=(cs.length:Int)-1:=I64.wrap (by unfold I64;omega);have d4:kss.length=cs.length:=c5;have c0:CW w cs.length (.slice ao kss.length co) kss kvs M0 w3:=⟨HB.out.2.2,b9,b1,hkr.mono (by have:=a3.size;simp;omega)⟩;have d5:=b1.lt;have c7:=aC c0;clear hato hkr hb3 a2 a1 hcd b9 b1 b4 s0 s1 s2 c8 c0 a3;go_wp2
 go_loopw[10] (λvl wr=>∃(l:Nat) (inn:List Bool),vl=.int .i64 ((l:Int)-1)/\l<=cs.length/\kG (bH kss) l inn=R/\CW w cs.length (.slice ao kss.length co) kss kvs inn wr) (λvl _=>(intOf vl+1).toNat)
 case atStart=>exact⟨cs.length,M0,rfl,by omega,c6.out,c7.out⟩
 obtain⟨l,inn,rfl,hl,hre,hcw⟩:=hrel
 rename World=>wo
 rcases l with _|m
 .have b2:inn=R:=hre;subst b2;have n0:¬(0:Int)<=((0:Nat):Int)-1:=by omega
  have HC:=aC hcw;clear hcw hre;go_wp2;go_ret;exact⟨HC.out.below.trans ((bel wo _).mono HC.out.below.size),_,rfl,by omega,HC.out.blk.below (bel wo _) HC.out.blk.lt.lt⟩
 have a5:kG (bH kss) m (dG (bH kss) m m 0 inn)=R:=hre;have e1:((m+1:Nat):Int)-1=m:=by omega
 rw[e1];have a7:=aC a5;have HC:=aC hcw;clear hcw hre a5;go_wp2
 go_loopw[11] (λvk wr=>∃(k:Nat) (inn':List Bool),vk=.int .i64 k/\k<=m/\dG (bH kss) m (m-k) k inn'=dG (bH kss) m m 0 inn/\CW w cs.length (.slice ao kss.length co) kss kvs inn' wr) (λvk _=>(m-intOf vk).toNat)
 case atStart=>exact⟨0,inn,rfl,by omega,rfl,HC.out.later (bel wo _)⟩
 obtain⟨k,inn',rfl,hk,hst,hcw⟩:=hrel;have HX:=aC hcw;have d6:=hcw.blk.lt;by_cases hkm:k<m
 .obtain⟨x,hx⟩:∃x,inn'[k]? =some x:=⟨_,gE (by have:=hcw.len;omega)⟩
  obtain⟨y,hy⟩:∃y,inn'[m]? =some y:=⟨_,gE (by have:=hcw.len;omega)⟩;obtain⟨kx,hkx⟩:∃kx,kss[k]? =some kx:=⟨_,gE (by omega)⟩;obtain⟨ky,hky⟩:∃ky,kss[m]? =some ky:=⟨_,gE (by omega)⟩;have hT:bH kss k m=eZ kx ky:=by unfold bH;rw[hkx,hky]
  rw[show m-k=(m-(k+1))+1 by omega]at hst;have a0:dG (bH kss) m (m-(k+1)) (k+1) (inn'.set k (x||(y&&eZ kx ky)))=dG (bH kss) m m 0 inn:=by rw[<-hst];show _=dG (bH kss) m (m-(k+1)) (k+1) (qQ (bH kss) m k inn');unfold qQ;rw[hT,zG,zG,hx,hy];rfl
  have c1:y=false->kG (bH kss) m inn'=R:=λe=>by rw[e]at hy;rw[<-a7.out,<-hst,wM _ _ _ _ _ hy]
  have d0:y=true->eZ kx ky=false->dG (bH kss) m (m-(k+1)) (k+1) inn'=dG (bH kss) m m 0 inn:=λe1 e2=>by rw[<-a0,e1,e2,Bool.and_false,Bool.or_false,aQY hx]
  have c2:y=true->eZ kx ky=true->dG (bH kss) m (m-(k+1)) (k+1) (inn'.set k true)=dG (bH kss) m m 0 inn:=λe1 e2=>by rw[<-a0,e1,e2,Bool.and_true,Bool.or_true]
  have x0:wr.cell? ⟨w.heap.size+1,k,none⟩=some (.bool x):=(hcw.blk.cell k).trans (jA hx);have y0:wr.cell? ⟨w.heap.size+1,m,none⟩=some (.bool y):=(hcw.blk.cell m).trans (jA hy);have fk:=hcw.blk.frozen k;obtain⟨ao',co',he,hato⟩:=hcw.keys.at_;simp only[zO]at he;obtain⟨rfl,-,rfl⟩:=he;obtain⟨bo,oo,kvy,rfl,iO,oy,hry⟩:=hato wr (Below.refl _ _) m ky hky;obtain⟨bo2,oo2,kvx,heo,-,ox,hrx⟩:=hato wr (Below.refl _ _) k kx hkx;simp only[zF,yG,and_true]at heo;obtain⟨rfl,rfl⟩:=heo;have a6:=fun(ww:World) (hb:Bl wr ww)=>fT kx ky kvx kvy ww (hrx.below hb (zC _)) (hry.below hb (zC _));have g1:(k:Int)<cs.length:=by omega
  have g2:(m:Int)<cs.length:=by omega
  have g3:(k:Int)<kss.length:=by omega
  have g4:(m:Int)<kss.length:=by omega
  obtain⟨ax,nx,cx,rfl⟩:∃a n c,kvx=.slice a n c:=by obtain⟨a,c,h,-⟩:=hrx;exact⟨a,_,c,h⟩
  obtain⟨ay,ny,cy,rfl⟩:∃a n c,kvy=.slice a n c:=by obtain⟨a,c,h,-⟩:=hry;exact⟨a,_,c,h⟩
  generalize eZ kx ky=t at *;have a8:=eH c1 d0 c2;clear hst a0 c1 d0 c2 hcw hx hy hkx hky hT hato hrx hry;rcases y with _|_
  .have c9:IntKind.i64.wrap ((m:Int)-1)=(m:Int)-1:=I64.wrap (by unfold I64;omega);go_wp2
   go_roundw
   case rel=>exact⟨m,inn',rfl,by omega,a8.out.1 rfl,HX.out.later (bel wr _)⟩
   first|(simp [intOf];done)|(simp [intOf];omega)
  go_upto_region 16 with fail;refine qR ?_
  repeat(go_big_quiet_step ((first|refine cI (a6 _ (bel _ _))|refine cJ (a6 _ (bel _ _)))))
  refine QN λp=>?_;rcases t with _|_
  .go_wp2
   go_roundw
   case rel=>exact⟨k+1,inn',by go_num,by omega,a8.out.2.1 rfl rfl,HX.out.later (bel wr _)⟩
   simp[intOf];omega
  go_wp2;go_roundw
  case rel=>exact⟨k+1,_,by go_num,by omega,a8.out.2.2 rfl rfl,(HX.out.store (Below.refl _ _) hkm true (by omega)).later (bel _ _)⟩
  simp[intOf];omega
 have b3:k=m:=by omega
 subst b3;have a0:inn'=dG (bH kss) k k 0 inn:=by rw[Nat.sub_self]at hst;exact hst
 have HS:=aC a0;have c9:IntKind.i64.wrap ((k:Int)-1)=(k:Int)-1:=I64.wrap (by unfold I64;omega);clear hst a0 hcw;go_wp2;go_roundw
 case rel=>exact⟨k,inn',rfl,by omega,by rw[HS.out];exact a7.out,HX.out.later (bel wr _)⟩
 first|(simp [intOf];done)|(simp [intOf];omega)
theorem aBQ:wN 23:=aFL (.inl ⟨rfl,rfl,rfl,rfl⟩) aGZ aXS vW
def lA (S:PSt) (c:PCall):List PKey:=if cO S=true then jK S c else[]
theorem aYR (iv ov mv:Value) (S:PSt) (c:PCall) (w:World) (h:StRead w iv ov mv S) (hwf:S.wf) (hcd:c.data.size<=1000000000000000000):
 Calls prog 12 #[.agg #[iv,ov,mv],c.val] w λe w'=>Bl w w'/\∃kv,e=.returned kv/\OwnP w.heap.size w' 61 2 kv ((lA S c).map PKey.cells):=by
 have a1:=fun(ww:World) (hb:Bl w ww)=>aGZ iv ov mv S ww (h.below hb (zC _)) hwf;have a0:=fun(ww:World) (hb:Bl w ww)=>aSQ iv ov mv S c ww (h.below hb (zC _)) hwf (aEE hwf) hcd;have o1:=h.1.one;have o2:=h.2.1.one;have o3:iv.oneCell'=true:=by obtain⟨_,_,_,h3,_⟩:=h;exact h3.one
 obtain⟨R,hR⟩:=gAB (lA S c);rw[hR];unfold lA at hR;clear h;unfold PCall.val at a0 |-;rcases hm:cO S with _|_
 .rw[hm,zA (by decide)]at hR;subst hR;rw[hm]at a1;clear hm a0
  go_in;go_wp2_with(go_at_call 39;refine aE (a1 _ (bel _ _)) λp=>?_);go_ret;exact⟨bel _ _,_,rfl,.inl ⟨rfl,rfl⟩⟩
 rw[hm,zB rfl]at hR;rw[hm]at a1;rw[hR]at a0;clear hm hR;go_in;go_wp2_with(first|(go_at_call 39;refine aE (a1 _ (bel _ _)) λp=>?_)|(go_at_call 40;refine(a0 _ (bel _ _)).mono ?_;rintro e w3 ⟨hb3,kv,iv3,ov3,mv3,rfl,hk,hs⟩;have a2:=hk.one;obtain⟨a11,a12,a13,a14,a15,a16,a17,a18,a19,rfl,rfl,rfl⟩:=hs.forms));go_ret;exact⟨(bel w _).trans ((hb3.mono (bel w _).size).trans ((bel w3 _).mono (zD (bel w _).size hb3.size))),kv,rfl,OwnP.mono (OwnP.keep hk (Keep.of_below (bel w3 _) (λ_=>False)) (λ_ _ h=>h)) (bel w _).size⟩
theorem aOM (us bs:List Bool) (q:Nat) {x y:Bool} (hx:us[q]? =some x) (hy:bs[q]? =some y):(us.drop q==bs.drop q)=((x==y)&&(us.drop (q+1)==bs.drop (q+1))):=by obtain⟨h1,rfl⟩:=gI.1 hx;obtain⟨h2,rfl⟩:=gI.1 hy;rw[yH h1,yH h2];rfl
theorem pB (us bs:List Bool) (va vb:Value) (w:World) (ha:RowAt w 1 va (us.map aO)) (hb:RowAt w 1 vb (bs.map aO)):
 vR w 25 #[va,vb] (.bool (us==bs)):=by
 have a2:us.length<=9223372036854775807:=by obtain⟨_,_,_,h,_⟩:=ha;rw[lM]at h;exact h
 obtain⟨aa,ca,rfl,hata⟩:=ha.at_;obtain⟨ab,cb,rfl,hatb⟩:=hb.at_;rw[lM,lM];have HA:=bJ hata hatb;clear hata hatb ha hb;obtain⟨R,hR⟩:=gAB ((us==bs));rw[hR];by_cases hl:us.length=bs.length
 .have a0:((us.length:Int) !=bs.length)=false:=by simp;omega
  have HR:=aC hR;clear hR;unfold vR;go_in;go_wp2
  go_loopw[5] (λvi wr=>∃q:Nat,vi=.int .i64 q/\q<=us.length/\(us.drop q==bs.drop q)=R/\Bl w wr) (λvi _=>(us.length-intOf vi).toNat)
  case atStart=>exact⟨0,rfl,by omega,by simpa using HR.out,bel _ _⟩
  obtain⟨q,rfl,hq,hre,hbr⟩:=hrel;have iB:Bel w wr:=⟨hbr⟩;by_cases hlt:q<us.length
  .obtain⟨x,hx⟩:=gAA hlt
   obtain⟨y,hy⟩:∃y,bs[q]? =some y:=⟨_,gE (by omega)⟩;obtain⟨be,offe,rfl,iE0,iE,hce⟩:=HA.out.1 wr hbr q (aO x) (by rw[gM,hx];rfl);have e0:=hce 0 _ rfl;obtain⟨bf,offf,rfl,iF0,iF,hcf⟩:=HA.out.2 wr hbr q (aO y) (by rw[gM,hy];rfl);have f0:=hcf 0 _ rfl;rw[Nat.mul_one,zN]at e0 f0;rw[aOM us bs q hx hy]at hre;have g1:(q:Int)<us.length:=by omega
   have g2:(q:Int)<bs.length:=by omega
   have HE:=aC hre;clear hre hce hcf hx hy;rcases x with _|_<;>rcases y with _|_
   .go_wp2;refine qR ?_
    repeat(go_big_quiet_step (fail))
    refine QN λp=>?_;go_wp2;go_roundw
    case rel=>exact⟨q+1,by go_num,by omega,by have:=HE.out;simpa using this,bel _ _⟩
    simp[intOf];omega
   .go_wp2;refine qR ?_
    repeat(go_big_quiet_step (fail))
    refine QN λp=>?_;go_wp2;go_ret;exact⟨gJ (by rw[<-HE.out];rfl),bel _ _⟩
   .go_wp2;refine qR ?_
    repeat(go_big_quiet_step (fail))
    refine QN λp=>?_;go_wp2;go_ret;exact⟨gJ (by rw[<-HE.out];rfl),bel _ _⟩
   go_wp2;refine qR ?_
   repeat(go_big_quiet_step (fail))
   refine QN λp=>?_;go_wp2;go_roundw
   case rel=>exact⟨q+1,by go_num,by omega,by have:=HE.out;simpa using this,bel _ _⟩
   simp[intOf];omega
  rw[drop_eq_nil_of_le (by omega),drop_eq_nil_of_le (by omega)]at hre;have HE:=aC hre;clear hre;go_wp2;go_ret;exact⟨gJ (by rw[<-HE.out];rfl),bel _ _⟩
 have a0:((us.length:Int) !=bs.length)=true:=by simp;omega
 have a1:R=false:=by rw[<-hR,Bool.eq_false_iff];intro h;rw[beq_iff_eq]at h;exact hl (by rw[h])
 subst a1;clear hR;unfold vR;go_in;go_wp2;go_ret;exact gAC
def aJA (k:PKey):List PKey->List PKey
 |[]=>[k]
 |y::r=>if nO y k=true then y::aJA k r else k::y::r
def isK (l:List PKey):List PKey:=l.foldr aJA []
def vL (x y:PKey):Bool:=!nO y x
theorem aOD (x y:PKey):(vL x y||vL y x)=true:=by
 unfold vL;rcases h1:nO y x with _|_
 .simp
 rcases h2:nO x y with _|_
 .simp
 have:=gD h1 h2;rw[kU]at this;cases this
theorem aCC (x y z:PKey) (h1:vL x y=true) (h2:vL y z=true):vL x z=true:=by
 unfold vL at *;simp only[yL]at *;rw[Bool.eq_false_iff];intro h;rcases kB y z with h3|h3|h3
 .rw[gD h3 h]at h1;cases h1
 .subst h3;rw[h]at h1;cases h1
 rw[h3]at h2;cases h2
theorem aSI {x y:PKey} (h1:vL x y=true) (h2:vL y x=true):x=y:=by
 unfold vL at *;simp only[yL]at *;rcases kB x y with h3|h3|h3
 .rw[h3]at h2;cases h2
 .exact h3
 rw[h3]at h1;cases h1
theorem tM (k:PKey):∀l,(aJA k l).Perm (k::l)
 |[]=>List.Perm.refl _
 | y::r=>by
   unfold aJA;split
   .exact((tM k r).cons y).trans (List.Perm.swap k y r)
   exact List.Perm.refl _
theorem uO (k:PKey):∀l,l.Pairwise (λx y=>vL x y=true)->(aJA k l).Pairwise (λx y=>vL x y=true)
 |[],_=>by simp[aJA]
 | y ::r,h=>by
   rw[pairwise_cons]at h;unfold aJA;split
   .rename_i hy
    rw[pairwise_cons];refine⟨λz hz=>?_,uO k r h.2⟩;rcases mem_cons.1 ((tM k r).mem_iff.1 hz)with rfl|hz
    .unfold vL;rcases h3:nO z y with _|_
     .rfl
     have:=gD hy h3;rw[kU]at this;cases this
    exact h.1 z hz
   rename_i hy;have a0:vL k y=true:=by unfold vL;simpa using hy
   rw[pairwise_cons];refine⟨λz hz=>?_,pairwise_cons.2 h⟩;rcases mem_cons.1 hz with rfl|hz
   .exact a0
   exact aCC _ _ _ a0 (h.1 z hz)
theorem rZ:∀l,(isK l).Perm l
 |[]=>List.Perm.refl _
 |k::l=>(tM k (isK l)).trans ((rZ l).cons k)
theorem rE:∀l,(isK l).Pairwise (λx y=>vL x y=true)
 |[]=>List.Pairwise.nil
 |k::l=>uO k _ (rE l)
theorem oY:∀(a b:List PKey),a.Pairwise (λx y=>vL x y=true)->b.Pairwise (λx y=>vL x y=true)->a.Perm b->a=b
 |[],b,_,_,h=>(List.Perm.nil_eq h)
 |x::a,[],_,_,h=>by simp at h
 | x::a,y::b,ha,hb,h=>by
   rw[pairwise_cons]at ha hb;have a0:x=y:=by
    have h1:x∈y::b:=h.mem_iff.1 (by simp);have h2:y∈x::a:=h.mem_iff.2 (by simp);rcases mem_cons.1 h1 with e|h1
    .exact e
    rcases mem_cons.1 h2 with e|h2
    .exact e.symm
    exact aSI (ha.1 y h2) (hb.1 x h1)
   subst a0;rw[oY a b ha.2 hb.2 (List.Perm.cons_inv h)]
theorem aFZ (l:List PKey):oG l=isK l:=by
 refine oY _ _ ?_ (rE l) ?_
 .unfold oG;exact pairwise_mergeSort (λa b c h1 h2=>aCC a b c h1 h2) (λa b=>aOD a b) l
 unfold oG;exact(mergeSort_perm _ _).trans (rZ l).symm
def aRU (code:Int) (o:Option (List PKey)):List PKey:=if code=0 then(match o with|none=>[]|some l=>cE (isK l))else[]
theorem aRV (code:Int) (o:Option (List PKey)):sE code o=aRU code o:=by
 unfold aRU;by_cases h:code=0
 .rw[zB h];rcases o with _|l
  .rw[nU]
  rw[rG h,aFZ]
 rw[zA h,pX h]
def aRW (S:PSt) (c:PCall):List PKey:=aRU (kX S c).2.code (cH S (kX S c).1 c)
theorem aFX (S:PSt) (c:PCall):jK S c=aRW S c:=aRV _ _
def aRX:PSt->List PCall->List (List PKey)
 |_,[]=>[]
 |S,c::r=>aRW S c::aRX (kX S c).1 r
theorem aEF:∀(cs:List PCall) (S:PSt),jM S cs=aRX S cs
 |[],_=>rfl
 | c::r,S=>by unfold jM aRX;rw[aFX,aEF r]
def wS (S:PSt) (cs:List PCall) (want:List Int):List Bool:=if cO S=true then kG (bH (aRX S cs)) cs.length (kH cs.length want (List.replicate cs.length false))else kH cs.length want (List.replicate cs.length false)
theorem aFY (S:PSt) (cs:List PCall) (want:List Int):jE S cs want=wS S cs want:=by unfold jE wS;rw[aEF]
def aEG (S:PSt) (cs:List PCall) (inn:List Bool):Bool:=decide (inn.length=cs.length)&&cO S&&aLO (bH (aRX S cs)) inn
theorem aIW (S:PSt) (cs:List PCall) (inn:List Bool):jT S cs inn=aEG S cs inn:=by unfold jT aEG;rw[aEF]
def cA:PCall:=⟨0,0,0,0,0,⟨#[47,97]⟩,⟨#[]⟩,⟨#[]⟩⟩
def cB:PCall:=⟨2,1,0,0,0,⟨#[47,97]⟩,⟨#[]⟩,⟨#[]⟩⟩
def ksA:List PKey:=aRW (kP 2) cA
theorem aVT:cO (kP 2)=true:=by kernel_rfl
theorem aEH:ksA.length=4:=by kernel_rfl
theorem aXF:ksA[0]? =some ⟨-1,⟨#[]⟩⟩:=by kernel_rfl
theorem aXG:ksA[3]? =some ⟨2,⟨#[]⟩⟩:=by kernel_rfl
theorem aYI:eZ ksA ksA=true:=by kernel_rfl
theorem aYJ:eZ ksA [⟨1,⟨#[46]⟩⟩]=false:=by kernel_rfl
theorem aYK:wS (kP 2) [cA,cB] [1]=[true,true]:=by kernel_rfl
theorem aYL:aEG (kP 2) [cA] [false]=true:=by kernel_rfl
theorem aIX:(kP 2).wf:=by
 refine⟨by decide,by decide,by decide,?_,?_,?_⟩
 .intro x hx;have:x=⟨1,true,[],⟨#[]⟩⟩:=by simpa[kP]using hx
  subst this;exact⟨by unfold I64;decide,by simp,by simp⟩
 .intro d hd;simp[kP]at hd
 intro m hm;have:m=0:=by simpa[kP]using hm
 subst this;unfold I64;decide
section
variable {k:Nat} {r:List Value}
theorem dD {w:World} {b n:Nat} {arr:Array Value} {t:TypeId} {rows:List (List Value)} (hb:Blk w b arr t) (hn:rows.length=n) (hm:n<=maxLen) (hr:RowsIn arr k rows):RowAt w k (.slice b n n) rows:=by subst hn;exact⟨_,_,rfl,hm,λ_=>⟨b,0,rfl,hb.lt.lt,λq cs hq t u hu=>by rw[hb.cell,zM];exact hr q cs hq t u hu⟩⟩
theorem kD (hk:r.length=k):RowsIn r.toArray k [r]:=by
 intro q cs hq t u hu;rcases q with _|q
 .cases hq;rw[Nat.zero_mul,zM];simpa using hu
 simp at hq
theorem aLI {s:List Value} (hr:r.length=k) (hs:s.length=k):RowsIn (r++s).toArray k [r,s]:=by
 intro q cs hq t u hu;rcases q with _|_|q
 .cases hq;rw[Nat.zero_mul,zM];obtain⟨h,_⟩:=gI.1 hu;rw[yD,zZ h];exact hu
 .cases hq;rw[yD,Nat.one_mul,yC (by omega),hr,Nat.add_sub_cancel_left];exact hu
 simp at hq
theorem aVD (w:World):vR w 20 #[] (.bool true):=by
 have a8:=bBF 2 (by omega) (by omega) w;unfold vR;go_in;go_upto_region 3 with(go_at_call 51;refine a8.mono ?_;rintro e w1 ⟨iv,ov,mv,rfl,hb1,hs1⟩;obtain⟨a1,n1,x1,a2,n2,x2,a3,n3,x3,rfl,rfl,rfl⟩:=hs1.slices)
 refine aD (F:=λwA=>Below w.heap.size w wA/\Blk wA w1.heap.size #[.slice a1 n1 x1,.slice a2 n2 x2,.slice a3 n3 x3] 26/\Blk wA (w1.heap.size+1) #[.int .i64 0,.int .i64 0,.int .i64 0,.int .i64 0,.int .i64 0,.string ⟨#[47,97]⟩,.string ⟨#[]⟩,.string ⟨#[]⟩] 28/\StRead wA (.slice a1 n1 x1) (.slice a2 n2 x2) (.slice a3 n3 x3) (kP 2)) ⟨hb1.trans ((bel w1 _).mono hb1.size),(Blk.new _ _ _).alloc _,Blk.new_i _ _ _ _,hs1.below (bel w1 _) (zC _)⟩ ?_;generalize w1.heap.size=b1;clear hb1 hs1 a8;rintro wA ⟨hbA,hkA,hcA,hsA⟩;have k0:wA.cell? b1=some (.slice a1 n1 x1):=hkA.cell 0;have k1:wA.cell? ⟨b1,1,none⟩=some (.slice a2 n2 x2):=hkA.cell 1;have k2:wA.cell? ⟨b1,2,none⟩=some (.slice a3 n3 x3):=hkA.cell 2;have ik:=hkA.lt;have ic:=hcA.lt;have c0:wA.cell? ⟨b1+1,0,none⟩=some (.int .i64 0):=hcA.cell 0;have c1:wA.cell? ⟨b1+1,1,none⟩=some (.int .i64 0):=hcA.cell 1;have c2:wA.cell? ⟨b1+1,2,none⟩=some (.int .i64 0):=hcA.cell 2;have c3:wA.cell? ⟨b1+1,3,none⟩=some (.int .i64 0):=hcA.cell 3;have c4:wA.cell? ⟨b1+1,4,none⟩=some (.int .i64 0):=hcA.cell 4;have c5:wA.cell? ⟨b1+1,5,none⟩=some (.string ⟨#[47,97]⟩):=hcA.cell 5;have c6:wA.cell? ⟨b1+1,6,none⟩=some (.string ⟨#[]⟩):=hcA.cell 6;have c7:wA.cell? ⟨b1+1,7,none⟩=some (.string ⟨#[]⟩):=hcA.cell 7;have a9:Calls prog 12 #[.agg #[.slice a1 n1 x1,.slice a2 n2 x2,.slice a3 n3 x3],.agg #[.int .i64 0,.int .i64 0,.int .i64 0,.int .i64 0,.int .i64 0,.string ⟨#[47,97]⟩,.string ⟨#[]⟩,.string ⟨#[]⟩]] wA λe w'=>Below wA.heap.size wA w'/\∃kv,e=.returned kv/\OwnP wA.heap.size w' 61 2 kv (ksA.map PKey.cells):=by have:=aYR _ _ _ (kP 2) cA wA hsA aIX (by decide);unfold lA at this;rw[aVT,zB rfl,aFX]at this;exact this
 have HA:=mJ hbA hkA hcA hsA;clear hbA hkA hcA hsA;go_upto_region 4 with(go_at_call 12;refine a9.mono ?_;rintro e w2 ⟨hb2,kv,rfl,hk2⟩)
 rcases hk2 with⟨-,h2⟩|⟨gk,cap,arr,rfl,hgk,hkb,hkn,hkm,hks,hkr⟩
 .exfalso;have:=congrArg List.length h2;rw[lM,aEH]at this;cases this
 rw[lM,aEH];have b0:Below w.heap.size w w2:=HA.out.1.trans (hb2.mono HA.out.1.size);have a5:Blk w2 b1 #[.slice a1 n1 x1,.slice a2 n2 x2,.slice a3 n3 x3] 26/\Blk w2 (b1+1) #[.int .i64 0,.int .i64 0,.int .i64 0,.int .i64 0,.int .i64 0,.string ⟨#[47,97]⟩,.string ⟨#[]⟩,.string ⟨#[]⟩] 28:=⟨HA.out.2.1.below hb2 ik.lt,HA.out.2.2.1.below hb2 ic.lt⟩;have c8:=HA.out.2.2.2.below hb2 (zC _);have a0:RowAt w2 2 (.slice gk 4 cap) (ksA.map PKey.cells):=by have:=OwnP.row (B:=0) (e:=61) (.inr ⟨gk,cap,arr,rfl,Nat.zero_le _,hkb,hkn,hkm,hks,hkr⟩);rw[lM,aEH]at this;exact this
 have b4:w2.cell? gk=some (.int .i64 (-1)):=(hkb.cell 0).trans (hkr 0 _ (by rw[gM,aXF];rfl) 0 _ rfl);have b5:w2.cell? ⟨gk,1,none⟩=some (.string ⟨#[]⟩):=(hkb.cell 1).trans (hkr 0 _ (by rw[gM,aXF];rfl) 1 _ rfl);have b6:w2.cell? ⟨gk,6,none⟩=some (.int .i64 2):=(hkb.cell 6).trans (hkr 3 _ (by rw[gM,aXG];rfl) 0 _ rfl);have b7:w2.cell? ⟨gk,7,none⟩=some (.string ⟨#[]⟩):=(hkb.cell 7).trans (hkr 3 _ (by rw[gM,aXG];rfl) 1 _ rfl);have a7:=hkb.lt;have H2:=jj8 b0 a5 c8 a0 b4 b5 b6 b7;clear k0 k1 k2 ik ic c0 c1 c2 c3 c4 c5 c6 c7 a9 hkb hkr hkn hkm hks hb2 HA b4 b5 b6 b7 b0 c8 a0;have c9:w2.cell? b1=some (.slice a1 n1 x1):=(a5.1).cell 0;have d0:w2.cell? ⟨b1,1,none⟩=some (.slice a2 n2 x2):=(a5.1).cell 1;have d1:w2.cell? ⟨b1,2,none⟩=some (.slice a3 n3 x3):=(a5.1).cell 2;have b8:=(a5.1).lt;have b9:=(a5.2).lt;have d2:w2.cell? ⟨b1+1,0,none⟩=some (.int .i64 0):=(a5.2).cell 0;have d3:w2.cell? ⟨b1+1,1,none⟩=some (.int .i64 0):=(a5.2).cell 1;have d4:w2.cell? ⟨b1+1,2,none⟩=some (.int .i64 0):=(a5.2).cell 2;have d5:w2.cell? ⟨b1+1,3,none⟩=some (.int .i64 0):=(a5.2).cell 3;have d6:w2.cell? ⟨b1+1,4,none⟩=some (.int .i64 0):=(a5.2).cell 4;have d7:w2.cell? ⟨b1+1,5,none⟩=some (.string ⟨#[47,97]⟩):=(a5.2).cell 5;have d8:w2.cell? ⟨b1+1,6,none⟩=some (.string ⟨#[]⟩):=(a5.2).cell 6;have d9:w2.cell? ⟨b1+1,7,none⟩=some (.string ⟨#[]⟩):=(a5.2).cell 7;clear a5;have b2:∀ww,Below ((w2.alloc (.cells #[.int .i64 0,.int .i64 0,.int .i64 0,.int .i64 0,.int .i64 0,.string ⟨#[47,97]⟩,.string ⟨#[]⟩,.string ⟨#[]⟩,.int .i64 2,.int .i64 1,.int .i64 0,.int .i64 0,.int .i64 0,.string ⟨#[47,97]⟩,.string ⟨#[]⟩,.string ⟨#[]⟩] 28)).alloc (.cells #[.int .i64 1] 3)).heap.size ((w2.alloc (.cells #[.int .i64 0,.int .i64 0,.int .i64 0,.int .i64 0,.int .i64 0,.string ⟨#[47,97]⟩,.string ⟨#[]⟩,.string ⟨#[]⟩,.int .i64 2,.int .i64 1,.int .i64 0,.int .i64 0,.int .i64 0,.string ⟨#[47,97]⟩,.string ⟨#[]⟩,.string ⟨#[]⟩] 28)).alloc (.cells #[.int .i64 1] 3)) ww->Calls prog 23 #[.agg #[.slice a1 n1 x1,.slice a2 n2 x2,.slice a3 n3 x3],.slice w2.heap.size 2 2,.slice (some ⟨w2.heap.size+1,0,none⟩) 1 1] ww λe w'=>Below ww.heap.size ww w'/\∃g,e=.returned (.slice (some ⟨g,0,none⟩) 2 2)/\ww.heap.size<=g/\Blk w' g (dV [true,true]) 4:=λww hb=>by have e2:=(bel w2 ((w2.alloc (.cells #[.int .i64 0,.int .i64 0,.int .i64 0,.int .i64 0,.int .i64 0,.string ⟨#[47,97]⟩,.string ⟨#[]⟩,.string ⟨#[]⟩,.int .i64 2,.int .i64 1,.int .i64 0,.int .i64 0,.int .i64 0,.string ⟨#[47,97]⟩,.string ⟨#[]⟩,.string ⟨#[]⟩] 28)).alloc (.cells #[.int .i64 1] 3))).trans (hb.mono (bel w2 _).size);have h1:RowAt ww 8 (.slice w2.heap.size 2 2) ([cA,cB].map PCall.cells):=dD (t:=28) ((((Blk.new w2 #[.int .i64 0,.int .i64 0,.int .i64 0,.int .i64 0,.int .i64 0,.string ⟨#[47,97]⟩,.string ⟨#[]⟩,.string ⟨#[]⟩,.int .i64 2,.int .i64 1,.int .i64 0,.int .i64 0,.int .i64 0,.string ⟨#[47,97]⟩,.string ⟨#[]⟩,.string ⟨#[]⟩] 28).alloc _).below hb (by simp;omega))) rfl (by decide) (aLI (r:=cA.cells) (s:=cB.cells) rfl rfl);have h2:RowAt ww 1 (.slice (some ⟨w2.heap.size+1,0,none⟩) 1 1) (([1]:List Int).map aJ):=dD (t:=3) ((Blk.new_i (w2.alloc (.cells #[.int .i64 0,.int .i64 0,.int .i64 0,.int .i64 0,.int .i64 0,.string ⟨#[47,97]⟩,.string ⟨#[]⟩,.string ⟨#[]⟩,.int .i64 2,.int .i64 1,.int .i64 0,.int .i64 0,.int .i64 0,.string ⟨#[47,97]⟩,.string ⟨#[]⟩,.string ⟨#[]⟩] 28)) #[.int .i64 1] 3 _).below hb (by simp)) rfl (by decide) (kD rfl);have:=aBQ _ _ _ (kP 2) [cA,cB] [1] _ _ ww (H2.out.2.2.1.below e2 (zC _)) aIX h1 (by decide) (by decide) h2 (by decide) (by decide);rw[aFY,aYK]at this;exact this
 go_upto_region 5 with(go_at_call 23;refine(b2 _ (bel _ _)).mono ?_;rintro e w5 ⟨hb5,g5,rfl,hg5,hi5⟩)
 have a4:Below w2.heap.size w2 w5:=(bel w2 ((w2.alloc (.cells #[.int .i64 0,.int .i64 0,.int .i64 0,.int .i64 0,.int .i64 0,.string ⟨#[47,97]⟩,.string ⟨#[]⟩,.string ⟨#[]⟩,.int .i64 2,.int .i64 1,.int .i64 0,.int .i64 0,.int .i64 0,.string ⟨#[47,97]⟩,.string ⟨#[]⟩,.string ⟨#[]⟩] 28)).alloc (.cells #[.int .i64 1] 3))).trans (hb5.mono (bel w2 ((w2.alloc (.cells #[.int .i64 0,.int .i64 0,.int .i64 0,.int .i64 0,.int .i64 0,.string ⟨#[47,97]⟩,.string ⟨#[]⟩,.string ⟨#[]⟩,.int .i64 2,.int .i64 1,.int .i64 0,.int .i64 0,.int .i64 0,.string ⟨#[47,97]⟩,.string ⟨#[]⟩,.string ⟨#[]⟩] 28)).alloc (.cells #[.int .i64 1] 3))).size);have b3:Below w.heap.size w w5:=H2.out.1.trans (a4.mono H2.out.1.size);have a6:Blk w5 b1 #[.slice a1 n1 x1,.slice a2 n2 x2,.slice a3 n3 x3] 26/\Blk w5 (b1+1) #[.int .i64 0,.int .i64 0,.int .i64 0,.int .i64 0,.int .i64 0,.string ⟨#[47,97]⟩,.string ⟨#[]⟩,.string ⟨#[]⟩] 28:=⟨H2.out.2.1.1.below a4 b8.lt,H2.out.2.1.2.below a4 b9.lt⟩;have e0:=H2.out.2.2.1.below a4 (zC _);have a0:=H2.out.2.2.2.1.below a4 (zC _);have b4:w5.cell? gk=some (.int .i64 (-1)):=(a4.cell (p:=gk) a7.lt).trans H2.out.2.2.2.2.1;have b5:w5.cell? ⟨gk,1,none⟩=some (.string ⟨#[]⟩):=(a4.cell (p:=⟨gk,1,none⟩) a7.lt).trans H2.out.2.2.2.2.2.1;have b6:w5.cell? ⟨gk,6,none⟩=some (.int .i64 2):=(a4.cell (p:=⟨gk,6,none⟩) a7.lt).trans H2.out.2.2.2.2.2.2.1;have b7:w5.cell? ⟨gk,7,none⟩=some (.string ⟨#[]⟩):=(a4.cell (p:=⟨gk,7,none⟩) a7.lt).trans H2.out.2.2.2.2.2.2.2;have e3:BlockLt gk w5:=⟨by have:=a7.lt;have:=a4.size;omega⟩;have e8:=hi5.lt;clear c9 d0 d1 b8 b9 d2 d3 d4 d5 d6 d7 d8 d9 b2 a7 hb5 H2 a4;have e1:RowAt w5 1 (.slice g5 2 2) (([true,true]:List Bool).map aO):=dD (t:=4) hi5 rfl (by decide) (aLI (r:=aO true) (s:=aO true) rfl rfl);have e4:vB w5 17 #[.slice gk 4 cap,.slice gk 4 cap] (.bool true):=λww hb=>by have:=vW ksA ksA _ _ ww (a0.below hb (zC _)) (a0.below hb (zC _));rw[aYI]at this;exact this
 have e5:∀b ww,Below w5.heap.size w5 ww->Blk ww b #[.int .i64 1,.string ⟨#[46]⟩] 61->vR ww 17 #[.slice gk 4 cap,.slice (some ⟨b,0,none⟩) 1 1] (.bool false):=λb ww hb hbk=>by have:=vW ksA [⟨1,⟨#[46]⟩⟩] _ _ ww (a0.below hb (zC _)) (dD (t:=61) hbk rfl (by decide) (kD (r:=PKey.cells ⟨1,⟨#[46]⟩⟩) rfl));rw[aYJ]at this;exact this
 have e6:∀b ww,Below w5.heap.size w5 ww->Blk ww b #[true,true] 4->vR ww 25 #[.slice g5 2 2,.slice (some ⟨b,0,none⟩) 2 2] (.bool true):=λb ww hb hbk=>pB [true,true] [true,true] _ _ ww (e1.below hb (zC _)) (dD (t:=4) hbk rfl (by decide) (aLI (r:=aO true) (s:=aO true) rfl rfl));have e7:∀b b' ww,Below w5.heap.size w5 ww->Blk ww b #[.int .i64 0,.int .i64 0,.int .i64 0,.int .i64 0,.int .i64 0,.string ⟨#[47,97]⟩,.string ⟨#[]⟩,.string ⟨#[]⟩] 28->Blk ww b' #[false] 4->vR ww 26 #[.agg #[.slice a1 n1 x1,.slice a2 n2 x2,.slice a3 n3 x3],.slice (some ⟨b,0,none⟩) 1 1,.slice (some ⟨b',0,none⟩) 1 1] (.bool true):=λb b' ww hb hbk hbk'=>by have:=aFM _ _ _ (kP 2) [cA] [false] _ _ ww (e0.below hb (zC _)) aIX (dD (t:=28) hbk rfl (by decide) (kD (r:=PCall.cells cA) rfl)) (by decide) (by decide) (dD (t:=4) hbk' rfl (by decide) (kD (r:=aO false) rfl)) (by decide);rw[aIW,aYL]at this;exact this
 have c9:w5.cell? b1=some (.slice a1 n1 x1):=(a6.1).cell 0;have d0:w5.cell? ⟨b1,1,none⟩=some (.slice a2 n2 x2):=(a6.1).cell 1;have d1:w5.cell? ⟨b1,2,none⟩=some (.slice a3 n3 x3):=(a6.1).cell 2;have b8:=(a6.1).lt;have b9:=(a6.2).lt;have d2:w5.cell? ⟨b1+1,0,none⟩=some (.int .i64 0):=(a6.2).cell 0;have d3:w5.cell? ⟨b1+1,1,none⟩=some (.int .i64 0):=(a6.2).cell 1;have d4:w5.cell? ⟨b1+1,2,none⟩=some (.int .i64 0):=(a6.2).cell 2;have d5:w5.cell? ⟨b1+1,3,none⟩=some (.int .i64 0):=(a6.2).cell 3;have d6:w5.cell? ⟨b1+1,4,none⟩=some (.int .i64 0):=(a6.2).cell 4;have d7:w5.cell? ⟨b1+1,5,none⟩=some (.string ⟨#[47,97]⟩):=(a6.2).cell 5;have d8:w5.cell? ⟨b1+1,6,none⟩=some (.string ⟨#[]⟩):=(a6.2).cell 6;have d9:w5.cell? ⟨b1+1,7,none⟩=some (.string ⟨#[]⟩):=(a6.2).cell 7;have u0:=aLL;have u1:∀w,(binOp .eql 61 (.agg #[.int .i64 (-1),.string ⟨#[]⟩]) (.agg #[.int .i64 (-1),.string ⟨#[]⟩])).run prog w=.ok (.bool true) w:=λw=>by have:=aFN ⟨-1,⟨#[]⟩⟩ ⟨-1,⟨#[]⟩⟩ w;rw[decide_eq_true rfl]at this;exact this
 have u2:∀w,(binOp .eql 61 (.agg #[.int .i64 2,.string ⟨#[]⟩]) (.agg #[.int .i64 2,.string ⟨#[]⟩])).run prog w=.ok (.bool true) w:=λw=>by have:=aFN ⟨2,⟨#[]⟩⟩ ⟨2,⟨#[]⟩⟩ w;rw[decide_eq_true rfl]at this;exact this
 have HB:=aC b3;clear b3 a6 e0 a0 e1 hi5 hg5;go_wp2_with(first|(go_at_call 17;with_reducible refine aE (e4 _ (bel _ _)) λp=>?_)|(go_at_call 17;with_reducible refine aE (e5 _ _ (bel _ _) (by exact Blk.new_i _ _ _ _)) λp=>?_)|(go_at_call 25;refine aE (e6 _ _ (bel _ _) (by exact Blk.new_i _ _ _ _)) λp=>?_)|(go_at_call 26;refine aE (e7 _ _ _ (bel _ _) (by repeat(first|exact Blk.new_i _ _ _ _|refine Blk.alloc ?_ _)) (by repeat(first|exact Blk.new_i _ _ _ _|refine Blk.alloc ?_ _))) λp=>?_)|(go_at_call 35;refine aE (bBI _ _) λp=>?_));go_ret;exact⟨rfl,HB.out.trans ((bel w5 _).mono HB.out.size)⟩
end
section
def Lent (B:Nat) (w:World) (e:TypeId) (k:Nat) (v:Value) (rows marks:List (List Value)):Prop:=
 ∃g cap,v=.slice (some ⟨g,0,none⟩) rows.length cap/\rows.length+marks.length<=cap/\OwnP B w e k (.slice (some ⟨g,0,none⟩) (rows.length+marks.length) cap) (rows++marks)
variable {B k:Nat} {e:TypeId} {marks rows:List (List Value)} {v:Value} {w w':World}
theorem Lent.below (h:Lent B w e k v rows marks) (hb:Bl w w'):Lent B w' e k v rows marks:=by obtain⟨g,cap,h1,h2,h3⟩:=h;exact⟨g,cap,h1,h2,h3.below hb⟩
theorem Lent.keep {S:Nat->Prop} (h:Lent B w e k v rows marks) (hk:Keep S w w') (hn:∀g,v.ownBlock=some g->¬S g):Lent B w' e k v rows marks:=by obtain⟨g,cap,rfl,h2,h3⟩:=h;exact⟨g,cap,rfl,h2,h3.keep hk (λg' hg=>hn g' hg)⟩
theorem Lent.row (h:Lent B w e k v rows marks):RowAt w k v rows:=by obtain⟨g,cap,rfl,h2,h3⟩:=h;have:=h3.row.pre rows.length (by simp);rw[take_left]at this;exact this
end
theorem cv1 (w:World) (g cap:Nat) (n:Nat) (hn:n<256) (h:w.cell? g=some (.int .u8 (n:Int))):(convert 147 9 (.slice g 1 cap)).run prog w=.ok (.string ⟨#[UInt8.ofNat n]⟩) w:=by
 refine Lib.run_convert_whole (P:=prog) w 147 5 9 underlying147 underlying5 underlying9 g 0 ⟨#[UInt8.ofNat n]⟩ (λi hi=>?_) cap;have a0:i<1:=hi
 have:i=0:=by omega
 subst this;rw[zM,h];congr 2;show(n:Int)=((UInt8.ofNat n).toNat:Int);rw[UInt8.toNat_ofNat_of_lt' (by omega)]
theorem bBE {w:World} {ops:Array Oper} {rest:List Oper} {o:Oper} {a:Act} {Q:Exit->Act->World->Prop} (hgd:o.guard=none) (s y:Operand)
 (hop:o.op=.call { callee:=.builtin .append,args:=#[s,y],argTypes:=#[147,147]}) (B:Nat) (v:Value) (n:Int) (hs:a.eval s=v) (hy:a.eval y=.slice none 0 0) (ho:OwnP B w 5 1 v [[.int .u8 n]]) (hB:B<=w.heap.size)
 (h:∀v' w',Grew B 5 1 w v [[.int .u8 n]] v' w'->wpList prog ops Q rest (a.put o.dst v') w'):
 wpList prog ops Q (o::rest) a w:=by
 obtain⟨i,hi,hz,h1,h2⟩:=info_parts aEY;refine jR w hgd s y 147 hop B 5 1 1 i _ underlying147 hi hz h1 h2 rfl (by decide) v (.slice none 0 0) [[.int .u8 n]] [] hs hy (by simp) (by simp) (by simp) ho (OwnP.row (B:=0) (e:=5) (.inl ⟨rfl,rfl⟩)) (by unfold maxLen;simp) (by simp) hB (λv' w' hg=>h v' w' (by simpa using hg))
def aXN (v:Value):Nat:=match v with|.slice none _ _=>1|_=>0
theorem aPQ (i:Int) (h0:0<=i) (hi:i<8) (w:World):vR w 86 #[.int .i64 i] (.string ⟨#[UInt8.ofNat (48+i.toNat)]⟩):=by
 obtain⟨k,hk⟩:∃k:Nat,48+i.toNat=k:=⟨_,rfl⟩;rw[hk];have h8:(i=0/\(k:Int)=48)\/(i=1/\(k:Int)=49)\/(i=2/\(k:Int)=50)\/(i=3/\(k:Int)=51)\/(i=4/\(k:Int)=52)\/(i=5/\(k:Int)=53)\/(i=6/\(k:Int)=54)\/(i=7/\(k:Int)=55):=by omega
 have a0:k<256:=by omega
 obtain⟨vi,hvi⟩:∃v,v=Value.int .u64 i:=⟨_,rfl⟩;clear h0 hi hk;rcases h8 with⟨rfl,h⟩|⟨rfl,h⟩|⟨rfl,h⟩|⟨rfl,h⟩|⟨rfl,h⟩|⟨rfl,h⟩|⟨rfl,h⟩|⟨rfl,h⟩
 all_goals
  have HK:=eH h hvi a0;clear h hvi a0;unfold vR;go_in;go_wp2
  go_loopw[3,4] (λvn vs wr=>Bl w wr/\((vn=vi/\vs=.slice none 0 0)\/(vn=.int .u64 0/\∃g cap,vs=.slice (some ⟨g,0,none⟩) 1 cap/\wr.cell? ⟨g,0,none⟩=some (.int .u8 (k:Int))/\BlockLt g wr))) (λ_ vs _=>aXN vs)
  case atStart=>exact⟨bel w _,.inl ⟨by rw[HK.out.2.1],rfl⟩⟩
  obtain⟨hb,⟨rfl,rfl⟩|⟨rfl,g,cap,rfl,hc,hg⟩⟩:=hrel
  .obtain rfl:=HK.out.2.1;have iB:Bel w wr:=⟨hb⟩
   have HB:=aC hb;have a1:=hb.size;clear hb;go_wp2_with(at_builtin;refine bBE rfl _ _ rfl w.heap.size (.slice wr.heap.size 1 1) k rfl rfl (.inr ⟨_,1,#[.int .u8 (k:Int)],rfl,a1,by rw[HK.out.1];exact Blk.new _ _ _,zC _,by decide,rfl,kD (r:=[_]) rfl⟩) (by simp;omega) ?_);intro v' w2 hG;obtain⟨ho2,a0,-⟩:=hG;have a2:Bl w w2:=((bel w wr).trans ((bel wr (wr.alloc (.cells _ 5))).mono a1)).trans (a0.below (by simp;omega) (λx hx hg=>by
    have:wr.heap.size=x:=by simpa[Value.ownBlock]using hg
    omega))
   rcases ho2 with⟨-,e⟩|⟨g,cap,arr,he,hg,hbk,hn,hm,hs,hr⟩
   .cases e
   have he:v'=.slice g 1 cap:=he;subst he;have a3:w2.cell? g=some (.int .u8 (k:Int)):=by rw[hbk.cell];exact hr 0 _ rfl 0 _ rfl
   have HX:=eH a2 a3 hbk.lt;clear a2 a3 hbk hr hs a0 hn;go_wp2;go_roundw
   case rel=>exact⟨HX.out.1,.inr ⟨by first|rfl|go_num,g,cap,rfl,HX.out.2.1,HX.out.2.2⟩⟩
   simp[aXN]
  have iB:Bel w wr:=⟨hb⟩;have a4:=cv1 wr g cap k HK.out.2.2 hc;clear hb hc;go_wp2;go_ret;exact gAC
theorem aTX (n:ByteArray):∃i:Nat,bA n=i/\i<8/\((⟨#[47]⟩:ByteArray)++⟨#[UInt8.ofNat (48+i)]⟩)=cG n:=by have h0:0<=aV n/\aV n<8:=gS n;obtain⟨i,hi⟩:∃i:Nat,aV n=i:=⟨(aV n).toNat,by omega⟩;refine⟨i,by rw[nN];exact hi,by omega,?_⟩;unfold cG;rw[hi,zJ];rfl
theorem aWR (d:Int) (nm:ByteArray) (hn:nm.size<=1000000) (w:World):vR w 47 #[.int .i64 d,.string nm] (.agg #[d,.string (cG nm)]):=by
 have a1:=λww=>sU nm (by omega) ww;obtain⟨i,h1,h2,h3⟩:=aTX nm;have a0:=λww=>aPQ i (by omega) (by omega) ww;rw[zJ]at a0;rw[h1]at a1;obtain⟨u,hu⟩:∃u,u=(⟨#[UInt8.ofNat (48+i)]⟩:ByteArray):=⟨_,rfl⟩;rw[<-hu]at a0 h3;have a2:u.size=1:=by rw[hu];rfl
 clear hu;unfold vR;go_in;go_wp2_with(first|(go_at_call 87;refine aE (a1 _) λp=>?_)|(go_at_call 86;refine aE (a0 _) λp=>?_));refine xD (v:=.agg #[d,.string (cG nm)]) (by rw[<-h3];simp[results,Tryz.results47,go_sem]) rfl ⟨rfl,bel _ _⟩
section
section
variable {α:Type} (cells:α->List Value) (n e k:Nat)
def aGJ:Prop:=∀(us:List α) (va:Value) (w:World),RowAt w k va (us.map cells)->us.length<=1000000000->Calls prog n #[va] w λx w'=>Bl w w'/\∃v,x=.returned v/\OwnP w.heap.size w' e k v (us.map cells)
def aGK (ms:List α):Prop:=∀m,m=ms->∀(us:List α) (va:Value) (w:World),RowAt w k va (us.map cells)->us.length<=1000000000->Calls prog n #[va] w λx w'=>Bl w w'/\∃v,x=.returned v/\Lent w.heap.size w' e k v (us.map cells) (m.map cells)
def aGL:Prop:=∀(us:List α) (va vb:Value) (w:World),RowAt w k va (us.map cells)->RowAt w k vb (us.map cells)->Calls prog n #[va,vb] w λx w'=>x=.returned (.bool true)/\Bl w w'
def aGM (ms:List α):Prop:=∀(B:Nat) (us:List α) (va vb:Value) (w:World),Lent B w e k va (us.map cells) (ms.map cells)->RowAt w k vb (us.map cells)->us.length<=1000000000->Calls prog n #[va,vb] w λx w'=>x=.returned (.bool true)/\Bl w w'
end
def mK:List PKey:=[⟨77777,⟨#[]⟩⟩,⟨77777,⟨#[]⟩⟩]
def mD:List PDesc:=[⟨77777,0,0⟩,⟨77777,0,0⟩]
def mE:List PEnt:=[⟨⟨#[126]⟩,0⟩,⟨⟨#[126]⟩,0⟩]
def mI:List Int:=[-7777,-8888]
def mC:List PCall:=[⟨77777,0,0,0,0,⟨#[]⟩,⟨#[]⟩,⟨#[]⟩⟩,⟨77777,0,0,0,0,⟨#[]⟩,⟨#[]⟩,⟨#[]⟩⟩]
theorem aYS:(prog.info? 28).map (λi=>(i.zero,i.size,i.bytes))=some (some (.agg #[.int .i64 0,.int .i64 0,.int .i64 0,.int .i64 0,.int .i64 0,.string ⟨#[]⟩,.string ⟨#[]⟩,.string ⟨#[]⟩]),8,88):=by kernel_rfl
theorem aON (l:List PCall):∀cs∈l.map PCall.cells,cs.length=8:=λcs h=>by obtain⟨r,_,rfl⟩:=mem_map.1 h;rfl
theorem aOO (l:List PCall):∀cs∈l.map PCall.cells,∀u∈cs,u.oneCell'=true:=λcs h=>by obtain⟨r,_,rfl⟩:=mem_map.1 h;simp[PCall.cells,Value.oneCell']
theorem aXI:aEX PCall.cells 38 28 8:=vA aYS underlying38 rfl (by decide) (by decide) aON aOO
theorem aMA (w:World) (e k:Nat):OwnP w.heap.size (w.alloc (.cells #[] e)) e k (.slice w.heap.size 0 0) []:=.inr ⟨_,0,#[],rfl,zC _,Blk.new _ _ _,zC _,by decide,by simp,λq cs hq=>by simp at hq⟩
theorem xG:aGJ PKey.cells 38 61 2/\aGJ PDesc.cells 66 95 3/\aGJ PEnt.cells 67 97 2/\aGJ aJ 53 3 1/\aGJ PCall.cells 52 28 8:=by
 refine⟨have a0:=@oV;?_,have a0:=@nG;?_,have a0:=@sP;?_,have a0:=@aWQ;?_,have a0:=@aXI;?_⟩
 all_goals
  intro us va w ha hl;have HO:=bJ ha hl;have a2:=ha.one;obtain⟨aa,na,ca,rfl⟩:∃a n c,va=.slice a n c:=by obtain⟨a,c,h,-⟩:=ha;exact⟨a,_,c,h⟩
  clear ha
  go_in
  go_wp2_with(at_builtin;refine a0 rfl _ _ rfl w.heap.size (.slice w.heap.size 0 0) (.slice aa na ca) [] us rfl rfl (aMA w _ _) (HO.out.1.below (bel w _) (zC _)) (by have:=HO.out.2;simp;omega) (by simp) ?_);intro v2 w2 hG2;have a1:=(bel w (w.alloc (.cells #[] _))).trans (hG2.2.1.below (by simp) (λi hi hg=>by
   have:w.heap.size=i:=by simpa[Value.ownBlock]using hg
   omega))
  obtain⟨ho2,-,-⟩:=hG2;obtain⟨av2,nv2,cv2,rfl⟩:=ho2.form;have H2:=bJ ho2 a1;clear ho2 a1;go_wp2;go_ret;exact⟨H2.out.2,_,rfl,H2.out.1⟩
theorem aGN:aGK PKey.cells 11 61 2 mK/\aGK PDesc.cells 36 95 3 mD/\aGK PEnt.cells 37 97 2 mE/\aGK aJ 22 3 1 mI/\aGK PCall.cells 21 28 8 mC:=by
 refine⟨have a0:=@oV;have cp:=xG.1;?_,have a0:=@nG;have cp:=xG.2.1;?_,have a0:=@sP;have cp:=xG.2.2.1;?_,have a0:=@aWQ;have cp:=xG.2.2.2.1;?_,have a0:=@aXI;have cp:=xG.2.2.2.2;?_⟩
 all_goals
  intro m hm us va w ha hl;have a2:m.length=2:=by rw[hm];rfl
  have HM:=aC hm;clear hm;have a3:=cp us va w ha hl;obtain⟨aa,ca,rfl,-⟩:=ha;rw[lM]at a3 |-;clear cp
  go_in
  go_wp2_with(first|((first|go_at_call 38|go_at_call 66|go_at_call 67|go_at_call 53|go_at_call 52);refine a3.mono ?_;rintro e w1 ⟨hb1,v1,rfl,ho1⟩;have a6:=ho1.row.one;obtain⟨a1,n1,c1,rfl⟩:=ho1.form)|(at_builtin;refine a0 rfl _ _ rfl w.heap.size (.slice a1 n1 c1) (.slice w1.heap.size 2 2) us m rfl rfl (ho1.below (bel w1 _)) (by rw[HM.out];exact dD (Blk.new w1 _ _) rfl (by decide) (aLI rfl rfl)) (by omega) (by have:=hb1.size;simp;omega) ?_));intro v2 w2 hG2;have a4:=(hb1.trans ((bel w1 (w1.alloc _)).mono hb1.size)).trans (hG2.2.1.below (by have:=hb1.size;simp;omega) (λi hi hg=>by have:=ho1.ge hg;omega));obtain⟨ho2,-,-⟩:=hG2
  (try rw[yS]at ho2)
  have a5:=ho2;rcases ho2 with⟨-,e⟩|⟨g,cap,arr,rfl,hg,hbk,hn,hm,hs,hr⟩
  .have:=congrArg List.length e;simp[a2]at this
  have a7:us.length+2<=cap:=by simpa[a2]using hn
  have HX:=bJ a5 a4;clear a5 a4 hbk hs hr hn ho1 a6 hb1 a0;simp only[lP,lM,a2]at HX |-;have a8:(us.length:Int)<=cap:=by omega
  go_wp2;go_ret;refine⟨HX.out.2,.slice g us.length cap,rfl,g,cap,by rw[lM],by rw[lM,lM,a2];exact a7,?_⟩;have:=HX.out.1;simpa[a2]using this
theorem aGO:aGL PKey.cells 14 2/\aGL PDesc.cells 88 3/\aGL PEnt.cells 89 2/\aGL aJ 57 1/\aGL PCall.cells 56 8:=by
 refine⟨have ne:=λx:PKey=>λw=>(aSU x.num x.name w).2;?_,have ne:=λx:PDesc=>λw=>(aSR x.core x.fd x.num w).2;?_,have ne:=λx:PEnt=>λw=>(aSS x.name x.num w).2;?_,have ne:=λx:Int=>trivial;?_,have ne:=fun(x:PCall) w=>(aST x.kind x.core x.fd x.off x.num x.path x.path2 x.data w).2;?_⟩
 all_goals
  intro us va vb w ha hb;have a0:us.length<=9223372036854775807:=by obtain⟨_,_,_,h,_⟩:=ha;rw[lM]at h;exact h
  obtain⟨aa,ca,rfl,hata⟩:=ha.at_;obtain⟨ab,cb,rfl,hatb⟩:=hb.at_;rw[lM];have HA:=bJ hata hatb;have a1:((us.length:Int) !=us.length)=false:=by simp
  clear hata hatb ha hb
  go_in
  go_wp2
  go_loopw[5] (λvi wr=>∃q:Nat,vi=.int .i64 q/\q<=us.length/\Bl w wr) (λvi _=>(us.length-intOf vi).toNat)
  case atStart=>exact⟨0,rfl,by omega,bel _ _⟩
  obtain⟨q,rfl,hq,hbr⟩:=hrel;have iB:Bel w wr:=⟨hbr⟩;by_cases hlt:q<us.length
  .obtain⟨x,hx⟩:=gAA hlt
   obtain⟨be,offe,rfl,iE0,iE,hce⟩:=HA.out.1 wr hbr q _ (by rw[gM,hx];rfl);obtain⟨bf,offf,rfl,iF0,iF,hcf⟩:=HA.out.2 wr hbr q _ (by rw[gM,hx];rfl);have e0:=hce 0 _ rfl;have f0:=hcf 0 _ rfl
   (try have e1:=hce 1 _ rfl)
   (try have f1:=hcf 1 _ rfl)
   (try have e2:=hce 2 _ rfl)
   (try have f2:=hcf 2 _ rfl)
   (try have e3:=hce 3 _ rfl)
   (try have f3:=hcf 3 _ rfl)
   (try have e4:=hce 4 _ rfl)
   (try have f4:=hcf 4 _ rfl)
   (try have e5:=hce 5 _ rfl)
   (try have f5:=hcf 5 _ rfl)
   (try have e6:=hce 6 _ rfl)
   (try have f6:=hcf 6 _ rfl)
   (try have e7:=hce 7 _ rfl)
   (try have f7:=hcf 7 _ rfl)
   rw[zN]at e0 f0
   (try rw[Nat.mul_one]at e0 f0)
   have g1:(q:Int)<us.length:=by omega
   have n1:=ne x;clear hce hcf hx ne;go_wp2;refine qR ?_
   repeat(go_big_quiet_step (fail))
   refine QN λp=>?_;go_wp2;go_roundw
   case rel=>exact⟨q+1,by go_num,by omega,bel _ _⟩
   simp[intOf];omega
  have g1:¬(q:Int)<us.length:=by omega
  go_wp2;go_ret;exact gAC
theorem uT {α:Type} (cells:α->List Value) (us:List α) (x y:α):(us.map cells++[x,y].map cells)[us.length]? =some (cells x):=by simp
theorem uU {α:Type} (cells:α->List Value) (us:List α) (x y:α):(us.map cells++[x,y].map cells)[us.length+1]? =some (cells y):=by simp
theorem aGP:aGM PKey.cells 19 61 2 mK/\aGM PDesc.cells 48 95 3 mD/\aGM PEnt.cells 49 97 2 mE/\aGM aJ 29 3 1 mI/\aGM PCall.cells 28 28 8 mC:=by
 refine⟨have eq:=λw=>(aSU 77777 ⟨#[]⟩ w).1;have sm:=aGO.1;?_,have eq:=λw=>(aSR 77777 0 0 w).1;have sm:=aGO.2.1;?_,have eq:=λw=>(aSS ⟨#[126]⟩ 0 w).1;have sm:=aGO.2.2.1;?_,have eq:=trivial;have sm:=aGO.2.2.2.1;?_,have eq:=λw=>(aST 77777 0 0 0 0 ⟨#[]⟩ ⟨#[]⟩ ⟨#[]⟩ w).1;have sm:=aGO.2.2.2.2;?_⟩
 all_goals
  intro B us va vb w h hb hl;have a1:=h.row;have a0:=fun(ww:World) (hb':Bl w ww)=>sm us va vb ww (a1.below hb' (zC _)) (hb.below hb' (zC _));obtain⟨ab,cb,rfl,-⟩:=hb;obtain⟨g,cap,rfl,hcap,ho⟩:=h;rcases ho with⟨h0,-⟩|⟨g',cap',arr,he,hg,hbk,hn,hm,hs,hr⟩
  .cases h0
  simp only[zO,zF,yG,and_true]at he;obtain⟨rfl,-,rfl⟩:=he;have a2:us.length+2<=cap:=by rw[lM]at hcap;exact hcap
  simp only[lM]at a0 |-;have iG:=hbk.lt;have a3:=(hbk.cell _).trans (hr us.length _ (uT _ us _ _) 0 _ rfl);have a4:=(hbk.cell _).trans (hr (us.length+1) _ (uU _ us _ _) 0 _ rfl)
  (try have a5:=(hbk.cell _).trans (hr us.length _ (uT _ us _ _) 1 _ rfl))
  (try have a6:=(hbk.cell _).trans (hr (us.length+1) _ (uU _ us _ _) 1 _ rfl))
  (try have a7:=(hbk.cell _).trans (hr us.length _ (uT _ us _ _) 2 _ rfl))
  (try have a8:=(hbk.cell _).trans (hr (us.length+1) _ (uU _ us _ _) 2 _ rfl))
  (try have a9:=(hbk.cell _).trans (hr us.length _ (uT _ us _ _) 3 _ rfl))
  (try have b0:=(hbk.cell _).trans (hr (us.length+1) _ (uU _ us _ _) 3 _ rfl))
  (try have b1:=(hbk.cell _).trans (hr us.length _ (uT _ us _ _) 4 _ rfl))
  (try have b2:=(hbk.cell _).trans (hr (us.length+1) _ (uU _ us _ _) 4 _ rfl))
  (try have b3:=(hbk.cell _).trans (hr us.length _ (uT _ us _ _) 5 _ rfl))
  (try have b4:=(hbk.cell _).trans (hr (us.length+1) _ (uU _ us _ _) 5 _ rfl))
  (try have b5:=(hbk.cell _).trans (hr us.length _ (uT _ us _ _) 6 _ rfl))
  (try have b6:=(hbk.cell _).trans (hr (us.length+1) _ (uU _ us _ _) 6 _ rfl))
  (try have b7:=(hbk.cell _).trans (hr us.length _ (uT _ us _ _) 7 _ rfl))
  (try have b8:=(hbk.cell _).trans (hr (us.length+1) _ (uU _ us _ _) 7 _ rfl))
  rw[zN]at a3 a4
  (try rw[Nat.mul_one]at a3 a4)
  have w1:IntKind.i64.wrap ((us.length:Int)+2)=(us.length:Int)+2:=I64.wrap ⟨by omega,by omega⟩;have w2:IntKind.i64.wrap ((us.length:Int)+1)=(us.length:Int)+1:=I64.wrap ⟨by omega,by omega⟩;have g1:(us.length:Int)+2<=cap:=by omega
  clear hr hs hbk a1 hn sm hcap
  go_in
  go_wp2_with((first|go_at_call 14|go_at_call 88|go_at_call 89|go_at_call 57|go_at_call 56);refine aE (a0 _ (bel _ _)) λp=>?_);go_ret;exact gAC
end
section
variable {B b k q:Nat} {S:PSt} {W w w':World} {c c':Array Value} {e t:TypeId} {iv mv ov v vi:Value} {marks rows:List (List Value)} {p:Behind}
theorem Lent.ne_blk (h:Lent B w e k v rows marks) (hb:Blk w b c t) (hne:e≠t) {g:Nat} (hg:v.ownBlock=some g):g≠b:=by obtain⟨g',cap,rfl,_,ho⟩:=h;exact ho.ne_blk hb hne hg
theorem Lent.mono {B':Nat} (h:Lent B w e k v rows marks) (hb:B'<=B):Lent B' w e k v rows marks:=by obtain⟨g',cap,rfl,h2,ho⟩:=h;exact⟨g',cap,rfl,h2,ho.mono hb⟩
def aJH:List (List Value):=mE.map PEnt.cells
def aJI:List (List Value):=mD.map PDesc.cells
def aJJ:List (List Value):=mI.map aJ
def InsL (B:Nat) (w:World) (S:PSt) (q:Nat) (vi:Value):Prop:=∃is:List IRec,OwnP B w 68 4 vi (is.map IRec.cells)/\is.length=q/\∀(j:Nat) (r:IRec) (x:PIn),is[j]? =some r->S.ins[j]? =some x->r.num=x.num/\r.dir=x.dir/\r.data=x.data/\Lent B w 97 2 r.ev (x.ents.map PEnt.cells) aJH
theorem InsL.keep (h:InsL B w S q vi) (hk:Keep (λg=>g=b) w w') (hb:Blk w b c t) (h1:68≠t) (h2:97≠t) (hq:q<=S.ins.length):InsL B w' S q vi:=by obtain⟨is,ho,hl,hr⟩:=h;refine⟨is,ho.keep hk (λg hg=>ho.ne_blk hb h1 hg),hl,λj r x hj hx=>?_⟩;obtain⟨a1,a2,a3,a4⟩:=hr j r x hj hx;exact⟨a1,a2,a3,a4.keep hk (λg hg=>a4.ne_blk hb h2 hg)⟩
theorem InsL.below (h:InsL B w S q vi) (hb:Bl w w'):InsL B w' S q vi:=by obtain⟨is,ho,hl,hr⟩:=h;refine⟨is,ho.below hb,hl,λj r x hj hx=>?_⟩;obtain⟨a1,a2,a3,a4⟩:=hr j r x hj hx;exact⟨a1,a2,a3,a4.below hb⟩
def LS (B:Nat) (w:World) (iv ov mv:Value) (S:PSt):Prop:=Lent B w 95 3 ov (S.op.map PDesc.cells) aJI/\Lent B w 3 1 mv (S.made.map aJ) aJJ/\InsL B w S S.ins.length iv
theorem LS.below (h:LS B w iv ov mv S) (hb:Bl w w'):LS B w' iv ov mv S:=⟨h.1.below hb,h.2.1.below hb,h.2.2.below hb⟩
theorem LS.read (h:LS B w iv ov mv S):StRead w iv ov mv S:=by
 obtain⟨h1,h2,is,ho,hl,hr⟩:=h;exact⟨h1.row,h2.row,is,ho.row,hl,λq r x hq hx=>by
  obtain⟨a1,a2,a3,a4⟩:=hr q r x hq hx;exact⟨a1,a2,a3,a4.row⟩⟩
structure LJ (w:World) (iv ov mv:Value) (S:PSt) (g3:Nat) (ov' mv':Value) (q:Nat) (vi:Value) (wr:World):Prop where
 below:Bl w wr
 box:Blk wr w.heap.size #[iv,ov,mv] 26
 out:Blk wr (w.heap.size+1) #[.slice none 0 0,.slice none 0 0,.slice none 0 0] 26
 st:Blk wr g3 #[vi,ov',mv'] 26
 g3g:w.heap.size+2<=g3
 lo:Lent w.heap.size wr 95 3 ov' (S.op.map PDesc.cells) aJI
 lm:Lent w.heap.size wr 3 1 mv' (S.made.map aJ) aJJ
 ins:InsL w.heap.size wr S q vi
theorem LJ.later {g3:Nat} {ov' mv':Value} {wr:World} (h:LJ w iv ov mv S g3 ov' mv' q vi wr) (hb:Bl wr w'):LJ w iv ov mv S g3 ov' mv' q vi w':=
 ⟨h.below.trans (hb.mono h.below.size),h.box.below hb h.box.lt.lt,h.out.below hb h.out.lt.lt,h.st.below hb h.st.lt.lt,h.g3g,h.lo.below hb,h.lm.below hb,h.ins.below hb⟩
theorem pC (h:OwnP B ((W.alloc (.cells c 26)).junk p) e k v rows) (he:e≠26):OwnP B ((W.alloc (.cells c' 26)).junk p) e k v rows:=by
 rcases h with h|⟨g,cap,arr,rfl,hg,hb,r⟩
 .exact .inl h
 refine .inr ⟨g,cap,arr,rfl,hg,?_,r⟩;have a0:g≠W.heap.size:=hb.ne_ ((Blk.new W c 26).junk p) he;unfold Blk at hb |-;simp only[World.junk,World.alloc,Array.getElem?_append,Array.size_push,Array.getElem?_push,zA a0]at hb |-;exact hb
theorem tS (h:OwnP B ((W.alloc (.cells c 26)).drew.junk p) e k v rows) (he:e≠26):OwnP B ((W.alloc (.cells c' 26)).drew.junk p) e k v rows:=pC (W:=W) (p:=p) h he
theorem aYT (iv ov mv:Value) (S:PSt) (w:World) (h:StRead w iv ov mv S) (hwf:S.wf):
 Calls prog 10 #[.agg #[iv,ov,mv]] w λe w'=>Below w.heap.size w w'/\∃iv' ov' mv',e=.returned (.agg #[iv',ov',mv'])/\LS w.heap.size w' iv' ov' mv' S:=by
 have b3:=fun(ww:World) (hb:Below w.heap.size w ww)=>aGN.2.1 _ rfl S.op ov ww (h.1.below hb (zC _)) hwf.2.1;have b4:=fun(ww:World) (hb:Below w.heap.size w ww)=>aGN.2.2.2.1 _ rfl S.made mv ww (h.2.1.below hb (zC _)) hwf.2.2.1;obtain⟨ai,n0,ci,ao,no,co,am,nm',cm,e0,rfl,rfl⟩:=h.slices;subst e0;obtain⟨ax,cx,e1,hai⟩:=h.ins_at2;cases e1;have b8:=hwf.1;have a7:∀x∈S.ins,x.ents.length<=1000000000:=λx hx=>(hwf.2.2.2.1 x hx).2.1;obtain⟨i0,hi,hz0,hz1,hz2⟩:=info_parts wL;obtain⟨arr,hars,hmk⟩:∃arr:Array Value,arr.size=(S.ins.length+1)*4/\∀u:World,(Instr.makeSlice 22 (.int .i64 0) (.int .i64 ((S.ins.length:Int)+1))).run prog u=.ok (.slice u.heap.size 0 (S.ins.length+1)) (u.alloc (.cells arr 68)):=by
  have ht:((S.ins.length:Int)+1).toNat=S.ins.length+1:=by omega
  refine⟨madeCells (Value.agg #[.int .i64 0,false,.slice none 0 0,ByteArray.empty]).cells ((S.ins.length+1)*4),size_madeCells _ _,λu=>?_⟩;have:=run_make (P:=prog) u 22 68 i0 _ underlying22 hi hz0 .i64 .i64 0 ((S.ins.length:Int)+1) (by omega) (by omega) (by rw[hz2];omega) (by omega);rw[ht,hz1]at this;exact this
 have HI:=bJ hai a7;have HK:=aC hars;clear h hwf hai a7 hars hi hz0 hz1 hz2;go_in;go_upto_region 1 with fail;go_cut [3] (λv3 wx=>∃g ov' mv',v3=.pointer (some ⟨g,0,none⟩)/\w.heap.size+2<=g/\Below w.heap.size w wx/\Blk wx w.heap.size #[.slice ai S.ins.length ci,.slice ao no co,.slice am nm' cm] 26/\Blk wx (w.heap.size+1) #[.slice none 0 0,.slice none 0 0,.slice none 0 0] 26/\Blk wx g #[.slice none 0 0,ov',mv'] 26/\Lent w.heap.size wx 95 3 ov' (S.op.map PDesc.cells) aJI/\Lent w.heap.size wx 3 1 mv' (S.made.map aJ) aJJ)
 case first=>
  go_region_held3 (λw'=>w'.cell? ⟨w.heap.size,1,none⟩=some (.slice ao no co)/\w'.cell? ⟨w.heap.size,2,none⟩=some (.slice am nm' cm))
   (first|(try dsimp only)<;>(repeat' apply And.intro)<;>go_simp)
   (first|(go_at_call 36;refine(b3 _ (bel _ _)).mono ?_;rintro e w' ⟨hb,v36,rfl,hL36⟩;obtain⟨g36,n36,hv36,hh36⟩:=hL36;rw[lM]at hv36;subst hv36;have a9:=aC hh36;clear hh36;obtain⟨p36,rfl⟩:=hb.rest;clear hb)|(go_at_call 22;refine(b4 _ (bel _ _)).mono ?_;rintro e w' ⟨hb,v22,rfl,hL22⟩;obtain⟨g22,n22,hv22,hh22⟩:=hL22;rw[lM]at hv22;subst hv22;have a8:=aC hh22;clear hh22;obtain⟨p22,rfl⟩:=hb.rest;clear hb))
  all_goals go_wp2_with fail
  all_goals go_meet
  all_goals(refine ⟨_,.slice g36 S.op.length n36,.slice g22 S.made.length n22,rfl,by first|omega|(simp;omega),bel _ _,aB (Blk.new w #[.slice ai S.ins.length ci,.slice ao no co,.slice am nm' cm] 26) (bel _ _),aB (Blk.new_i (w.alloc (.cells #[.slice ai S.ins.length ci,.slice ao no co,.slice am nm' cm] 26)) #[.slice none 0 0,.slice none 0 0,.slice none 0 0] 26 (w.heap.size+1)) (bel _ _),?_,⟨g36,n36,by rw[lM],a9.out.1,?_⟩,⟨g22,n22,by rw[lM],a8.out.1,?_⟩⟩)
  all_goals first
   |((repeat (first|exact Blk.new_i _ _ _ _|refine Blk.alloc ?_ _|refine Blk.junk ?_ _|refine Blk.drew ?_));done)
   |exact(a9.out.2.below (bel _ _)).mono (by simp;omega)
   |exact(a8.out.2.below (bel _ _)).mono (by simp;omega)
   |(rw [<-World.junk_junk];exact(a9.out.2.below (bel _ _)).mono (by simp;omega))
   |(rw [<-World.junk_junk];exact(a8.out.2.below (bel _ _)).mono (by simp;omega))
   |(refine OwnP.mono (tS a8.out.2 (by decide)) ?_;simp;omega)
   |(have h0:=a8.out.2;rw[World.junk_junk]at h0;refine OwnP.mono (tS h0 (by decide)) ?_;simp;omega)
   |(have h:=tS a9.out.2 (c':=#[.slice none 0 0,.slice (some ⟨g36,0,none⟩) S.op.length n36,.slice (some ⟨g22,0,none⟩) S.made.length n22]) (by decide);rw[<-World.junk_junk];refine OwnP.mono (h.below (bel _ _)) ?_;simp;omega)
   |(refine OwnP.mono (pC a8.out.2 (by decide)) ?_;simp;omega)
   |(have h0:=a8.out.2;rw[World.junk_junk]at h0;refine OwnP.mono (pC h0 (by decide)) ?_;simp;omega)
   |(refine OwnP.mono (pC a9.out.2 (by decide)) ?_;simp;omega)
   |(have h:=pC a9.out.2 (c':=#[.slice none 0 0,.slice (some ⟨g36,0,none⟩) S.op.length n36,.slice (some ⟨g22,0,none⟩) S.made.length n22]) (by decide);rw[<-World.junk_junk];refine OwnP.mono (h.below (bel _ _)) ?_;simp;omega)
 obtain⟨g3,ov',mv',rfl,hg3,hbw,hb0,hb1,hst,hlo,hlm⟩:=hcut;have i0:=hb0.lt;have i1:=hb1.lt;have i3:=hst.lt;have k0:=hb0.cell 0;have s0:=hst.cell 0;simp only[yD,zH,zV]at k0 s0;have fz:=hst.frozen 0;have b0:=hbw.size;obtain⟨ap,no',co',rfl⟩:∃a n c,ov'=.slice a n c:=by obtain⟨g,cap,rfl,_⟩:=hlo;exact⟨_,_,_,rfl⟩
 obtain⟨aq,nm2,cm2,rfl⟩:∃a n c,mv'=.slice a n c:=by obtain⟨g,cap,rfl,_⟩:=hlm;exact⟨_,_,_,rfl⟩
 have b9:Bel w wc:=⟨hbw⟩;have HC:=jj7 hg3 hbw hb0 hb1 hst hlo hlm;clear hg3 hbw hb0 hb1 hst hlo hlm b3 b4;have w1:IntKind.i64.wrap ((S.ins.length:Int)+1)=(S.ins.length:Int)+1:=I64.wrap ⟨by omega,by omega⟩;go_upto_region 3 with fail;refine aD (F:=λW=>LJ w (.slice ai S.ins.length ci) (.slice ao no co) (.slice am nm' cm) S g3 (.slice ap no' co') (.slice aq nm2 cm2) 0 (.slice wc.heap.size 0 (S.ins.length+1)) W) ?_ ?_
 .obtain⟨hg3,hbw,hb0,hb1,hst,hlo,hlm⟩:=HC.out;have hK:Keep (λk=>k=g3) wc ((wc.setCell g3 (.slice wc.heap.size 0 (S.ins.length+1))).alloc (.cells arr 68)):=(Keep.setCell (S:=λk=>k=g3) (p:=g3) (Keep.refl _ _) (.inl rfl) _).alloc _;have c7:=hst.lt.lt;refine⟨hbw.trans (hK.below b0 (λi hi e=>by omega)),hK.blk hb0 (by omega),hK.blk hb1 (by omega),(hst.set_ 0 _).alloc _,hg3,hlo.keep hK (λg hg=>hlo.ne_blk hst (by decide) hg),hlm.keep hK (λg hg=>hlm.ne_blk hst (by decide) hg),[],.inr ⟨wc.heap.size,S.ins.length+1,arr,rfl,b0,Blk.new_i _ _ 68 _,by simp,by unfold maxLen;omega,HK.out,λq cs hq=>by simp at hq⟩,rfl,λj r x hj=>by simp at hj⟩
 intro wA hA;have HA:=aC hA;clear hA i0 i1 i3 k0 s0 fz b9 hmk;go_wp2
 go_loopw[4] (λvi wr=>∃(q:Nat) (v:Value),vi=.int .i64 q/\q<=S.ins.length/\LJ w (.slice ai S.ins.length ci) (.slice ao no co) (.slice am nm' cm) S g3 (.slice ap no' co') (.slice aq nm2 cm2) q v wr) (λvi _=>(S.ins.length-intOf vi).toNat)
 case atStart=>exact⟨0,_,rfl,by omega,HA.out⟩
 obtain⟨q,v,rfl,hq,hj⟩:=hrel;have i0:=hj.box.lt;have i1:=hj.out.lt;have i3:=hj.st.lt;have k0:=hj.box.cell 0;obtain⟨-,s0,s1,s2⟩:=gR hj.st;simp only[yD,zH,zV]at k0;have iB:Bel w wr:=⟨hj.below⟩;have b0:=hj.below.size;have c0:∃a n c,v=.slice a n c:=by obtain⟨is,a6,_⟩:=hj.ins;exact a6.form
 obtain⟨av,nv,cv,rfl⟩:=c0;by_cases hlt:q<S.ins.length
 .obtain⟨x,hx⟩:=gAA hlt
  obtain⟨bi,oi,ev,rfl,iI0,hone,hev,hci⟩:=HI.out.1 q x hx;obtain⟨iI,x0,x1,x2,x3⟩:=hci wr hj.below;have b6:=fun(ww:World) (hb:Below w.heap.size w ww)=>aGN.2.2.1 _ rfl x.ents ev ww (hev.below hb (zC _)) (HI.out.2 x (mG hx));obtain⟨ea,ec,rfl,-⟩:=hev.at_;simp only[lM]at b6 x2;have g1:(q:Int)<S.ins.length:=by omega
  have HJ:=bJ hj hx;clear hj hci hx hev;go_upto_region 8 with(go_at_call 37;refine(b6 _ (bel w _)).mono ?_;rintro e w3 ⟨hb3,v3,rfl,hL3⟩;obtain⟨g7,n7,hv7,hh7⟩:=hL3;rw[lM]at hv7;subst hv7;have H3:=aC hh7;clear hh7;obtain⟨p3,rfl⟩:=hb3.rest;clear hb3)
  refine aD (F:=λW=>LJ w (.slice (some ⟨bi,oi,none⟩) S.ins.length ci) (.slice ao no co) (.slice am nm' cm) S g3 (.slice ap no' co') (.slice aq nm2 cm2) q (.slice av nv cv) W/\Blk W wr.heap.size #[x.num,x.dir,.slice g7 x.ents.length n7,x.data] 68/\Lent w.heap.size W 97 2 (.slice g7 x.ents.length n7) (x.ents.map PEnt.cells) aJH/\Below wr.heap.size wr W) ?_ ?_
  .refine⟨HJ.out.1.later (bel wr _),(Blk.new wr _ 68).junk _,?_,bel wr _⟩;have hL:Lent w.heap.size ((wr.alloc (.cells #[x.num,x.dir,.slice ea x.ents.length ec,x.data] 68)).junk p3) 97 2 (.slice g7 x.ents.length n7) (x.ents.map PEnt.cells) aJH:=⟨g7,n7,by rw[lM],H3.out.1,H3.out.2.mono (by simp;omega)⟩
   have hB:=(Blk.new wr #[x.num,x.dir,.slice ea x.ents.length ec,x.data] 68).junk p3;have hK:Keep (λk=>k=wr.heap.size) ((wr.alloc (.cells #[x.num,x.dir,.slice ea x.ents.length ec,x.data] 68)).junk p3) (((wr.alloc (.cells #[x.num,x.dir,.slice ea x.ents.length ec,x.data] 68)).junk p3).setCell ⟨wr.heap.size,2,none⟩ (.slice g7 x.ents.length n7)):=Keep.setCell (S:=λk=>k=wr.heap.size) (p:=⟨wr.heap.size,2,none⟩) (Keep.refl _ _) (.inl rfl) _;have b7:=hL.keep hK (λg hg=>hL.ne_blk hB (by decide) hg);simp only[go_sem]at b7;exact b7
  intro wB hB;obtain⟨hjB,hr5,hL5,hbB⟩:=hB;generalize wr.heap.size=b5 at *;obtain⟨is,a6,hil,hir⟩:=hjB.ins;have i3:=hjB.st.lt;have s0:=hjB.st.cell 0;obtain⟨i5,r0,r1,r2,r3⟩:=bx4 hr5;simp only[yD,zH,zV]at s0;have c1:=hjB.below.size;have HB:=qM hjB a6 hil hir hL5;clear hjB a6 hil hir hL5 hr5 hbB;go_wp2_with(at_builtin;refine vC rfl _ _ rfl w.heap.size (.slice av nv cv) (.slice (some ⟨_,0,none⟩) 1 1) is [⟨x.num,x.dir,.slice g7 x.ents.length n7,x.data,rfl⟩] rfl (by go_simp) (HB.out.2.1.below (bel wB _)) (dD (t:=68) (Blk.new _ _ _) rfl (by decide) (kD rfl)) (by have:=HB.out.2.2.1;simp;omega) (by simp;omega) ?_);intro v' w2 hG;obtain⟨ho2,hk2,-⟩:=hG;have a5:=HB.out.1;have a6:=HB.out.2.1;have a0:Blk w2 g3 #[.slice av nv cv,.slice ap no' co',.slice aq nm2 cm2] 26:=hk2.blk (a5.st.alloc _) (λhg=>a6.ne_blk a5.st (by decide) hg rfl);obtain⟨a',n',c',rfl⟩:=ho2.form;have t0:=a0.cell 0;simp only[yD,zH,zV]at t0;have fz:=a0.frozen 0;have c8:=a0.lt;have H2:=eH ho2 hk2 a0;clear ho2 hk2 a0 a5 a6 r0 r1 r2 r3 s0 s1 s2 x0 x1 x2 x3 k0;go_wp2;go_roundw
  case rel=>
   obtain⟨ho2,hk2,a0⟩:=H2.out;obtain⟨a5,a6,hil,hir,hL5⟩:=HB.out;have b1:Keep (λk=>(Value.slice av nv cv).ownBlock=some k\/k=g3) wB (w2.setCell g3 (.slice a' n' c')):=Keep.setCell (S:=λk=>(Value.slice av nv cv).ownBlock=some k\/k=g3) (p:=g3) ((((Keep.refl (λk=>(Value.slice av nv cv).ownBlock=some k) wB).alloc _).trans hk2 (λ_ _ h=>h)).mono (λi _ h=>.inl h)) (.inl (.inr rfl)) _;have c2:Keep (λk=>k=g3) w2 (w2.setCell g3 (.slice a' n' c')):=Keep.setCell (S:=λk=>k=g3) (p:=g3) (Keep.refl _ _) (.inl rfl) _;have c3:=a5.g3g;have c4:∀k,(Value.slice av nv cv).ownBlock=some k->w.heap.size<=k:=λk hk=>a6.ge hk;have b2:∀(e:TypeId) (k:Nat) (v:Value) (r m:List (List Value)),Lent w.heap.size wB e k v r m->e≠68->e≠26->Lent w.heap.size (w2.setCell g3 (.slice a' n' c')) e k v r m:=λe k v r m h h1 h2=>h.keep b1 (λg hg hh=>by
    rcases hh with hh|hh
    .obtain⟨g',cap,rfl,_,ho⟩:=h;rcases a6 with⟨e0,_⟩|⟨g0,cap0,arr0,e0,_,hbk0,_⟩
     .rw[e0]at hh;cases hh
     rw[e0]at hh;cases hh;exact ho.ne_blk hbk0 h1 hg rfl
    exact h.ne_blk a5.st h2 hg hh)
   refine⟨q+1,_,by go_num,by omega,a5.below.trans (b1.below c1 (λk hk hh=>by rcases hh with hh|hh;(have:=c4 k hh;omega);omega)),b1.blk a5.box (λhh=>by rcases hh with hh|hh;exact a6.ne_blk a5.box (by decide) hh rfl;omega),b1.blk a5.out (λhh=>by rcases hh with hh|hh;exact a6.ne_blk a5.out (by decide) hh rfl;omega),a0.set_ 0 _,c3,b2 _ _ _ _ _ a5.lo (by decide) (by decide),b2 _ _ _ _ _ a5.lm (by decide) (by decide),is++[⟨x.num,x.dir,.slice g7 x.ents.length n7,x.data,rfl⟩],by rw[yS];exact ho2.keep c2 (λg hg=>ho2.ne_blk a0 (by decide) hg),by rw[lP,hil];rfl,λj r y hj hy=>?_⟩;rcases Nat.lt_or_ge j is.length with hj2|hj2
   .rw[zZ hj2]at hj;obtain⟨a1,a2,a3,a4⟩:=hir j r y hj hy;exact⟨a1,a2,a3,b2 _ _ _ _ _ a4 (by decide) (by decide)⟩
   rw[yC hj2]at hj;have c5:j=q:=by obtain⟨h,_⟩:=gI.1 hj;simp at h;omega
   subst c5;rw[HJ.out.2]at hy;cases hy;rw[show j-is.length=0 by omega]at hj;cases hj;exact⟨rfl,rfl,rfl,b2 _ _ _ _ _ hL5 (by decide) (by decide)⟩
  simp[intOf];omega
 have g1:¬(q:Int)<S.ins.length:=by omega
 have c6:q=S.ins.length:=by omega
 subst c6;have f0:=hj.out.frozen 0;have f1:=hj.out.frozen 1;have f2:=hj.out.frozen 2;obtain⟨-,z0,z1,z2⟩:=gR hj.out;have HJ:=aC hj;clear hj;go_wp2_with fail;refine xD (v:=.agg #[.slice av nv cv,.slice ap no' co',.slice aq nm2 cm2]) (by unfold results;simp only[results10];go_simp) rfl ?_;have hj:=HJ.out;have hK:Keep (λk=>k=w.heap.size+1) wr (((wr.setCell ⟨w.heap.size+1,0,none⟩ (.slice av nv cv)).setCell ⟨w.heap.size+1,1,none⟩ (.slice ap no' co')).setCell ⟨w.heap.size+1,2,none⟩ (.slice aq nm2 cm2)):=Keep.setCell (S:=λk=>k=w.heap.size+1) (p:=⟨w.heap.size+1,2,none⟩) (Keep.setCell (S:=λk=>k=w.heap.size+1) (p:=⟨w.heap.size+1,1,none⟩) (Keep.setCell (S:=λk=>k=w.heap.size+1) (p:=⟨w.heap.size+1,0,none⟩) (Keep.refl _ _) (.inl rfl) _) (.inl rfl) _) (.inl rfl) _;exact⟨hj.below.trans (hK.below b0 (λi hi e=>by omega)),_,_,_,rfl,hj.lo.keep hK (λg hg=>hj.lo.ne_blk hj.out (by decide) hg),hj.lm.keep hK (λg hg=>hj.lm.ne_blk hj.out (by decide) hg),hj.ins.keep hK hj.out (by decide) (by decide) (zC _)⟩
end
structure LV (w:World) (c d:Array Value) (wr:World):Prop where
 below:Bl w wr
 b0:Blk wr w.heap.size c 26
 b1:Blk wr (w.heap.size+1) d 26
theorem LV.later {w:World} {c d:Array Value} {wr w':World} (h:LV w c d wr) (hb:Bl wr w'):LV w c d w':=⟨h.below.trans (hb.mono h.below.size),h.b0.below hb h.b0.lt.lt,h.b1.below hb h.b1.lt.lt⟩
theorem aYP (B:Nat) (iv' ov' mv' iv ov mv:Value) (S:PSt) (w:World) (hl:LS B w iv' ov' mv' S) (h:StRead w iv ov mv S) (hwf:S.wf):
 vR w 15 #[.agg #[iv',ov',mv'],.agg #[iv,ov,mv]] (.bool true):=by
 have a1:=fun(ww:World) (hb:Bl w ww)=>aGP.2.1 _ S.op ov' ov ww (hl.1.below hb) (h.1.below hb (zC _)) hwf.2.1;have a2:=fun(ww:World) (hb:Bl w ww)=>aGP.2.2.2.1 _ S.made mv' mv ww (hl.2.1.below hb) (h.2.1.below hb (zC _)) hwf.2.2.1;have a5:=hwf.1;have a0:∀x∈S.ins,x.ents.length<=1000000000:=λx hx=>(hwf.2.2.2.1 x hx).2.1;obtain⟨hlo,hlm,is,hio,hil,hir⟩:=hl;have a3:=h;obtain⟨ai,n0,ci,ao,no,co,am,nm',cm,e0,rfl,rfl⟩:=h.slices;subst e0;obtain⟨ax,cx,e1,hai⟩:=a3.ins_at2;cases e1;obtain⟨ap,no',co',rfl,-⟩:∃a n c,ov'=.slice a n c/\True:=by obtain⟨g,cap,rfl,_⟩:=hlo;exact⟨_,_,_,rfl,trivial⟩
 obtain⟨aq,nm2,cm2,rfl,-⟩:∃a n c,mv'=.slice a n c/\True:=by obtain⟨g,cap,rfl,_⟩:=hlm;exact⟨_,_,_,rfl,trivial⟩
 obtain⟨aj,cj,rfl,haj⟩:=hio.row.at_;rw[lM,hil];have a7:((S.ins.length:Int) !=S.ins.length)=false:=by simp
 have HI:=qM hai haj a0 hil hir;clear h a3 hwf hai haj a0 hil hir hio hlo hlm;unfold vR;go_in;go_upto_region 3 with(first|(go_at_call 48;refine aE (a1 _ (bel _ _)) λp=>?_)|(go_at_call 29;refine aE (a2 _ (bel _ _)) λp=>?_))
 refine aD (F:=λW=>LV w #[.slice aj S.ins.length cj,.slice ap no' co',.slice aq nm2 cm2] #[.slice ai S.ins.length ci,.slice ao no co,.slice am nm' cm] W) ⟨bel w _,aB (Blk.new w #[.slice aj S.ins.length cj,.slice ap no' co',.slice aq nm2 cm2] 26) (bel _ _),aB (Blk.new_i (w.alloc (.cells #[.slice aj S.ins.length cj,.slice ap no' co',.slice aq nm2 cm2] 26)) #[.slice ai S.ins.length ci,.slice ao no co,.slice am nm' cm] 26 (w.heap.size+1)) (bel _ _)⟩ ?_;intro wA hA;have HA:=aC hA;clear hA a1 a2;go_wp2
 go_loopw[5] (λvi wr=>∃q:Nat,vi=.int .i64 q/\q<=S.ins.length/\LV w #[.slice aj S.ins.length cj,.slice ap no' co',.slice aq nm2 cm2] #[.slice ai S.ins.length ci,.slice ao no co,.slice am nm' cm] wr) (λvi _=>(S.ins.length-intOf vi).toNat)
 case atStart=>exact⟨0,rfl,by omega,HA.out⟩
 obtain⟨q,rfl,hq,hv⟩:=hrel;have k0:=hv.b0.cell 0;have k1:=hv.b1.cell 0;simp only[yD,zH,zV]at k0 k1;have i0:=hv.b0.lt;have i1:=hv.b1.lt;have iB:Bel w wr:=⟨hv.below⟩;have HV:=aC hv;by_cases hlt:q<S.ins.length
 .obtain⟨x,hx⟩:=gAA hlt
  obtain⟨r,hr⟩:∃r,is[q]? =some r:=⟨_,gE (by have:=HI.out.2.2.2.1;omega)⟩;obtain⟨bi,oi,ev,rfl,iI0,hone,hev,hci⟩:=HI.out.1 q x hx;obtain⟨iI,x0,x1,x2,x3⟩:=hci wr hv.below;obtain⟨r1,r2,r3,r4⟩:=HI.out.2.2.2.2 q r x hr hx;obtain⟨bj,oj,rfl,iJ0,iJ,hcj⟩:=HI.out.2.1 wr hv.below q r.cells (by rw[gM,hr];rfl);have y0:wr.cell? ⟨bj,oj+q*4+0,none⟩=some (.int .i64 x.num):=by rw[<-r1];exact hcj 0 _ rfl
  have y1:wr.cell? ⟨bj,oj+q*4+1,none⟩=some (.bool x.dir):=by rw[<-r2];exact hcj 1 _ rfl
  have y2:=hcj 2 _ rfl;have y3:wr.cell? ⟨bj,oj+q*4+3,none⟩=some (.string x.data):=by rw[<-r3];exact hcj 3 _ rfl
  rw[zN]at y0;have a6:=fun(ww:World) (hb:Bl w ww)=>aGP.2.2.1 _ x.ents r.ev ev ww (r4.below hb) (hev.below hb (zC _)) (HI.out.2.2.1 x (mG hx));have a4:=r.one;generalize r.ev=ev' at *;obtain⟨ex,nx,cx,rfl⟩:∃a n c,ev'=.slice a n c:=by obtain⟨g,cap,rfl,_⟩:=r4;exact⟨_,_,_,rfl⟩
  obtain⟨ea,en,ec,rfl⟩:∃a n c,ev=.slice a n c:=by obtain⟨a,cap,rfl,_⟩:=hev;exact⟨_,_,_,rfl⟩
  have g1:(q:Int)<S.ins.length:=by omega
  clear hci hcj hv hx hr r1 r2 r3 r4 hev;go_upto_region 6 with fail;go_cut [6,7] (λv6 v7 wx=>∃g6 g7,v6=.pointer (some ⟨g6,0,none⟩)/\v7=.pointer (some ⟨g7,0,none⟩)/\Bl wr wx/\Blk wx g6 #[x.num,x.dir,.slice ex nx cx,x.data] 68/\Blk wx g7 #[x.num,x.dir,.slice ea en ec,x.data] 68)
  case first=>
   go_region_held3 (λw'=>w'.cell? w.heap.size=some (.slice (some ⟨bj,oj,none⟩) S.ins.length cj)/\w'.cell? ⟨w.heap.size+1,0,none⟩=some (.slice (some ⟨bi,oi,none⟩) S.ins.length ci)/\w'.cell? ⟨bi,oi+q*4,none⟩=some (.int .i64 x.num)/\w'.cell? ⟨bi,oi+q*4+1,none⟩=some (.bool x.dir)/\w'.cell? ⟨bi,oi+q*4+2,none⟩=some (.slice ea en ec)/\w'.cell? ⟨bi,oi+q*4+3,none⟩=some (.string x.data)/\w'.cell? ⟨bj,oj+q*4,none⟩=some (.int .i64 x.num)/\w'.cell? ⟨bj,oj+q*4+1,none⟩=some (.bool x.dir)/\w'.cell? ⟨bj,oj+q*4+2,none⟩=some (.slice ex nx cx)/\w'.cell? ⟨bj,oj+q*4+3,none⟩=some (.string x.data))
    (first|(try dsimp only)<;>(repeat' apply And.intro)<;>go_simp)
    (fail)
   all_goals go_wp2_with fail
   all_goals go_meet
   all_goals refine⟨_,_,rfl,rfl,bel _ _,?_,?_⟩
   all_goals(repeat (first|exact Blk.new_i _ _ _ _|refine Blk.alloc ?_ _|refine Blk.drew ?_))
  obtain⟨g6,g7,rfl,rfl,hbw,h6,h7⟩:=hcut;have i6:=h6.lt;have i7:=h7.lt;have iC:Bel wr wc:=⟨hbw⟩;have a8:Bel w wc:=⟨HV.out.below.trans (hbw.mono HV.out.below.size)⟩;obtain⟨-,d0,d1,d2,d3⟩:=bx4 h6;obtain⟨-,f0,f1,f2,f3⟩:=bx4 h7;have HC:=aC hbw;clear h6 h7 hbw;go_wp2_with(go_at_call 49;refine aE (a6 _ (bel _ _)) λp=>?_);go_roundw
  case rel=>exact⟨q+1,by go_num,by omega,HV.out.later (HC.out.trans ((bel wc _).mono HC.out.size))⟩
  simp[intOf];omega
 have g1:¬(q:Int)<S.ins.length:=by omega
 go_wp2;go_ret;exact⟨rfl,HV.out.below.trans ((bel wr _).mono HV.out.below.size)⟩
end Go.Proofs.YtmkapobnfigedaaGreatDoor
