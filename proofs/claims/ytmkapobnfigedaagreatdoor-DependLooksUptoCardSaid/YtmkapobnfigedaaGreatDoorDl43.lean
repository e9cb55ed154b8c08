/- Part of the proof of a law of chapter 15. Conditions: none. -/
import Derived.Test.YtmkapobnfigedaaGreatDoorDl42
import Derived.Test.YtmkapobnfigedaaGreatDoorDl38
set_option linter.unusedVariables false
set_option linter.unusedSimpArgs false
set_option maxRecDepth 100000
set_option maxHeartbeats 8000000
namespace Go.Proofs.YtmkapobnfigedaaGreatDoor
open Go.RowKit
section
def mE:PSt->List PCall->List (List PKey)
 |_,[]=>[]
 |S,c::r=>kV S c::mE (mK S c).1 r
def stM:PSt->List PCall->PSt
 |S,[]=>S
 |S,c::r=>stM (mK S c).1 r
theorem qA:∀(cs:List PCall) (S:PSt),(mE S cs).length=cs.length
 |[],_=>rfl
 |c::r,S=>by unfold mE;rw[zK,qA r,zK]
theorem aOO:∀(cs:List PCall) (S:PSt),S.wf->(stM S cs).wf
 |[],_,h=>h
 |c::r,S,h=>aOO r _ (aEA h)
theorem aCU:∀(cs:List PCall) (S:PSt) (c:PCall),stM S (cs++[c])=(mK (stM S cs) c).1
 |[],_,_=>rfl
 |d::r,S,c=>aCU r _ c
theorem xG:∀(cs:List PCall) (S:PSt) (c:PCall),mE S (cs++[c])=mE S cs++[kV (stM S cs) c]
 |[],_,_=>rfl
 | d::r,S,c=>by show kV S d::mE _ (r++[c])=_;rw[xG r];rfl
def StHere (w wr:World) (iv ov mv:Value) (S:PSt):Prop:=(StRead w iv ov mv S/\Below w.heap.size w wr)\/StOwn w.heap.size wr iv ov mv S
variable {B:Nat} {S:PSt} {iv mv ov vo:Value} {kvs:List Value} {w w' wr:World}
theorem StHere.read (h:StHere w wr iv ov mv S):StRead wr iv ov mv S:=by
 rcases h with⟨h,hb⟩|h
 .exact h.below hb (zC _)
 exact h.read
theorem StHere.keep {X:Nat->Prop} (h:StHere w wr iv ov mv S) (hk:Keep X wr w') (hw:w.heap.size<=wr.heap.size) (h1:∀g,X g->w.heap.size<=g) (hX:∀g,X g->∃c t,Blk wr g c t/\t≠95/\t≠3/\t≠68/\t≠97):StHere w w' iv ov mv S:=by
 rcases h with⟨h,hb⟩|h
 .exact .inl ⟨h,hb.trans (hk.below hw (λi hi hg=>by have:=h1 i hg;omega))⟩
 exact .inr (StOwn.keep h hk hX)
structure KRows (B:Nat) (w:World) (vo:Value) (kss:List (List PKey)) (kvs:List Value):Prop where
 out:OwnP B w 29 1 vo (kvs.map λkv=>[kv])
 len:kvs.length=kss.length
 keys:∀(i:Nat) (kv:Value) (ks:List PKey),kvs[i]? =some kv->kss[i]? =some ks->OwnP B w 61 2 kv (ks.map PKey.cells)
theorem KRows.keep {kss:List (List PKey)} {X:Nat->Prop} (h:KRows B w vo kss kvs) (hk:Keep X w w') (hX:∀g,X g->∃c t,Blk w g c t/\t≠29/\t≠61):KRows B w' vo kss kvs:=by
 obtain⟨h1,h2,h3⟩:=h;refine⟨OwnP.keep h1 hk (λg hg hx=>?_),h2,λi kv ks hi hj=>OwnP.keep (h3 i kv ks hi hj) hk (λg hg hx=>?_)⟩
 .obtain⟨c,t,hb,n1,n2⟩:=hX g hx;exact h1.ne_blk hb n1.symm hg rfl
 obtain⟨c,t,hb,n1,n2⟩:=hX g hx;exact(h3 i kv ks hi hj).ne_blk hb n2.symm hg rfl
theorem OwnP.blk {e:TypeId} {k:Nat} {v:Value} {rows:List (List Value)} (h:OwnP B w e k v rows) {g:Nat} (hg:v.ownBlock=some g):∃c,Blk w g c e:=by
 rcases h with⟨rfl,_⟩|⟨g',cap,cur,rfl,_,hb,_⟩
 .simp[Value.ownBlock]at hg
 simp[Value.ownBlock]at hg;subst hg;exact⟨_,hb⟩
theorem KRows.more {w1 w2:World} {v' kv:Value} {kss:List (List PKey)} {ks:List PKey} (h:KRows B w vo kss kvs) (hn:OwnP B w 61 2 kv (ks.map PKey.cells)) (hb:Below w.heap.size w w1) (hG:Grew B 29 1 w1 vo ((kvs++[kv]).map λkv=>[kv]) v' w2):KRows B w2 v' (kss++[ks]) (kvs++[kv]):=by
 obtain⟨g1,g2,-⟩:=hG;obtain⟨h1,h2,h3⟩:=h;have key:∀(kv:Value) (ks:List PKey),OwnP B w 61 2 kv (ks.map PKey.cells)->OwnP B w2 61 2 kv (ks.map PKey.cells):=λkv ks ho=>by refine OwnP.keep (OwnP.keep ho (Keep.of_below hb (λ_=>False)) (λ_ _ h=>h)) g2 (λg hg hx=>?_);obtain⟨c,hc⟩:=h1.blk hx;exact ho.ne_blk hc (by decide) hg rfl
 refine⟨g1,by rw[lP,lP,h2];rfl,λi kv' ks' hi hj=>?_⟩;by_cases hl:i<kvs.length
 .rw[zZ hl]at hi;rw[zZ (by omega)]at hj;exact key kv' ks' (h3 i kv' ks' hi hj)
 rw[yC (by omega)]at hi;rw[yC (by omega)]at hj;rcases hz:i-kvs.length with _|z
 .rw[hz]at hi;rw[<-h2,hz]at hj;cases hi;cases hj;exact key _ _ hn
 rw[hz]at hi;simp at hi
theorem aSV:(Tryz.prog.info? 29).map (λi=>(i.zero,i.size,i.bytes))=some (some (.slice none 0 0),1,24):=by kernel_rfl
theorem aUM {ops:Array Oper} {rest:List Oper} {o:Oper} {a:Act} {Q:Exit->Act->World->Prop} (hgd:o.guard=none) (s y:Operand)
 (hop:o.op=.call { callee:=.builtin .append,args:=#[s,y],argTypes:=#[85,85]}) (B:Nat) (v x kv:Value) (kvs:List Value) (hs:a.eval s=v) (hy:a.eval y=x) (ho:OwnP B w 29 1 v (kvs.map λkv=>[kv])) (hx:RowAt w 1 x [[kv]]) (h1:kv.oneCell'=true) (hl:kvs.length<=1000000000000) (hB:B<=w.heap.size)
 (h:∀v' w',Grew B 29 1 w v ((kvs++[kv]).map λkv=>[kv]) v' w'->wpList Tryz.prog ops Q rest (a.put o.dst v') w'):
 wpList Tryz.prog ops Q (o::rest) a w:=by
 obtain⟨i,hi,hz,h2,h3⟩:=info_parts aSV;refine cP w hgd s y 85 hop B 29 1 24 i _ Tryz.underlying85 hi hz h2 h3 rfl (by decide) v x (kvs.map λkv=>[kv]) [[kv]] hs hy (by
  intro cs hc;obtain⟨r,_,rfl⟩:=List.mem_map.1 hc;rfl) (by intro cs hc;simp only[List.mem_singleton]at hc;subst hc;rfl) (by intro cs hc u hu;simp only[List.mem_singleton]at hc;subst hc;simp only[List.mem_singleton]at hu;subst hu;exact h1) ho hx ?_ ?_ hB ?_
 .rw[lM,List.length_singleton];unfold maxLen;omega
 .rw[lM,List.length_singleton];omega
 intro v' w' hg;exact h v' w' (by rw[yR];exact hg)
theorem aRG (iv ov mv:Value) (S:PSt) (cs:List PCall) (vc:Value) (w:World) (h:StRead w iv ov mv S) (hwf:S.wf) (hc:RowAt w 8 vc (cs.map PCall.cells)) (hcd:∀c∈cs,c.data.size<=1000000000000000000) (hcl:cs.length<=1000000000):
 Calls Tryz.prog 54 #[.agg #[iv,ov,mv],vc] w λe w'=>Below w.heap.size w w'/\∃vo kvs,e=.returned vo/\KRows w.heap.size w' vo (mE S cs) kvs:=by
 have o1:=h.1.one;have o2:=h.2.1.one;have o3:iv.oneCell'=true:=by obtain⟨_,_,_,h3,_⟩:=h;exact h3.one
 obtain⟨ac,cc,rfl,hatc⟩:=hc.at_;rw[lM];have HS:=bB h hatc;clear h hatc hc;go_enter Tryz.func54,Tryz.ntmps54;go_upto_region 2 with fail;refine aI (F:=λwA=>Below w.heap.size w wA/\(∃iv ov mv,Blk wA w.heap.size #[iv,ov,mv] 26/\StHere w wA iv ov mv S)/\KRows w.heap.size wA (.slice none 0 0) [] []) ⟨bel w _,⟨iv,ov,mv,Blk.new _ _ _,.inl ⟨HS.out.1,bel w _⟩⟩,⟨.inl ⟨rfl,rfl⟩,rfl,λi kv ks h=>by simp at h⟩⟩ ?_;intro wA HA0;have HA:=aG HA0;clear HA0;go_wp2_with fail
 go_loopw[5,11] (λvo vi wr=>∃(q:Nat) (kvs:List Value) (vx:Value),vi=.int .i64 q/\vx=vo/\q<=cs.length/\Below w.heap.size w wr/\(∃iv ov mv,Blk wr w.heap.size #[iv,ov,mv] 26/\StHere w wr iv ov mv (stM S (cs.take q)))/\KRows w.heap.size wr vx (mE S (cs.take q)) kvs) (λ_ vi _=>(cs.length-intOf vi).toNat)
 case atStart=>exact⟨0,[],_,rfl,rfl,by omega,HA.out.1,HA.out.2.1,HA.out.2.2⟩
 obtain⟨q,kvs,vx,rfl,rfl,hq,hbr,⟨iv2,ov2,mv2,hbk,hst⟩,hkr⟩:=hrel;by_cases hlt:q<cs.length
 .obtain⟨c,hc⟩:∃c,cs[q]? =some c:=⟨_,gE hlt⟩
  obtain⟨bc,offc,rfl,iC0,iC,hcc⟩:=HS.out.2 wr hbr q c.cells (by rw[gM,hc];rfl);have c0:=hcc 0 _ rfl;have c1:=hcc 1 _ rfl;have c2:=hcc 2 _ rfl;have c3:=hcc 3 _ rfl;have c4:=hcc 4 _ rfl;have c5:=hcc 5 _ rfl;have c6:=hcc 6 _ rfl;have c7:=hcc 7 _ rfl;rw[zN]at c0;have a2:=aOO (cs.take q) S hwf;have a0:=fun(ww:World) (hb:Below wr.heap.size wr ww)=>aMX iv2 ov2 mv2 (stM S (cs.take q)) c ww (hst.read.below hb (zC _)) a2 (aEA a2) (hcd c (mG hc));have a9:cs.take (q+1)=cs.take q++[c]:=by rw[List.take_succ_eq_append_getElem hlt];congr 2;rw[gE hlt]at hc;exact Option.some.inj hc
  have b4:(mK (stM S (cs.take q)) c).1=stM S (cs.take (q+1)):=by rw[a9,aCU]
  have b5:mE S (cs.take (q+1))=mE S (cs.take q)++[kV (stM S (cs.take q)) c]:=by rw[a9,xG]
  rw[b4]at a0;have d4:=hst.read.1.one;have d5:=hst.read.2.1.one;have d6:iv2.oneCell'=true:=by obtain⟨_,_,_,h3,_⟩:=hst.read;exact h3.one
  have ib:=hbk.lt;have k0:wr.cell? ⟨w.heap.size,0,none⟩=some iv2:=hbk.cell 0;have k1:wr.cell? ⟨w.heap.size,1,none⟩=some ov2:=hbk.cell 1;have k2:wr.cell? ⟨w.heap.size,2,none⟩=some mv2:=hbk.cell 2;have c8:∀w1,Below (wr.alloc (.cells #[.int .i64 c.kind,.int .i64 c.core,.int .i64 c.fd,.int .i64 c.off,.int .i64 c.num,.string c.path,.string c.path2,.string c.data] 28)).heap.size (wr.alloc (.cells #[.int .i64 c.kind,.int .i64 c.core,.int .i64 c.fd,.int .i64 c.off,.int .i64 c.num,.string c.path,.string c.path2,.string c.data] 28)) w1->Blk w1 w.heap.size #[iv2,ov2,mv2] 26:=λw1 hb=>(hbk.alloc _).below hb (by have:=ib.lt;simp;omega);have c9:∀w1,Below (wr.alloc (.cells #[.int .i64 c.kind,.int .i64 c.core,.int .i64 c.fd,.int .i64 c.off,.int .i64 c.num,.string c.path,.string c.path2,.string c.data] 28)).heap.size (wr.alloc (.cells #[.int .i64 c.kind,.int .i64 c.core,.int .i64 c.fd,.int .i64 c.off,.int .i64 c.num,.string c.path,.string c.path2,.string c.data] 28)) w1->Below wr.heap.size wr w1:=λw1 hb=>(bel wr _).trans (hb.mono (by simp));have d0:∀w1,Below (wr.alloc (.cells #[.int .i64 c.kind,.int .i64 c.core,.int .i64 c.fd,.int .i64 c.off,.int .i64 c.num,.string c.path,.string c.path2,.string c.data] 28)).heap.size (wr.alloc (.cells #[.int .i64 c.kind,.int .i64 c.core,.int .i64 c.fd,.int .i64 c.off,.int .i64 c.num,.string c.path,.string c.path2,.string c.data] 28)) w1->w.heap.size<=(wr.alloc (.cells #[.int .i64 c.kind,.int .i64 c.core,.int .i64 c.fd,.int .i64 c.off,.int .i64 c.num,.string c.path,.string c.path2,.string c.data] 28)).heap.size:=λw1 _=>by have:=ib.lt;simp;omega
  have HR:=kL hbr hkr b5 hbk;clear hbr hst hkr b5 b4 a9 hcc hc hbk a2;unfold PCall.val at a0;go_upto_region 7 with(go_at_call 40;refine(a0 _ (bel _ _)).mono ?_;rintro e w1 ⟨hb1,kv,iv3,ov3,mv3,rfl,hok,hso⟩;have a4:=c9 w1 hb1;have a1:=c8 w1 hb1;have b6:=d0 w1 hb1;have x0:w1.cell? ⟨w.heap.size,0,none⟩=some iv2:=a1.cell 0;have x1:w1.cell? ⟨w.heap.size,1,none⟩=some ov2:=a1.cell 1;have x2:w1.cell? ⟨w.heap.size,2,none⟩=some mv2:=a1.cell 2;have d1:=a1.frozen 0;have d2:=a1.frozen 1;have d3:=a1.frozen 2;have ix:=a1.lt;obtain⟨a11,a12,a13,a14,a15,a16,a17,a18,a19,rfl,rfl,rfl⟩:=hso.forms;clear hb1)
  have a3:=OwnP.mono hok b6;have a5:=StOwn.mono hso b6;clear hok hso;have b0:∀(u0 u1 u2:Value),Keep (λg=>g=w.heap.size) wr (((w1.setCell ⟨w.heap.size,0,none⟩ u0).setCell ⟨w.heap.size,1,none⟩ u1).setCell ⟨w.heap.size,2,none⟩ u2):=λu0 u1 u2=>(((Keep.of_below a4 (λg=>g=w.heap.size)).setCell (p:=⟨w.heap.size,0,none⟩) (.inl rfl) _).setCell (p:=⟨w.heap.size,1,none⟩) (.inl rfl) _).setCell (p:=⟨w.heap.size,2,none⟩) (.inl rfl) _;have b1:∀(u0 u1 u2:Value),Keep (λg=>g=w.heap.size) w1 (((w1.setCell ⟨w.heap.size,0,none⟩ u0).setCell ⟨w.heap.size,1,none⟩ u1).setCell ⟨w.heap.size,2,none⟩ u2):=λu0 u1 u2=>(((Keep.refl (λg=>g=w.heap.size) w1).setCell (p:=⟨w.heap.size,0,none⟩) (.inl rfl) _).setCell (p:=⟨w.heap.size,1,none⟩) (.inl rfl) _).setCell (p:=⟨w.heap.size,2,none⟩) (.inl rfl) _;refine aI (F:=λwB=>Below w.heap.size w wB/\(∃iv ov mv,Blk wB w.heap.size #[iv,ov,mv] 26/\StHere w wB iv ov mv (stM S (cs.take (q+1))))/\KRows w.heap.size wB vx (mE S (cs.take q)) kvs/\OwnP w.heap.size wB 61 2 kv ((kV (stM S (cs.take q)) c).map PKey.cells)) ⟨?_,?_,?_,?_⟩ ?_
  .exact HR.out.1.trans ((b0 _ _ _).below HR.out.1.size (λi hi hg=>by omega))
  .exact⟨_,_,_,((a1.set_ 0 _).set_ 1 _).set_ 2 _,.inr (StOwn.keep a5 (b1 _ _ _) (λg hg=>by rw[hg];exact⟨_,26,a1,by decide,by decide,by decide,by decide⟩))⟩
  .exact HR.out.2.1.keep (b0 _ _ _) (λg hg=>by rw[hg];exact⟨_,26,HR.out.2.2.2,by decide,by decide⟩)
  .exact OwnP.keep a3 (b1 _ _ _) (λg hg hx=>by
    rw[hx]at hg;exact a3.ne_blk a1 (by decide) hg rfl)
  clear a3 a5 b0 b1 a1 a4 x0 x1 x2 d1 d2 d3 ix k0 k1 k2;rintro wB ⟨hbB,hstB,hkB,hokB⟩;have b7:=hbB.size;obtain⟨ak,nk,ck,rfl⟩:∃a n c,kv=.slice a n c:=by obtain⟨a,c,h,-⟩:=hokB.row;exact⟨a,_,c,h⟩
  have b2:=hokB.one;have HB:=kL hbB hstB hkB hokB;have b8:=HB.out.2.2.1.len;rw[qA,zU]at b8;have C1:OwnP w.heap.size (wB.alloc (.cells #[.slice ak nk ck] 29)) 29 1 vx (kvs.map λkv=>[kv]):=OwnP.keep HB.out.2.2.1.out (Keep.of_below (bel wB _) (λ_=>False)) (λ_ _ h=>h);have C2:RowAt (wB.alloc (.cells #[.slice ak nk ck] 29)) 1 (.slice (some ⟨wB.heap.size,0,none⟩) 1 1) [[.slice ak nk ck]]:=OwnP.row (B:=0) (e:=29) (.inr ⟨wB.heap.size,1,#[.slice ak nk ck],rfl,Nat.zero_le _,Blk.new _ _ _,zC _,by decide,rfl,λq' cs' hq' t u hu=>by
   rcases q' with _|q'
   .simp only[zH,zF]at hq';subst hq';rcases t with _|t
    .exact hu
    simp at hu
   simp at hq'⟩)
  have C5:w.heap.size<=(wB.alloc (.cells #[.slice ak nk ck] 29)).heap.size:=by simp;omega
  have C4:kvs.length<=1000000000000:=by omega
  have CC:=kL C1 C2 C5 C4;clear C1 C2 C5 C4 hbB hstB hkB hokB b8;go_wp2_with(at_builtin;refine aUM rfl _ _ rfl w.heap.size vx (.slice (some ⟨wB.heap.size,0,none⟩) 1 1) (.slice ak nk ck) kvs rfl rfl CC.out.1 CC.out.2.1 b2 CC.out.2.2.2 CC.out.2.2.1 ?_);intro v' w2 hG;rw[show (List.map (λkv=>[kv]) kvs++[[Value.slice ak nk ck]])=(kvs++[Value.slice ak nk ck]).map (λkv=>[kv]) by rw[yR];rfl]at hG;have b3:=HB.out.2.2.1.more HB.out.2.2.2 (bel wB (wB.alloc (.cells #[.slice ak nk ck] 29))) hG;rw[<-HR.out.2.2.1]at b3;have a8:Keep (λg=>vx.ownBlock=some g) wB w2:=(Keep.of_below (bel wB (wB.alloc (.cells #[.slice ak nk ck] 29))) _).trans hG.2.1 (λi hi hg=>hg);have a6:∀g,vx.ownBlock=some g->w.heap.size<=g/\∃c,Blk wB g c 29:=λg hg=>⟨HB.out.2.2.1.out.ge hg,HB.out.2.2.1.out.blk hg⟩;have b9:Below w.heap.size w w2:=HB.out.1.trans (a8.below b7 (λi hi hg=>by have:=(a6 i hg).1;omega));have a7:∃iv ov mv,Blk w2 w.heap.size #[iv,ov,mv] 26/\StHere w w2 iv ov mv (stM S (cs.take (q+1))):=by
   obtain⟨iv,ov,mv,h1,h2⟩:=HB.out.2.1;exact⟨iv,ov,mv,a8.blk h1 (λhg=>by
    obtain⟨_,c,hc⟩:=a6 _ hg;exact hc.ne_ h1 (by decide) rfl),h2.keep a8 b7 (λg hg=>(a6 g hg).1) (λg hg=>by
    obtain⟨_,c,hc⟩:=a6 g hg;exact⟨c,29,hc,by decide,by decide,by decide,by decide⟩)⟩
  have HF:=dR b9 a7 b3;clear hG b3 a8 a6 b9 a7;go_wp2_with fail;go_roundw
  case rel=>exact⟨q+1,_,v',by go_num,rfl,by omega,HF.out.1,HF.out.2.1,HF.out.2.2⟩
  simp[intOf];omega
 have e:cs.take q=cs:=List.take_of_length_le (by omega);rw[e]at hkr;have HK:=bB hbr hkr;clear hbr hst hbk hkr e;go_wp2_with fail;go_ret;exact⟨HK.out.1.trans ((bel wr _).mono HK.out.1.size),vx,kvs,rfl,HK.out.2.keep (Keep.of_below (bel wr _) (λ_=>False)) (λ_ h=>h.elim)⟩
end
end Go.Proofs.YtmkapobnfigedaaGreatDoor
