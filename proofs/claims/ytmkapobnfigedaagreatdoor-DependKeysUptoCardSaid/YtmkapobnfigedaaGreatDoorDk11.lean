/- A part of a proof of a law. Conditions: none. -/
import Derived.Test.YtmkapobnfigedaaGreatDoorDk10
import Derived.Test.YtmkapobnfigedaaGreatDoorDk09
import Derived.Test.YtmkapobnfigedaaGreatDoorDk08
set_option linter.unusedVariables false
set_option linter.unusedSimpArgs false
set_option maxRecDepth 100000
set_option maxHeartbeats 8000000
namespace Go.Proofs.YtmkapobnfigedaaGreatDoor
open Go.Proofs.Tryz List Go.RowKit
def aX {α:Type} (l:List α) (i:Nat) (x:α):List α:=l.take i++x::l.drop i
theorem pY {α β:Type} (f:α->β) (l:List α) (i:Nat) (x:α):(aX l i x).map f=(l.map f).take i++f x::(l.map f).drop i:=by simp[aX,map_take,map_drop]
theorem pZ (f:Nat->Int):∀(b lo hi:Nat),lo<=hi->dL f b lo hi<=hi
 |0,lo,hi,h=>h
 | b +1,lo,hi,h=>by
   unfold dL;split
   .split
    .exact pZ f b _ _ (by omega)
    have:=pZ f b lo ((lo+hi)/2) (by omega);omega
   exact h
theorem aSZ (es:List PEnt) (s:ByteArray):cY es s<=es.length:=pZ _ _ _ _ (Nat.zero_le _)
def PSt.ents (S:PSt) (K:Nat) (x:PIn) (es:List PEnt):PSt:={ S with ins:=S.ins.set K { x with ents:=es}}
def tR (w:World) (g:Nat):Prop:=∃c t,Blk w g c t/\(t=68\/t=97)
theorem StOwn.setEnts {B:Nat} {w w1:World} {ov mv:Value} {S:PSt} {bi cap K:Nat} {x:PIn} (h:StOwn B w (.slice bi S.ins.length cap) ov mv S) (hx:S.ins[K]? =some x) {ev:Value} (hev:w.cell? ⟨bi,K*4+2,none⟩=some ev)
 {ev':Value} {es':List PEnt} (he:OwnP B w1 97 2 ev' (es'.map PEnt.cells)) (hk:Keep (λk=>ev.ownBlock=some k) w w1) (hfr:∀k,ev'.ownBlock=some k->ev.ownBlock=some k\/w.heap.size<=k) (hB:B<=w.heap.size):
 StOwn B (w1.setCell ⟨bi,K*4+2,none⟩ ev') (.slice bi S.ins.length cap) ov mv (S.ents K x es')/\Below B w (w1.setCell ⟨bi,K*4+2,none⟩ ev')/\Keep (tR w) w (w1.setCell ⟨bi,K*4+2,none⟩ ev'):=by
 obtain⟨h1,h2,is,h3,h4,h5,h6⟩:=h;obtain⟨hKl,_⟩:=gI.1 hx;have hr:is[K]? =some is[K]:=gE (by omega);obtain⟨a1,a2,a3,a4⟩:=h5 K _ x hr hx;rcases h3 with⟨h0,_⟩|⟨g,cap',arr,heq,hgB,hgb,hnc,hcm,hsz,hri⟩
 .simp at h0
 simp only[zO,zF,yG]at heq;obtain⟨⟨rfl,-,-⟩,hl,rfl⟩:=heq;have a0:ev=is[K].ev:=by have:=hri K is[K].cells (by rw[gM,hr];rfl) 2 _ rfl;rw[hgb.cell,this]at hev;exact(Option.some.inj hev).symm
 have a6:=he.one;have b6:∀k,ev.ownBlock=some k->k≠bi:=λk hk=>by rw[a0]at hk;exact a4.ne_blk hgb (by decide) hk
 have a9:∀k,ev'.ownBlock=some k->k≠bi:=λk hk=>by
  rcases hfr k hk with h|h
  .exact b6 k h
  have:=hgb.lt.lt;omega
 have b0:Blk w1 bi arr 68:=hk.blk hgb (λh=>b6 bi h rfl);have hS:Keep (λk=>k=bi) w1 (w1.setCell ⟨bi,K*4+2,none⟩ ev'):=Keep.setCell (S:=λk=>k=bi) (p:=⟨bi,K*4+2,none⟩) (Keep.refl _ _) (.inl rfl) _;have hT:Keep (λk=>ev.ownBlock=some k\/k=bi) w (w1.setCell ⟨bi,K*4+2,none⟩ ev'):=(hk.mono (λi _ h=>.inl h)).trans (hS.mono (λi _ h=>.inr h)) (λi _ h=>h);have far:∀{e:TypeId} {k:Nat} {v:Value} {rows:List (List Value)},OwnP B w e k v rows->(e=95\/e=3)->OwnP B (w1.setCell ⟨bi,K*4+2,none⟩ ev') e k v rows:=by
  intro e k v rows ho hee;refine ho.keep hT (λg hg hh=>?_);rcases hh with hh|hh
  .rw[a0]at hh;rcases a4 with⟨h0,_⟩|⟨g',_,c',h0,_,hb',_⟩
   .rw[h0]at hh;simp[Value.ownBlock]at hh
   rw[h0]at hh;simp[Value.ownBlock]at hh;subst hh;exact ho.ne_blk hb' (by rcases hee with rfl|rfl<;>decide) hg rfl
  exact ho.ne_blk hgb (by rcases hee with rfl|rfl<;>decide) hg hh
 have b5:K<is.length:=by omega
 have a7:(is.map IRec.cells).set K (is[K].cells.set 2 ev')=(is.set K ⟨is[K].num,is[K].dir,ev',is[K].data,a6⟩).map IRec.cells:=by rw[map_set];rfl
 have b7:K*4+2<arr.size:=by rw[lM]at hnc;omega
 refine⟨⟨far h1 (.inl rfl),far h2 (.inr rfl),is.set K ⟨is[K].num,is[K].dir,ev',is[K].data,a6⟩,.inr ⟨bi,cap,arr.setIfInBounds (K*4+2) ev',?_,hgB,b0.set_ _ _,?_,hcm,by rw[Array.size_setIfInBounds];exact hsz,?_⟩,?_,?_,?_⟩,hT.below hB ?_,hT.mono ?_⟩
 .rw[lM,yB,h4]
 .rw[lM,yB];rw[lM]at hnc;exact hnc
 .rw[<-a7];exact hri.set (gF _) (by rw[gM,hr];rfl) (by decide) b7 _
 .show(is.set K _).length=(S.ins.set K _).length;rw[yB,yB,h4]
 .intro q r x' hq a5;have a5:(S.ins.set K { x with ents:=es'})[q]? =some x':=a5;by_cases e:K=q
  .subst e;rw[zY b5]at hq;rw[zY hKl]at a5;cases hq;cases a5;exact⟨a1,a2,a3,he.keep hS (λk hk=>a9 k hk)⟩
  rw[zX e]at hq a5;obtain⟨b1,b2,b3,b4⟩:=h5 q r x' hq a5;refine⟨b1,b2,b3,b4.keep hT (λk hk hh=>?_)⟩;rcases hh with hh|hh
  .rw[a0]at hh;exact h6 K q _ r e hr hq k hh hk
  exact b4.ne_blk hgb (by decide) hk hh
 .intro p q r r' hpq hp hq k hk;have a8:∀(j:Nat) (rb:IRec),is[j]? =some rb->∀k,rb.ev.ownBlock=some k->k<w.heap.size:=by
   intro j rb hj k hk;obtain⟨hjl,_⟩:=gI.1 hj;obtain⟨xb,hxb⟩:∃xb,S.ins[j]? =some xb:=⟨_,gE (by omega)⟩;exact(h5 j rb xb hj hxb).2.2.2.lt hk
  by_cases e:K=p
  .subst e;rw[zY b5]at hp;rw[zX hpq]at hq;cases hp;intro h;rcases hfr k hk with h'|h'
   .rw[a0]at h';exact h6 K q _ r' hpq hr hq k h' h
   have:=a8 q r' hq k h;omega
  rw[zX e]at hp;by_cases e2:K=q
  .subst e2;rw[zY b5]at hq;cases hq;intro h;rcases hfr k h with h'|h'
   .rw[a0]at h';exact h6 K p _ r (λe=>hpq e.symm) hr hp k h' hk
   have:=a8 p r hp k hk;omega
  rw[zX e2]at hq;exact h6 p q r r' hpq hp hq k hk
 .intro i hi hh;rcases hh with hh|hh
  .rw[a0]at hh;have:=a4.ge hh;omega
  omega
 intro g _ hh;rcases hh with hh|hh
 .rw[a0]at hh;rcases a4 with⟨h0,_⟩|⟨g',_,c',h0,_,hb',_⟩
  .rw[h0]at hh;simp[Value.ownBlock]at hh
  rw[h0]at hh;simp[Value.ownBlock]at hh;subst hh;exact⟨_,97,hb',.inr rfl⟩
 exact⟨_,68,by rw[hh];exact hgb,.inl rfl⟩
theorem aOI (e:PEnt):∀u∈e.cells,u.oneCell'=true:=λu h=>by
 simp only[PEnt.cells,mem_cons,not_mem_nil,or_false]at h;rcases h with rfl|rfl<;>rfl
theorem tS (B:Nat) (w:World) (ov mv:Value) (S:PSt) (bi cap K:Nat) (x:PIn) (s:ByteArray) (num:Int) (h:StOwn B w (.slice bi S.ins.length cap) ov mv S) (hx:S.ins[K]? =some x) (hB:B<=w.heap.size) (hl:x.ents.length<=100000):
 Calls prog 175 #[.pointer (some ⟨bi,K*4,none⟩),s,num] w λe w'=>e=.returned (.tuple #[])/\Below B w w'/\Keep (tR w) w w'/\StOwn B w' (.slice bi S.ins.length cap) ov mv (S.ents K x (aX x.ents (cY x.ents s) ⟨s,num⟩)):=by
 have a1:=h.read;obtain⟨ai,capi,he,hat⟩:=a1.ins_at2;simp only[zO]at he;obtain⟨rfl,-,rfl⟩:=he;obtain⟨bi',off',ev,he,iG,hone,hrow,hcl⟩:=hat K x hx;simp only[zF,yG]at he;obtain⟨rfl,rfl,-⟩:=he;obtain⟨-,-,-,y2,-⟩:=hcl w (Below.refl _ _);rw[zM]at y2;obtain⟨hKl,_⟩:=gI.1 hx;have b0:w.frozen? ⟨bi,K*4+2,none⟩=false:=by
  obtain⟨_,_,is,h3,_⟩:=h;rcases h3 with⟨h0,_⟩|⟨g,cap',arr,heq,hgB,hgb,_⟩
  .simp at h0
  simp only[zO,zF,yG]at heq;obtain⟨⟨rfl,-,-⟩,-,-⟩:=heq;exact hgb.frozen _
 have a0:OwnP B w 97 2 ev (x.ents.map PEnt.cells):=by
  obtain⟨_,_,is,h3,h4,h5,_⟩:=h;have hr:is[K]? =some is[K]:=gE (by omega);rcases h3 with⟨h0,_⟩|⟨g,cap',arr,heq,hgB,hgb,_,_,_,hri⟩
  .simp at h0
  simp only[zO,zF,yG]at heq;obtain⟨⟨rfl,-,-⟩,-,-⟩:=heq;have:=hri K is[K].cells (by rw[gM,hr];rfl) 2 _ rfl;rw[hgb.cell,this]at y2;have e:is[K].ev=ev:=Option.some.inj y2;rw[<-e];exact(h5 K _ x hr hx).2.2.2
 have a5:∃arr,Blk w bi arr 68/\K*4+2<arr.size:=by
  obtain⟨_,_,is,h3,h4,h5,_⟩:=h;rcases h3 with⟨h0,_⟩|⟨g,cap',arr,heq,hgB,hgb,hnc,_,hsz,hri⟩
  .simp at h0
  simp only[zO,zF,yG]at heq;obtain⟨⟨rfl,-,-⟩,-,-⟩:=heq;rw[lM]at hnc;exact⟨arr,hgb,by omega⟩
 obtain⟨arr,hgb,has⟩:=a5;have HB:=aC hgb;have a6:∀k,ev.ownBlock=some k->k≠bi:=λk hk=>a0.ne_blk hgb (by decide) hk;have HN:=aC a6;clear hgb a6;have a2:∀ww,Bl w ww->Calls prog 171 #[ev,s] ww _:=λww hb=>oJ x.ents ev s ww (hrow.below hb (zC _)) (by omega);have a3:∀ww gv,Bl w ww->w.heap.size<=gv->Blk ww gv #[s,num] 97->Calls prog 202 #[ev,.int .i64 (cY x.ents s),.slice (some ⟨gv,0,none⟩) 1 1] ww _:=λww gv hb hg hgv=>
  aNC B ev (x.ents.map PEnt.cells) (cY x.ents s) gv (PEnt.cells ⟨s,num⟩) ww (a0.keep (Keep.of_below hb (λ_=>False)) (λ_ _ h=>h)) (pC _) (sB _) (by rw[lM];exact aSZ _ _) (by rw[lM];omega) hgv rfl (aOI _) (λe=>by have:=a0.lt e;omega) (zD hB hb.size)
 have a9:=aSZ x.ents s;have HH:=eK h a0 hx;obtain⟨ea,en,ec,rfl⟩:=a0.form;generalize cY x.ents s=bs at a2 a3 a9 |-;generalize bR x.ents s=hh at a2;clear h a1 hat hcl hrow a0 hx;go_in;go_wp2_with(first|(go_at_call 171;refine aE (a2 _ (bel _ _)) λp=>?_)|(go_at_call 202;refine(a3 _ _ (bel _ _) (by simp) (by repeat(first|exact Blk.new_i _ _ _ _|refine Blk.alloc ?_ _))).mono ?_;rintro e w2 ⟨v',rfl,ho2,hk2,hf2⟩;have a4:=hk2.blk (b:=bi) (c:=arr) (t:=68) (by repeat(first|exact HB.out|refine Blk.alloc ?_ _|refine Blk.junk ?_ _)) (λh=>HN.out _ h rfl);have a7:=(Keep.of_below (bel w _) (λk=>(Value.slice ea en ec).ownBlock=some k)).trans hk2 (λ_ _ h=>h);have a8:∀k,v'.ownBlock=some k->(Value.slice ea en ec).ownBlock=some k\/w.heap.size<=k:=λk hk=>(hf2 k hk).imp id (λh=>zD (bel w _).size h);obtain⟨va,vn,vc,rfl⟩:=ho2.form;have b1:=a4.lt;have f2:=a4.frozen (K*4+2);obtain⟨u2,c2⟩:∃u2,w2.cell? ⟨bi,K*4+2,none⟩=some u2:=⟨arr[K*4+2],by rw[a4.cell];exact yA has⟩;have H2:=eK ho2 a7 a8;clear ho2 hk2 hf2 a4 a7 a8));refine xE (v:=.tuple #[]) (by simp[results,go_sem]) rfl ?_;obtain⟨r1,r2,r3⟩:=HH.out.1.setEnts HH.out.2.2 y2 (es':=aX x.ents bs ⟨s,num⟩) (by rw[pY];exact H2.out.1) H2.out.2.1 H2.out.2.2 hB;exact⟨rfl,r2,r3,r1⟩
section
theorem pO {α:Type} (l:List α) (i:Nat) (x:α) (hi:i<=l.length) (q:Nat):(aX l i x)[q]? =if q<i then l[q]? else if q=i then some x else l[q-1]? :=by
 unfold aX;have a0:(l.take i).length=i:=by rw[zU];omega
 by_cases h1:q<i
 .rw[zB h1,zZ (by omega),yO,zB h1]
 rw[zA h1,yC (by omega),a0];by_cases h2:q=i
 .rw[zB h2,h2,Nat.sub_self];rfl
 rw[zA h2,show q-i=(q-i-1)+1 by omega,zV,yN];congr 1;omega
theorem aAZ {α:Type} (l:List α) (i:Nat) (x:α) (hi:i<=l.length):(aX l i x).length=l.length+1:=by unfold aX;rw[lP,zU,zK,yK];omega
variable {k:Nat}
theorem RowsIn.set1 {arr:Array Value} {xs:List Int} (h:RowsIn arr 1 (xs.map aL)) (hk:k<xs.length) (hs:k<arr.size) (v:Int):RowsIn (arr.setIfInBounds k (.int .i64 v)) 1 ((xs.set k v).map aL):=by have:=h.set (vC xs) (q:=k) (t:=0) (cs:=aL xs[k]) (by rw[gM,gE hk];rfl) (by decide) (by omega) (.int .i64 v);rw[Nat.mul_one,zN]at this;rw[map_set];exact this
theorem StOwn.setMade {B:Nat} {w:World} {iv ov:Value} {S:PSt} {gm cap:Nat} (h:StOwn B w iv ov (.slice gm S.made.length cap) S) (hk:k<S.made.length) (v:Int):
 StOwn B (w.setCell ⟨gm,k,none⟩ (.int .i64 v)) iv ov (.slice gm S.made.length cap) { S with made:=S.made.set k v}/\B<=gm/\∃c,Blk w gm c 3:=by
 obtain⟨h1,h2,is,h3,h4,h5,h6⟩:=h;rcases h2 with⟨h0,_⟩|⟨g,cap',arr,heq,hgB,hgb,hnc,hcm,hsz,hri⟩
 .simp at h0
 simp only[zO,zF,yG]at heq;obtain⟨⟨rfl,-,-⟩,-,rfl⟩:=heq;have hK:Keep (λx=>x=gm) w (w.setCell ⟨gm,k,none⟩ (.int .i64 v)):=Keep.setCell (S:=λx=>x=gm) (p:=⟨gm,k,none⟩) (Keep.refl _ _) (.inl rfl) _;have key:∀{e:TypeId} {n:Nat} {u:Value} {rows:List (List Value)},OwnP B w e n u rows->e≠3->OwnP B (w.setCell ⟨gm,k,none⟩ (.int .i64 v)) e n u rows:=by intro e n u rows ho he;exact ho.keep hK (λg hg hx=>ho.ne_blk hgb he hg hx)
 rw[lM]at hnc;refine⟨⟨key h1 (by decide),.inr ⟨gm,cap,arr.setIfInBounds k (.int .i64 v),?_,hgB,hgb.set_ _ _,?_,hcm,by rw[Array.size_setIfInBounds];exact hsz,hri.set1 hk (by omega) v⟩,is,key h3 (by decide),h4,λq r x hr hx=>?_,h6⟩,hgB,_,hgb⟩
 .show Value.slice gm S.made.length cap=.slice gm ((S.made.set k v).map aL).length cap;rw[lM,yB]
 .show((S.made.set k v).map aL).length<=cap;rw[lM,yB];exact hnc
 obtain⟨a1,a2,a3,a4⟩:=h5 q r x hr hx;exact⟨a1,a2,a3,key a4 (by decide)⟩
theorem aUT (ns:List Int) (n:Int):lB ns n<=ns.length:=pZ _ _ _ _ (Nat.zero_le _)
theorem sX (S:PSt) (K:Nat) (x:PIn) (es:List PEnt) (hx:S.ins[K]? =some x):(S.ents K x es).nums=S.nums:=by
 unfold PSt.nums PSt.ents;apply ext_getElem?;intro q;rw[gM,gM];by_cases e:K=q
 .subst e;obtain⟨hl,_⟩:=gI.1 hx;rw[zY hl,hx];rfl
 rw[zX e]
end
section
def dC (S:PSt) (c:PCall) (K:Nat) (x:PIn) (l:ByteArray) (m:Int):PSt:=
 { ins:=aX (S.ents K x (aX x.ents (cY x.ents l) ⟨l,2+c.core+8*m⟩)).ins (lB S.nums (2+c.core+8*m)) ⟨2+c.core+8*m,c.kind==1,[],⟨#[]⟩⟩,op:=S.op,made:=S.made.set c.core.toNat (m+1)}
def pP (S:PSt) (c:PCall) (r:PRes):Except Int (PSt × PRes):=
 match bB S (aA c.path).2 with
 |.error k=>.error k
 | .ok (K,l)=>match S.ins[K]? with
   |none=>.error 0
   | some x=>if bR x.ents l=true then .error 2 else match S.made[c.core.toNat]? with
     |none=>.error 0
     |some m=>if(eZ x.ents l ⟨#[]⟩||decide (32<=m))=true then .error 5 else .ok (dC S c K x l m,r)
structure Small (S:PSt):Prop where
 ins:S.ins.length<=257
 ents:∀x∈S.ins,x.ents.length<=100000
 made:S.made.length<=8
 each:∀m∈S.made,0<=m/\m<=32
structure Opened (B:Nat) (w:World) (d b bi gm:Nat) (capi capm:Nat) (ov nv:Value) (S:PSt) (c:PCall) (r:PRes):Prop where
 hBb:B<=b
 hBd:B<=d
 hD:Blk w d (jQ b c r nv) 136
 hb:Blk w b #[.slice bi S.ins.length capi,ov,.slice gm S.made.length capm] 26
 st:StOwn B w (.slice bi S.ins.length capi) ov (.slice gm S.made.length capm) S
 nm:OwnP B w 9 1 nv (r.names.map bT)
variable {B b bi capi capm d gm k:Nat} {S:PSt} {c:PCall} {nv ov:Value} {r:PRes} {w:World}
theorem DoAt.open_ (h:DoAt B w d b S c r) (h1:0<S.ins.length) (h2:0<S.made.length):∃bi gm capi capm ov nv,Opened B w d b bi gm capi capm ov nv S c r:=by obtain⟨iv,ov,mv,nv,hBb,hBd,hD,hbk,hst,hnv⟩:=h;have a0:=hst;obtain⟨o1,o2,is,o3,o4,_⟩:=a0;obtain⟨gm,capm,rfl,_⟩:=o2.some_ (by rw[lM];exact h2);obtain⟨bi,capi,rfl,_⟩:=o3.some_ (by rw[lM,o4];exact h1);rw[lM]at hbk hst;rw[lM,o4]at hbk hst;exact⟨bi,gm,capi,capm,ov,nv,hBb,hBd,hD,hbk,hst,hnv⟩
theorem Opened.below {w':World} (h:Opened B w d b bi gm capi capm ov nv S c r) (hb:Bl w w'):Opened B w' d b bi gm capi capm ov nv S c r:=by have hk:Keep (λ_=>False) w w':=Keep.of_below hb _;exact⟨h.hBb,h.hBd,hk.blk h.hD id,hk.blk h.hb id,h.st.keep hk (λ_ h=>h.elim),h.nm.keep hk (λ_ _ h=>h)⟩
theorem Opened.at_ (h:Opened B w d b bi gm capi capm ov nv S c r):DoAt B w d b S c r:=
 ⟨_,_,_,_,h.hBb,h.hBd,h.hD,h.hb,h.st,h.nm⟩
structure Reads (w:World) (d b bi gm:Nat) (capi capm:Nat) (S:PSt) (c:PCall):Prop where
 d0:w.cell? d=some (.pointer b)
 d1:w.cell? ⟨d,1,none⟩=some (.int .i64 c.kind)
 d2:w.cell? ⟨d,2,none⟩=some (.int .i64 c.core)
 d6:w.cell? ⟨d,6,none⟩=some (.string c.path)
 b0:w.cell? b=some (.slice bi S.ins.length capi)
 b2:w.cell? ⟨b,2,none⟩=some (.slice gm S.made.length capm)
 fb0:w.frozen? b=false
 iD:BlockLt d w
 iB:BlockLt b w
theorem Opened.reads (h:Opened B w d b bi gm capi capm ov nv S c r):Reads w d b bi gm capi capm S c:=
 ⟨h.hD.cell 0,h.hD.cell 1,h.hD.cell 2,h.hD.cell 6,h.hb.cell 0,h.hb.cell 2,h.hb.frozen 0,h.hD.lt,h.hb.lt⟩
theorem Opened.made_at (h:Opened B w d b bi gm capi capm ov nv S c r) {m:Int} (hm:S.made[k]? =some m):
 BlockLt gm w/\w.cell? ⟨gm,k,none⟩=some (.int .i64 m)/\w.frozen? ⟨gm,k,none⟩=false:=by
 obtain⟨_,h2,_⟩:=h.st;rcases h2 with⟨h0,_⟩|⟨g,cap',arr,heq,hgB,hgb,hnc,hcm,hsz,hri⟩
 .simp at h0
 simp only[zO,zF,yG]at heq;obtain⟨⟨rfl,-,-⟩,-,rfl⟩:=heq;refine⟨hgb.lt,?_,hgb.frozen _⟩;have:=hri k (aL m) (by rw[gM,hm];rfl) 0 _ rfl;rw[Nat.mul_one,zN]at this;rw[hgb.cell];exact this
theorem Opened.ino_at (h:Opened B w d b bi gm capi capm ov nv S c r) {K:Nat} {x:PIn} (hx:S.ins[K]? =some x):
 BlockLt bi w/\∃ev,w.cell? ⟨bi,K*4+2,none⟩=some ev/\RowAt w 2 ev (x.ents.map PEnt.cells):=by
 obtain⟨ai,capi',he,hat⟩:=h.st.read.ins_at2;simp only[zO]at he;obtain⟨rfl,-,rfl⟩:=he;obtain⟨bi',off',ev,he,iG,hone,hrow,hcl⟩:=hat K x hx;simp only[zF,yG]at he;obtain⟨rfl,rfl,-⟩:=he;obtain⟨i1,-,-,y2,-⟩:=hcl w (Below.refl _ _);rw[zM]at y2;exact⟨i1,ev,y2,hrow⟩
theorem aEV {g:Nat} {c:Array Value} {t:TypeId} (h:Blk w g c t) (h1:t≠68) (h2:t≠97):¬tR w g:=by
 rintro⟨c',t',hb,ht⟩;rcases ht with rfl|rfl
 .exact h.ne_ hb h1 rfl
 exact h.ne_ hb h2 rfl
theorem aDH {e:TypeId} {v:Value} {rows:List (List Value)} (h:OwnP B w e k v rows) (h1:e≠68) (h2:e≠97):∀g,v.ownBlock=some g->¬tR w g:=by
 intro g hg hi;obtain⟨c',t',hb,ht⟩:=hi;rcases ht with rfl|rfl
 .exact h.ne_blk hb h1 hg rfl
 exact h.ne_blk hb h2 hg rfl
end
end Go.Proofs.YtmkapobnfigedaaGreatDoor
