/- A part of a proof of a law. Conditions: none. -/
import Derived.Test.YtmkapobnfigedaaGreatDoorDp06
import Derived.Test.YtmkapobnfigedaaGreatDoorDp05
set_option linter.unusedVariables false
set_option linter.unusedSimpArgs false
set_option maxRecDepth 100000
set_option maxHeartbeats 40000000
namespace Go.Proofs.YtmkapobnfigedaaGreatDoor
open Go.Proofs.Tryz List Go.RowKit
def aY {α:Type} (l:List α) (i:Nat) (x:α):List α:=l.take i++x::l.drop i
theorem qG {α β:Type} (f:α->β) (l:List α) (i:Nat) (x:α):(aY l i x).map f=(l.map f).take i++f x::(l.map f).drop i:=by simp[aY,map_take,map_drop]
theorem qH (f:Nat->Int):∀(b lo hi:Nat),lo<=hi->dO f b lo hi<=hi
 |0,lo,hi,h=>h
 | b +1,lo,hi,h=>by
   unfold dO;split
   .split
    .exact qH f b _ _ (by omega)
    have:=qH f b lo ((lo+hi)/2) (by omega);omega
   exact h
theorem aTQ (es:List PEnt) (s:ByteArray):cZ es s<=es.length:=qH _ _ _ _ (Nat.zero_le _)
def PSt.ents (S:PSt) (K:Nat) (x:PIn) (es:List PEnt):PSt:={ S with ins:=S.ins.set K { x with ents:=es}}
def tZ (w:World) (g:Nat):Prop:=∃c t,Blk w g c t/\(t=68\/t=97)
theorem StOwn.setEnts {B:Nat} {w w1:World} {ov mv:Value} {S:PSt} {bi cap K:Nat} {x:PIn} (h:StOwn B w (.slice bi S.ins.length cap) ov mv S) (hx:S.ins[K]? =some x) {ev:Value} (hev:w.cell? ⟨bi,K*4+2,none⟩=some ev)
 {ev':Value} {es':List PEnt} (he:OwnP B w1 97 2 ev' (es'.map PEnt.cells)) (hk:Keep (λk=>ev.ownBlock=some k) w w1) (hfr:∀k,ev'.ownBlock=some k->ev.ownBlock=some k\/w.heap.size<=k) (hB:B<=w.heap.size):
 StOwn B (w1.setCell ⟨bi,K*4+2,none⟩ ev') (.slice bi S.ins.length cap) ov mv (S.ents K x es')/\Below B w (w1.setCell ⟨bi,K*4+2,none⟩ ev')/\Keep (tZ w) w (w1.setCell ⟨bi,K*4+2,none⟩ ev'):=by
 obtain⟨h1,h2,is,h3,h4,h5,h6⟩:=h;obtain⟨hKl,_⟩:=gI.1 hx;have hr:is[K]? =some is[K]:=gE (by omega);obtain⟨a1,a2,a3,a4⟩:=h5 K _ x hr hx;rcases h3 with⟨h0,_⟩|⟨g,cap',arr,heq,hgB,hgb,hnc,hcm,hsz,hri⟩
 .simp at h0
 simp only[zO,zF,yG]at heq;obtain⟨⟨rfl,-,-⟩,hl,rfl⟩:=heq;have a0:ev=is[K].ev:=by have:=hri K is[K].cells (by rw[gM,hr];rfl) 2 _ rfl;rw[hgb.cell,this]at hev;exact(Option.some.inj hev).symm
 have a6:=he.one;have b6:∀k,ev.ownBlock=some k->k≠bi:=λk hk=>by rw[a0]at hk;exact a4.ne_blk hgb (by decide) hk
 have a9:∀k,ev'.ownBlock=some k->k≠bi:=λk hk=>by
  rcases hfr k hk with h|h
  .exact b6 k h
  have:=hgb.lt.lt;omega
 have b0:Blk w1 bi arr 68:=hk.blk hgb (λh=>b6 bi h rfl);have hS:Keep (λk=>k=bi) w1 (w1.setCell ⟨bi,K*4+2,none⟩ ev'):=Keep.setCell (S:=λk=>k=bi) (p:=⟨bi,K*4+2,none⟩) (Keep.refl _ _) (.inl rfl) _;have hT:Keep (λk=>ev.ownBlock=some k\/k=bi) w (w1.setCell ⟨bi,K*4+2,none⟩ ev'):=(hk.mono (λi _ h=>.inl h)).trans (hS.mono (λi _ h=>.inr h)) (λi _ h=>h);have far:∀{e:TypeId} {k:Nat} {v:Value} {rows:List (List Value)},OwnP B w e k v rows->(e=95\/e=3)->OwnP B (w1.setCell ⟨bi,K*4+2,none⟩ ev') e k v rows:=by
  intro e k v rows ho hee;refine ho.keep hT (λg hg hh=>?_);rcases hh with hh|hh
  .rw[a0]at hh;rcases a4 with⟨h0,_⟩|⟨g',_,c',h0,_,hb',_⟩
   .rw[h0]at hh;simp[Value.ownBlock]at hh
   rw[h0]at hh;simp[Value.ownBlock]at hh;subst hh;exact ho.ne_blk hb' (by rcases hee with rfl|rfl<;>decide) hg rfl
  exact ho.ne_blk hgb (by rcases hee with rfl|rfl<;>decide) hg hh
 have b5:K<is.length:=by omega
 have a7:(is.map IRec.cells).set K (is[K].cells.set 2 ev')=(is.set K ⟨is[K].num,is[K].dir,ev',is[K].data,a6⟩).map IRec.cells:=by rw[map_set];rfl
 have b7:K*4+2<arr.size:=by rw[lM]at hnc;omega
 refine⟨⟨far h1 (.inl rfl),far h2 (.inr rfl),is.set K ⟨is[K].num,is[K].dir,ev',is[K].data,a6⟩,.inr ⟨bi,cap,arr.setIfInBounds (K*4+2) ev',?_,hgB,b0.set_ _ _,?_,hcm,by rw[Array.size_setIfInBounds];exact hsz,?_⟩,?_,?_,?_⟩,hT.below hB ?_,hT.mono ?_⟩
 .rw[lM,yB,h4]
 .rw[lM,yB];rw[lM]at hnc;exact hnc
 .rw[<-a7];exact hri.set (gL _) (by rw[gM,hr];rfl) (by decide) b7 _
 .show(is.set K _).length=(S.ins.set K _).length;rw[yB,yB,h4]
 .intro q r x' hq a5;have a5:(S.ins.set K { x with ents:=es'})[q]? =some x':=a5;by_cases e:K=q
  .subst e;rw[zY b5]at hq;rw[zY hKl]at a5;cases hq;cases a5;exact⟨a1,a2,a3,he.keep hS (λk hk=>a9 k hk)⟩
  rw[zX e]at hq a5;obtain⟨b1,b2,b3,b4⟩:=h5 q r x' hq a5;refine⟨b1,b2,b3,b4.keep hT (λk hk hh=>?_)⟩;rcases hh with hh|hh
  .rw[a0]at hh;exact h6 K q _ r e hr hq k hh hk
  exact b4.ne_blk hgb (by decide) hk hh
 .intro p q r r' hpq hp hq k hk;have a8:∀(j:Nat) (rb:IRec),is[j]? =some rb->∀k,rb.ev.ownBlock=some k->k<w.heap.size:=by
   intro j rb hj k hk;obtain⟨hjl,_⟩:=gI.1 hj;obtain⟨xb,hxb⟩:∃xb,S.ins[j]? =some xb:=⟨_,gE (by omega)⟩;exact(h5 j rb xb hj hxb).2.2.2.lt hk
  by_cases e:K=p
  .subst e;rw[zY b5]at hp;rw[zX hpq]at hq;cases hp;intro h;rcases hfr k hk with h'|h'
   .rw[a0]at h';exact h6 K q _ r' hpq hr hq k h' h
   have:=a8 q r' hq k h;omega
  rw[zX e]at hp;by_cases e2:K=q
  .subst e2;rw[zY b5]at hq;cases hq;intro h;rcases hfr k h with h'|h'
   .rw[a0]at h';exact h6 K p _ r (λe=>hpq e.symm) hr hp k h' hk
   have:=a8 p r hp k hk;omega
  rw[zX e2]at hq;exact h6 p q r r' hpq hp hq k hk
 .intro i hi hh;rcases hh with hh|hh
  .rw[a0]at hh;have:=a4.ge hh;omega
  omega
 intro g _ hh;rcases hh with hh|hh
 .rw[a0]at hh;rcases a4 with⟨h0,_⟩|⟨g',_,c',h0,_,hb',_⟩
  .rw[h0]at hh;simp[Value.ownBlock]at hh
  rw[h0]at hh;simp[Value.ownBlock]at hh;subst hh;exact⟨_,97,hb',.inr rfl⟩
 exact⟨_,68,by rw[hh];exact hgb,.inl rfl⟩
theorem aPG (e:PEnt):∀u∈e.cells,u.oneCell'=true:=λu h=>by
 simp only[PEnt.cells,mem_cons,not_mem_nil,or_false]at h;rcases h with rfl|rfl<;>rfl
theorem uA (B:Nat) (w:World) (ov mv:Value) (S:PSt) (bi cap K:Nat) (x:PIn) (s:ByteArray) (num:Int) (h:StOwn B w (.slice bi S.ins.length cap) ov mv S) (hx:S.ins[K]? =some x) (hB:B<=w.heap.size) (hl:x.ents.length<=100000):
 Calls prog 175 #[.pointer (some ⟨bi,K*4,none⟩),s,num] w λe w'=>e=.returned (.tuple #[])/\Below B w w'/\Keep (tZ w) w w'/\StOwn B w' (.slice bi S.ins.length cap) ov mv (S.ents K x (aY x.ents (cZ x.ents s) ⟨s,num⟩)):=by
 have a1:=h.read;obtain⟨ai,capi,he,hat⟩:=a1.ins_at2;simp only[zO]at he;obtain⟨rfl,-,rfl⟩:=he;obtain⟨bi',off',ev,he,iG,hone,hrow,hcl⟩:=hat K x hx;simp only[zF,yG]at he;obtain⟨rfl,rfl,-⟩:=he;obtain⟨-,-,-,y2,-⟩:=hcl w (Below.refl _ _);rw[zM]at y2;obtain⟨hKl,_⟩:=gI.1 hx;have b0:w.frozen? ⟨bi,K*4+2,none⟩=false:=by
  obtain⟨_,_,is,h3,_⟩:=h;rcases h3 with⟨h0,_⟩|⟨g,cap',arr,heq,hgB,hgb,_⟩
  .simp at h0
  simp only[zO,zF,yG]at heq;obtain⟨⟨rfl,-,-⟩,-,-⟩:=heq;exact hgb.frozen _
 have a0:OwnP B w 97 2 ev (x.ents.map PEnt.cells):=by
  obtain⟨_,_,is,h3,h4,h5,_⟩:=h;have hr:is[K]? =some is[K]:=gE (by omega);rcases h3 with⟨h0,_⟩|⟨g,cap',arr,heq,hgB,hgb,_,_,_,hri⟩
  .simp at h0
  simp only[zO,zF,yG]at heq;obtain⟨⟨rfl,-,-⟩,-,-⟩:=heq;have:=hri K is[K].cells (by rw[gM,hr];rfl) 2 _ rfl;rw[hgb.cell,this]at y2;have e:is[K].ev=ev:=Option.some.inj y2;rw[<-e];exact(h5 K _ x hr hx).2.2.2
 have a5:∃arr,Blk w bi arr 68/\K*4+2<arr.size:=by
  obtain⟨_,_,is,h3,h4,h5,_⟩:=h;rcases h3 with⟨h0,_⟩|⟨g,cap',arr,heq,hgB,hgb,hnc,_,hsz,hri⟩
  .simp at h0
  simp only[zO,zF,yG]at heq;obtain⟨⟨rfl,-,-⟩,-,-⟩:=heq;rw[lM]at hnc;exact⟨arr,hgb,by omega⟩
 obtain⟨arr,hgb,has⟩:=a5;have HB:=aC hgb;have a6:∀k,ev.ownBlock=some k->k≠bi:=λk hk=>a0.ne_blk hgb (by decide) hk;have HN:=aC a6;clear hgb a6;have a2:∀ww,Bl w ww->Calls prog 171 #[ev,s] ww _:=λww hb=>oS x.ents ev s ww (hrow.below hb (zC _)) (by omega);have a3:∀ww gv,Bl w ww->w.heap.size<=gv->Blk ww gv #[s,num] 97->Calls prog 202 #[ev,.int .i64 (cZ x.ents s),.slice (some ⟨gv,0,none⟩) 1 1] ww _:=λww gv hb hg hgv=>
  aOA B ev (x.ents.map PEnt.cells) (cZ x.ents s) gv (PEnt.cells ⟨s,num⟩) ww (a0.keep (Keep.of_below hb (λ_=>False)) (λ_ _ h=>h)) (pJ _) (sJ _) (by rw[lM];exact aTQ _ _) (by rw[lM];omega) hgv rfl (aPG _) (λe=>by have:=a0.lt e;omega) (zD hB hb.size)
 have a9:=aTQ x.ents s;have HH:=eH h a0 hx;obtain⟨ea,en,ec,rfl⟩:=a0.form;generalize cZ x.ents s=bs at a2 a3 a9 |-;generalize bT x.ents s=hh at a2;clear h a1 hat hcl hrow a0 hx;go_in;go_wp2_with(first|(go_at_call 171;refine aE (a2 _ (bel _ _)) λp=>?_)|(go_at_call 202;refine(a3 _ _ (bel _ _) (by simp) (by repeat(first|exact Blk.new_i _ _ _ _|refine Blk.alloc ?_ _))).mono ?_;rintro e w2 ⟨v',rfl,ho2,hk2,hf2⟩;have a4:=hk2.blk (b:=bi) (c:=arr) (t:=68) (by repeat(first|exact HB.out|refine Blk.alloc ?_ _|refine Blk.junk ?_ _)) (λh=>HN.out _ h rfl);have a7:=(Keep.of_below (bel w _) (λk=>(Value.slice ea en ec).ownBlock=some k)).trans hk2 (λ_ _ h=>h);have a8:∀k,v'.ownBlock=some k->(Value.slice ea en ec).ownBlock=some k\/w.heap.size<=k:=λk hk=>(hf2 k hk).imp id (λh=>zD (bel w _).size h);obtain⟨va,vn,vc,rfl⟩:=ho2.form;have b1:=a4.lt;have f2:=a4.frozen (K*4+2);obtain⟨u2,c2⟩:∃u2,w2.cell? ⟨bi,K*4+2,none⟩=some u2:=⟨arr[K*4+2],by rw[a4.cell];exact yA has⟩;have H2:=eH ho2 a7 a8;clear ho2 hk2 hf2 a4 a7 a8));refine xE (v:=.tuple #[]) (by simp[results,go_sem]) rfl ?_;obtain⟨r1,r2,r3⟩:=HH.out.1.setEnts HH.out.2.2 y2 (es':=aY x.ents bs ⟨s,num⟩) (by rw[qG];exact H2.out.1) H2.out.2.1 H2.out.2.2 hB;exact⟨rfl,r2,r3,r1⟩
section
theorem pU {α:Type} (l:List α) (i:Nat) (x:α) (hi:i<=l.length) (q:Nat):(aY l i x)[q]? =if q<i then l[q]? else if q=i then some x else l[q-1]? :=by
 unfold aY;have a0:(l.take i).length=i:=by rw[zU];omega
 by_cases h1:q<i
 .rw[zB h1,zZ (by omega),yO,zB h1]
 rw[zA h1,yC (by omega),a0];by_cases h2:q=i
 .rw[zB h2,h2,Nat.sub_self];rfl
 rw[zA h2,show q-i=(q-i-1)+1 by omega,zV,yN];congr 1;omega
theorem aBR {α:Type} (l:List α) (i:Nat) (x:α) (hi:i<=l.length):(aY l i x).length=l.length+1:=by unfold aY;rw[lP,zU,zK,yK];omega
variable {k:Nat}
theorem RowsIn.set1 {arr:Array Value} {xs:List Int} (h:RowsIn arr 1 (xs.map aJ)) (hk:k<xs.length) (hs:k<arr.size) (v:Int):RowsIn (arr.setIfInBounds k (.int .i64 v)) 1 ((xs.set k v).map aJ):=by have:=h.set (vP xs) (q:=k) (t:=0) (cs:=aJ xs[k]) (by rw[gM,gE hk];rfl) (by decide) (by omega) (.int .i64 v);rw[Nat.mul_one,zN]at this;rw[map_set];exact this
theorem StOwn.setMade {B:Nat} {w:World} {iv ov:Value} {S:PSt} {gm cap:Nat} (h:StOwn B w iv ov (.slice gm S.made.length cap) S) (hk:k<S.made.length) (v:Int):
 StOwn B (w.setCell ⟨gm,k,none⟩ (.int .i64 v)) iv ov (.slice gm S.made.length cap) { S with made:=S.made.set k v}/\B<=gm/\∃c,Blk w gm c 3:=by
 obtain⟨h1,h2,is,h3,h4,h5,h6⟩:=h;rcases h2 with⟨h0,_⟩|⟨g,cap',arr,heq,hgB,hgb,hnc,hcm,hsz,hri⟩
 .simp at h0
 simp only[zO,zF,yG]at heq;obtain⟨⟨rfl,-,-⟩,-,rfl⟩:=heq;have hK:Keep (λx=>x=gm) w (w.setCell ⟨gm,k,none⟩ (.int .i64 v)):=Keep.setCell (S:=λx=>x=gm) (p:=⟨gm,k,none⟩) (Keep.refl _ _) (.inl rfl) _;have key:∀{e:TypeId} {n:Nat} {u:Value} {rows:List (List Value)},OwnP B w e n u rows->e≠3->OwnP B (w.setCell ⟨gm,k,none⟩ (.int .i64 v)) e n u rows:=by intro e n u rows ho he;exact ho.keep hK (λg hg hx=>ho.ne_blk hgb he hg hx)
 rw[lM]at hnc;refine⟨⟨key h1 (by decide),.inr ⟨gm,cap,arr.setIfInBounds k (.int .i64 v),?_,hgB,hgb.set_ _ _,?_,hcm,by rw[Array.size_setIfInBounds];exact hsz,hri.set1 hk (by omega) v⟩,is,key h3 (by decide),h4,λq r x hr hx=>?_,h6⟩,hgB,_,hgb⟩
 .show Value.slice gm S.made.length cap=.slice gm ((S.made.set k v).map aJ).length cap;rw[lM,yB]
 .show((S.made.set k v).map aJ).length<=cap;rw[lM,yB];exact hnc
 obtain⟨a1,a2,a3,a4⟩:=h5 q r x hr hx;exact⟨a1,a2,a3,key a4 (by decide)⟩
theorem aVN (ns:List Int) (n:Int):lQ ns n<=ns.length:=qH _ _ _ _ (Nat.zero_le _)
theorem tG (S:PSt) (K:Nat) (x:PIn) (es:List PEnt) (hx:S.ins[K]? =some x):(S.ents K x es).nums=S.nums:=by
 unfold PSt.nums PSt.ents;apply ext_getElem?;intro q;rw[gM,gM];by_cases e:K=q
 .subst e;obtain⟨hl,_⟩:=gI.1 hx;rw[zY hl,hx];rfl
 rw[zX e]
end
section
def dF (S:PSt) (c:PCall) (K:Nat) (x:PIn) (l:ByteArray) (m:Int):PSt:=
 { ins:=aY (S.ents K x (aY x.ents (cZ x.ents l) ⟨l,2+c.core+8*m⟩)).ins (lQ S.nums (2+c.core+8*m)) ⟨2+c.core+8*m,c.kind==1,[],⟨#[]⟩⟩,op:=S.op,made:=S.made.set c.core.toNat (m+1)}
def pV (S:PSt) (c:PCall) (r:PRes):Except Int (PSt × PRes):=
 match bC S (aA c.path).2 with
 |.error k=>.error k
 | .ok (K,l)=>match S.ins[K]? with
   |none=>.error 0
   | some x=>if bT x.ents l=true then .error 2 else match S.made[c.core.toNat]? with
     |none=>.error 0
     |some m=>if(fB x.ents l ⟨#[]⟩||decide (32<=m))=true then .error 5 else .ok (dF S c K x l m,r)
structure Small (S:PSt):Prop where
 ins:S.ins.length<=257
 ents:∀x∈S.ins,x.ents.length<=100000
 made:S.made.length<=8
 each:∀m∈S.made,0<=m/\m<=32
structure Opened (B:Nat) (w:World) (d b bi gm:Nat) (capi capm:Nat) (ov nv:Value) (S:PSt) (c:PCall) (r:PRes):Prop where
 hBb:B<=b
 hBd:B<=d
 hD:Blk w d (jY b c r nv) 136
 hb:Blk w b #[.slice bi S.ins.length capi,ov,.slice gm S.made.length capm] 26
 st:StOwn B w (.slice bi S.ins.length capi) ov (.slice gm S.made.length capm) S
 nm:OwnP B w 9 1 nv (r.names.map cL)
variable {B b bi capi capm d gm k:Nat} {S:PSt} {c:PCall} {nv ov:Value} {r:PRes} {w:World}
theorem DoAt.open_ (h:DoAt B w d b S c r) (h1:0<S.ins.length) (h2:0<S.made.length):∃bi gm capi capm ov nv,Opened B w d b bi gm capi capm ov nv S c r:=by obtain⟨iv,ov,mv,nv,hBb,hBd,hD,hbk,hst,hnv⟩:=h;have a0:=hst;obtain⟨o1,o2,is,o3,o4,_⟩:=a0;obtain⟨gm,capm,rfl,_⟩:=o2.some_ (by rw[lM];exact h2);obtain⟨bi,capi,rfl,_⟩:=o3.some_ (by rw[lM,o4];exact h1);rw[lM]at hbk hst;rw[lM,o4]at hbk hst;exact⟨bi,gm,capi,capm,ov,nv,hBb,hBd,hD,hbk,hst,hnv⟩
theorem Opened.below {w':World} (h:Opened B w d b bi gm capi capm ov nv S c r) (hb:Bl w w'):Opened B w' d b bi gm capi capm ov nv S c r:=by have hk:Keep (λ_=>False) w w':=Keep.of_below hb _;exact⟨h.hBb,h.hBd,hk.blk h.hD id,hk.blk h.hb id,h.st.keep hk (λ_ h=>h.elim),h.nm.keep hk (λ_ _ h=>h)⟩
theorem Opened.at_ (h:Opened B w d b bi gm capi capm ov nv S c r):DoAt B w d b S c r:=
 ⟨_,_,_,_,h.hBb,h.hBd,h.hD,h.hb,h.st,h.nm⟩
structure Reads (w:World) (d b bi gm:Nat) (capi capm:Nat) (S:PSt) (c:PCall):Prop where
 d0:w.cell? d=some (.pointer b)
 d1:w.cell? ⟨d,1,none⟩=some (.int .i64 c.kind)
 d2:w.cell? ⟨d,2,none⟩=some (.int .i64 c.core)
 d6:w.cell? ⟨d,6,none⟩=some (.string c.path)
 b0:w.cell? b=some (.slice bi S.ins.length capi)
 b2:w.cell? ⟨b,2,none⟩=some (.slice gm S.made.length capm)
 fb0:w.frozen? b=false
 iD:BlockLt d w
 iB:BlockLt b w
theorem Opened.reads (h:Opened B w d b bi gm capi capm ov nv S c r):Reads w d b bi gm capi capm S c:=
 ⟨h.hD.cell 0,h.hD.cell 1,h.hD.cell 2,h.hD.cell 6,h.hb.cell 0,h.hb.cell 2,h.hb.frozen 0,h.hD.lt,h.hb.lt⟩
theorem Opened.made_at (h:Opened B w d b bi gm capi capm ov nv S c r) {m:Int} (hm:S.made[k]? =some m):
 BlockLt gm w/\w.cell? ⟨gm,k,none⟩=some (.int .i64 m)/\w.frozen? ⟨gm,k,none⟩=false:=by
 obtain⟨_,h2,_⟩:=h.st;rcases h2 with⟨h0,_⟩|⟨g,cap',arr,heq,hgB,hgb,hnc,hcm,hsz,hri⟩
 .simp at h0
 simp only[zO,zF,yG]at heq;obtain⟨⟨rfl,-,-⟩,-,rfl⟩:=heq;refine⟨hgb.lt,?_,hgb.frozen _⟩;have:=hri k (aJ m) (by rw[gM,hm];rfl) 0 _ rfl;rw[Nat.mul_one,zN]at this;rw[hgb.cell];exact this
theorem Opened.ino_at (h:Opened B w d b bi gm capi capm ov nv S c r) {K:Nat} {x:PIn} (hx:S.ins[K]? =some x):
 BlockLt bi w/\∃ev,w.cell? ⟨bi,K*4+2,none⟩=some ev/\RowAt w 2 ev (x.ents.map PEnt.cells):=by
 obtain⟨ai,capi',he,hat⟩:=h.st.read.ins_at2;simp only[zO]at he;obtain⟨rfl,-,rfl⟩:=he;obtain⟨bi',off',ev,he,iG,hone,hrow,hcl⟩:=hat K x hx;simp only[zF,yG]at he;obtain⟨rfl,rfl,-⟩:=he;obtain⟨i1,-,-,y2,-⟩:=hcl w (Below.refl _ _);rw[zM]at y2;exact⟨i1,ev,y2,hrow⟩
theorem aFO {g:Nat} {c:Array Value} {t:TypeId} (h:Blk w g c t) (h1:t≠68) (h2:t≠97):¬tZ w g:=by
 rintro⟨c',t',hb,ht⟩;rcases ht with rfl|rfl
 .exact h.ne_ hb h1 rfl
 exact h.ne_ hb h2 rfl
theorem aEA {e:TypeId} {v:Value} {rows:List (List Value)} (h:OwnP B w e k v rows) (h1:e≠68) (h2:e≠97):∀g,v.ownBlock=some g->¬tZ w g:=by
 intro g hg hi;obtain⟨c',t',hb,ht⟩:=hi;rcases ht with rfl|rfl
 .exact h.ne_blk hb h1 hg rfl
 exact h.ne_blk hb h2 hg rfl
end
section
variable {B K b bi capi capm d gm k:Nat} {S:PSt} {c:PCall} {l:ByteArray} {mv nv ov:Value} {r:PRes} {w w1:World} {x:PIn}
theorem mP {ns:List ByteArray} (h:bC S ns=.ok (K,l)):∃x,S.ins[K]? =some x/\x.dir=true:=by
 unfold bC at h;split at h
 .cases h
 split at h
 .cases h
 split at h
 .rename_i x hx
  split at h
  .rename_i hd
   cases h;exact⟨x,hx,hd⟩
  cases h
 cases h
structure At1 (B:Nat) (w w1:World) (d b bi gm capi capm:Nat) (ov nv:Value) (S:PSt) (c:PCall) (r:PRes) (K k:Nat) (x:PIn) (m:Int) (l:ByteArray) (ea:Option Addr) (ec:Nat):Prop where
 below:Bl w w1
 o:Opened B w1 d b bi gm capi capm ov nv S c r
 ent:vB w1 171 #[.slice ea x.ents.length ec,.string l] (.tuple #[.int .i64 (cZ x.ents l),.bool (bT x.ents l)])
 ful:vB w1 173 #[.pointer (some ⟨bi,K*4,none⟩),.string l,.string ⟨#[]⟩] (.bool (fB x.ents l ⟨#[]⟩))
 iBi:BlockLt bi w1
 y2:w1.cell? ⟨bi,K*4+2,none⟩=some (.slice ea x.ents.length ec)
 iGm:BlockLt gm w1
 m0:w1.cell? ⟨gm,k,none⟩=some (.int .i64 m)
theorem at1 {m:Int} (ho:Opened B w d b bi gm capi capm ov nv S c r) (hb:Bl w w1) (hx:S.ins[K]? =some x) (hm:S.made[k]? =some m) (hs:Small S):
 ∃ea ec,At1 B w w1 d b bi gm capi capm ov nv S c r K k x m l ea ec:=by
 have o1:=ho.below hb;obtain⟨iBi,ev,y2,hrow⟩:=o1.ino_at hx;obtain⟨iGm,m0,_⟩:=o1.made_at hm;have a0:=hrow;obtain⟨ea,ec,rfl,_⟩:=a0;have hl:=hs.ents x (mG hx);rw[lM]at y2 hrow;refine⟨ea,ec,hb,o1,λww hww=>oS x.ents _ l ww (hrow.below hww (zC _)) (by omega),λww hww=>aLV bi (K*4) x.ents _ l _ ww ⟨by have:=iBi.lt;have:=hww.size;omega⟩ ((hww.cell (p:=⟨bi,K*4+2,none⟩) iBi.lt).trans y2) (hrow.below hww (zC _)) (by omega),iBi,y2,iGm,m0⟩
theorem Opened.put {w3:World} {es:List PEnt} (o:Opened B w d b bi gm capi capm ov nv S c r) (hk:Keep (tZ w) w w3)
 (hst:StOwn B w3 (.slice bi S.ins.length capi) ov (.slice gm S.made.length capm) (S.ents K x es)):Opened B w3 d b bi gm capi capm ov nv (S.ents K x es) c r:=by
 have hl:(S.ents K x es).ins.length=S.ins.length:=by unfold PSt.ents;simp
 have hb:=hk.blk o.hb (aFO o.hb (by decide) (by decide));refine⟨o.hBb,o.hBd,hk.blk o.hD (aFO o.hD (by decide) (by decide)),?_,?_,o.nm.keep hk (aEA o.nm (by decide) (by decide))⟩
 .rw[hl];exact hb
 rw[hl];exact hst
theorem Opened.setMade (o:Opened B w d b bi gm capi capm ov nv S c r) (hk:k<S.made.length) (v:Int):
 Opened B (w.setCell ⟨gm,k,none⟩ (.int .i64 v)) d b bi gm capi capm ov nv { S with made:=S.made.set k v} c r/\B<=gm:=by
 obtain⟨h1,h2,cm,h3⟩:=o.st.setMade hk v;have hK:Keep (λx=>x=gm) w (w.setCell ⟨gm,k,none⟩ (.int .i64 v)):=Keep.setCell (S:=λx=>x=gm) (p:=⟨gm,k,none⟩) (Keep.refl _ _) (.inl rfl) _;have hl:(S.made.set k v).length=S.made.length:=yB;refine⟨⟨o.hBb,o.hBd,hK.blk o.hD (o.hD.ne_ h3 (by decide)),?_,?_,o.nm.keep hK (λg hg=>o.nm.ne_blk h3 (by decide) hg)⟩,h2⟩
 .show Blk _ b #[_,ov,.slice gm (S.made.set k v).length capm] 26;rw[hl];exact hK.blk o.hb (o.hb.ne_ h3 (by decide))
 show StOwn B _ _ ov (.slice gm (S.made.set k v).length capm) _;rw[hl];exact h1
theorem StOwn.search {iv:Value} (h:StOwn B w iv ov mv S) (hl:S.ins.length<=1000000000) (n:Int):∀ww,Bl w ww->Calls prog 134 #[iv,n,.func (.func 176) #[] #[]] ww λe w'=>(∃hit,e=.returned (.tuple #[.int .i64 (lQ S.nums n),.bool hit]))/\Bl ww w':=by
 intro ww hb;obtain⟨_,_,is,h3,h4,h5,_⟩:=h;have hn:is.map IRec.num=S.nums:=by
  apply ext_getElem?;intro q;rw[PSt.nums,gM,gM];by_cases hq:q<is.length
  .have a0:q<S.ins.length:=by omega
   have:=(h5 q is[q] S.ins[q] (gE hq) (gE a0)).1;rw[gE hq,gE a0];simp[this]
  rw[getElem?_eq_none (by omega),getElem?_eq_none (by omega)];rfl
 refine(aXX is iv n ww (h3.row.below hb (zC _)) (by omega)).mono ?_;rintro e w' ⟨rfl,hb'⟩;rw[<-hn,<-aVE];exact⟨⟨_,rfl⟩,hb'⟩
theorem aLN {iv':Value} {X:Nat->Prop} (is:List IRec) (h1:OwnP B w 95 3 ov (S.op.map PDesc.cells)) (h2:OwnP B w 3 1 mv (S.made.map aJ)) (h4:is.length=S.ins.length)
 (h5:∀(q:Nat) (r:IRec) (x:PIn),is[q]? =some r->S.ins[q]? =some x->r.num=x.num/\r.dir=x.dir/\r.data=x.data/\OwnP B w 97 2 r.ev (x.ents.map PEnt.cells)) (h6:∀(p q:Nat) (r r':IRec),p≠q->is[p]? =some r->is[q]? =some r'->∀g,r.ev.ownBlock=some g->r'.ev.ownBlock≠some g) (hk:Keep X w w1) (hX:∀g,X g->∃c,Blk w g c 68) (i:Nat) (hi:i<=S.ins.length) (num:Int) (dir:Bool)
 (hiv:OwnP B w1 68 4 iv' ((is.map IRec.cells).take i++[.int .i64 num,.bool dir,.slice none 0 0,.string ⟨#[]⟩]::(is.map IRec.cells).drop i)):
 StOwn B w1 iv' ov mv { S with ins:=aY S.ins i ⟨num,dir,[],⟨#[]⟩⟩}:=by
 have key:∀{e:TypeId} {k:Nat} {v:Value} {rows:List (List Value)},OwnP B w e k v rows->e≠68->OwnP B w1 e k v rows:=by intro e k v rows ho he;refine ho.keep hk (λg hg hx=>?_);obtain⟨c,hc⟩:=hX g hx;exact ho.ne_blk hc he hg rfl
 have a0:∀(q:Nat) (r:IRec) (x:PIn),is[q]? =some r->S.ins[q]? =some x->r.num=x.num/\r.dir=x.dir/\r.data=x.data/\OwnP B w1 97 2 r.ev (x.ents.map PEnt.cells):=λq r x hr hx=>by obtain⟨a1,a2,a3,a4⟩:=h5 q r x hr hx;exact⟨a1,a2,a3,key a4 (by decide)⟩
 refine⟨key h1 (by decide),key h2 (by decide),aY is i ⟨num,dir,.slice none 0 0,⟨#[]⟩,rfl⟩,?_,?_,?_,?_⟩
 .have:=hiv;rw[qG];exact this
 .show(aY is i _).length=(aY S.ins i _).length;rw[aBR _ _ _ (by omega),aBR _ _ _ hi,h4]
 .intro q r x hr hx;have hx:(aY S.ins i ⟨num,dir,[],⟨#[]⟩⟩)[q]? =some x:=hx;rw[pU _ _ _ (by omega)]at hr;rw[pU _ _ _ hi]at hx;by_cases c1:q<i
  .rw[zB c1]at hr hx;exact a0 q r x hr hx
  rw[zA c1]at hr hx;by_cases c2:q=i
  .rw[zB c2]at hr hx;cases hr;cases hx;exact⟨rfl,rfl,rfl,.inl ⟨rfl,rfl⟩⟩
  rw[zA c2]at hr hx;exact a0 (q-1) r x hr hx
 intro p q r r' hpq hp hq k hkk;rw[pU _ _ _ (by omega)]at hp hq;have a5:∀(p:Nat) (r:IRec),(if p<i then is[p]? else if p=i then some (⟨num,dir,.slice none 0 0,⟨#[]⟩,rfl⟩:IRec)else is[p-1]?)=some r->(p=i/\r.ev.ownBlock=none)\/(p≠i/\is[if p<i then p else p-1]? =some r):=by
  intro p r hp;by_cases c1:p<i
  .rw[zB c1]at hp;exact .inr ⟨by omega,by rw[zB c1];exact hp⟩
  rw[zA c1]at hp;by_cases c2:p=i
  .rw[zB c2]at hp;cases hp;exact .inl ⟨c2,rfl⟩
  rw[zA c2]at hp;exact .inr ⟨c2,by rw[zA c1];exact hp⟩
 rcases a5 p r hp with⟨_,h0⟩|⟨np,h0⟩
 .rw[h0]at hkk;cases hkk
 rcases a5 q r' hq with⟨_,h1'⟩|⟨nq,h1'⟩
 .rw[h1'];exact λh=>by cases h
 refine h6 _ _ r r' ?_ h0 h1' k hkk;split<;>split<;>omega
theorem aIP (S:PSt) (c:PCall) (K k:Nat) (x:PIn) (l:ByteArray) (m:Int) (hk:c.core=k) (hx:S.ins[K]? =some x):
 dF S c K x l m={ ({ S.ents K x (aY x.ents (cZ x.ents l) ⟨l,2+(k:Int)+8*m⟩)with made:=S.made.set k (m+1)}:PSt)with ins:=aY (S.ents K x (aY x.ents (cZ x.ents l) ⟨l,2+(k:Int)+8*m⟩)).ins (lQ ({ S.ents K x (aY x.ents (cZ x.ents l) ⟨l,2+(k:Int)+8*m⟩)with made:=S.made.set k (m+1)}:PSt).nums (2+(k:Int)+8*m)) ⟨2+(k:Int)+8*m,c.kind==1,[],⟨#[]⟩⟩}:=by
 have hn:({ S.ents K x (aY x.ents (cZ x.ents l) ⟨l,2+(k:Int)+8*m⟩)with made:=S.made.set k (m+1)}:PSt).nums=S.nums:=tG S K x _ hx;rw[hn];unfold dF;rw[hk,zJ];rfl
theorem aRB (B d b:Nat) (S:PSt) (c:PCall) (r:PRes) (w:World) (h:DoAt B w d b S c r) (hB:B<=w.heap.size) (hf:Fine S) (hs:Small S) (hp:(aA c.path).1=0) (hpl:(aA c.path).2.length<=1000000000) (hc0:0<=c.core) (hc1:c.core<S.made.length):
 Calls prog 141 #[.pointer d] w (bL B w d b c (pV S c r)):=by
 obtain⟨bi,gm,capi,capm,ov,nv,ho⟩:=h.open_ hf.pos (by omega);have a0:∀ww,Bl w ww->Calls prog 170 #[.pointer d,c.path] ww _:=λww hb=>aCY d b S c c.path ww (h.read.below hb (zC _)) hf hp hpl;obtain⟨d0,d1,d2,d6,b0,b2,-,iD,iBk⟩:=ho.reads;unfold pV;generalize hPM:bC S (aA c.path).2=PM at a0 |-;have HH:=eH ho hf hs;rcases PM with k|⟨K,l⟩
 .simp only;clear h ho hf hs hPM hp hpl b0 b2
  go_in;go_wp2_with(go_at_call 170;refine(a0 _ (bel _ _)).mono ?_;rintro e w1 ⟨hb1,hr⟩;have d8:e=bR k:=hr;clear hr;subst d8);exact⟨rfl,hb1.mono hB,rfl⟩
 obtain ⟨x,hx,_⟩:=mP hPM;obtain⟨k,hk⟩:∃k:Nat,c.core=k:=⟨c.core.toNat,by omega⟩;have d4:k<S.made.length:=by omega
 obtain⟨m,hm⟩:=gAA d4;simp only[hx,hk,zJ,hm];have d9:=hs.each m (mG hm);have e8:k<8:=by have:=hs.made;omega
 rw[hk]at d2;have e9:(k:Int)<S.made.length:=by omega
 have d5:∀w1,Bl w w1->∃ea ec,At1 B w w1 d b bi gm capi capm ov nv S c r K k x m l ea ec:=λw1 hb=>at1 ho hb hx hm hs;have HX:=qM d5 hx hm hk b0;clear h ho hf hs hPM hp hpl d5 hx hm b0 b2;by_cases a5:bT x.ents l=true
 .rw[zB a5]
  go_in;go_wp2_with(first|(go_at_call 170;refine(a0 _ (bel _ _)).mono ?_;rintro e w1 ⟨hb1,hr⟩;obtain⟨bi',off',cap',hci,rfl⟩:∃bi off cap,w.cell? b=some (.slice (some ⟨bi,off,none⟩) S.ins.length cap)/\e=.returned (.tuple #[.pointer (some ⟨bi,off+K*4,none⟩),l]):=hr;have a3:=HX.out.2.2.2.2.symm.trans hci;simp only[zF,zO,yG]at a3;obtain⟨⟨rfl,rfl,-⟩,-,rfl⟩:=a3;rw[zM];obtain⟨ea,ec,h1⟩:=HX.out.1 w1 hb1;obtain⟨e0,e1,e2,e6,g0,g2,fg0,iD1,iK1⟩:=h1.o.reads;rw[HX.out.2.2.2.1]at e2;have c1:=h1.iBi;have y2:=h1.y2;have c2:=h1.iGm;have m0:=h1.m0;have c3:Bel w w1:=⟨hb1⟩;have a4:=aC h1;clear hb1 hci)|(go_at_call 171;refine aE (h1.ent _ (bel _ _)) λp=>?_)|(go_at_call 172;refine aE (aP _ _) λp=>?_));exact⟨rfl,((a4.out.below).trans ((bel w1 _).mono a4.out.below.size)).mono hB,rfl⟩
 rw [zA a5];have a5:bT x.ents l=false:=by simpa using a5
 have e3:=aC a5;generalize hfu:fB x.ents l ⟨#[]⟩=fu;have c4:=aC hfu;clear hfu;rcases fu with _|_
 .by_cases h32:32<=m
  .have b1:decide (32<=m)=true:=decide_eq_true h32;rw[b1];simp only[Bool.or_true,if_true]
   go_in;go_wp2_with(first|(go_at_call 170;refine(a0 _ (bel _ _)).mono ?_;rintro e w1 ⟨hb1,hr⟩;obtain⟨bi',off',cap',hci,rfl⟩:∃bi off cap,w.cell? b=some (.slice (some ⟨bi,off,none⟩) S.ins.length cap)/\e=.returned (.tuple #[.pointer (some ⟨bi,off+K*4,none⟩),l]):=hr;have a3:=HX.out.2.2.2.2.symm.trans hci;simp only[zF,zO,yG]at a3;obtain⟨⟨rfl,rfl,-⟩,-,rfl⟩:=a3;rw[zM];obtain⟨ea,ec,h1⟩:=HX.out.1 w1 hb1;obtain⟨e0,e1,e2,e6,g0,g2,fg0,iD1,iK1⟩:=h1.o.reads;rw[HX.out.2.2.2.1]at e2;have c1:=h1.iBi;have y2:=h1.y2;have c2:=h1.iGm;have m0:=h1.m0;have c3:Bel w w1:=⟨hb1⟩;have a4:=aC h1;clear hb1 hci)|(go_at_call 171;refine aE (h1.ent _ (bel _ _)) λp=>?_)|(go_at_call 172;refine aE (aG _ _) λp=>?_));refine qR ?_
   repeat(go_big_quiet_step (fail))
   refine QN λp=>?_;go_wp2_with(first|(go_at_call 173;refine(h1.ful _ (bel _ _)).mono ?_;rw[c4.out];rintro e w' ⟨rfl,hb⟩;obtain⟨p,rfl⟩:=hb.rest;clear hb)|(go_at_call 172;refine aE (aP _ _) λp=>?_));exact⟨rfl,((a4.out.below).trans ((bel w1 _).mono a4.out.below.size)).mono hB,rfl⟩
  have b1:decide (32<=m)=false:=yM h32;rw[b1];simp only[Bool.or_false,zP,if_false];rw[aIP S c K k x l m HX.out.2.2.2.1 HX.out.2.1];obtain⟨num,hnm⟩:∃num,2+(k:Int)+8*m=num:=⟨_,rfl⟩;have c5:∀ww,vR ww 174 #[.int .i64 k,.int .i64 m] (.int .i64 num):=λww=>by rw[<-hnm];exact aZM k m ⟨by omega,by omega⟩ ⟨d9.1,by omega⟩ ww
  rw[hnm];obtain⟨S1,hS1⟩:∃S1,S.ents K x (aY x.ents (cZ x.ents l) ⟨l,num⟩)=S1:=⟨_,rfl⟩;have b4:∀(w1:World) (ea:Option Addr) (ec:Nat),At1 B w w1 d b bi gm capi capm ov nv S c r K k x m l ea ec->∀ww,Bl w1 ww->Calls prog 175 #[.pointer (some ⟨bi,K*4,none⟩),l,num] ww _:=λw1 ea ec h1 ww hb=>uA B ww ov (.slice gm S.made.length capm) S bi capi K x l num (h1.o.below hb).st HX.out.2.1 (zD hB (zD h1.below.size hb.size)) (HH.out.2.2.ents x (mG HX.out.2.1));have d7:S1.made=S.made:=by rw[<-hS1];rfl
  rw[hS1]at b4 |-;have b3:=eH hS1 hnm d7;clear hS1 hnm d7;have f0:wrap64 (m+1)=m+1:=by simp only[wrap64];omega
  have f1:IntKind.i64.wrap (m+1)=m+1:=I64.wrap ⟨by omega,by omega⟩;go_in;go_wp2_with(first|(go_at_call 170;refine(a0 _ (bel _ _)).mono ?_;rintro e w1 ⟨hb1,hr⟩;obtain⟨bi',off',cap',hci,rfl⟩:∃bi off cap,w.cell? b=some (.slice (some ⟨bi,off,none⟩) S.ins.length cap)/\e=.returned (.tuple #[.pointer (some ⟨bi,off+K*4,none⟩),l]):=hr;have a3:=HX.out.2.2.2.2.symm.trans hci;simp only[zF,zO,yG]at a3;obtain⟨⟨rfl,rfl,-⟩,-,rfl⟩:=a3;rw[zM];obtain⟨ea,ec,h1⟩:=HX.out.1 w1 hb1;obtain⟨e0,e1,e2,e6,g0,g2,fg0,iD1,iK1⟩:=h1.o.reads;rw[HX.out.2.2.2.1]at e2;have c1:=h1.iBi;have y2:=h1.y2;have c2:=h1.iGm;have m0:=h1.m0;have c3:Bel w w1:=⟨hb1⟩;have a4:=aC h1;clear hb1 hci)|(go_at_call 171;refine aE (h1.ent _ (bel _ _)) λp=>?_)|(go_at_call 172;refine aE (aG _ _) λp=>?_));refine qR ?_
  repeat(go_big_quiet_step (fail))
  refine QN λp=>?_;go_wp2_with(first|(go_at_call 173;refine(h1.ful _ (bel _ _)).mono ?_;rw[c4.out];rintro e w' ⟨rfl,hb⟩;obtain⟨p,rfl⟩:=hb.rest;clear hb)|(go_at_call 172;refine aE (aG _ _) λp=>?_)|(go_at_call 174;refine aE (c5 _) λp=>?_)|(go_at_call 175;refine(b4 w1 _ _ a4.out _ (bel w1 _)).mono ?_;rintro e w3 ⟨rfl,hb3,hk3,hs3⟩;rw[<-b3.out.1]at hs3;have o3:=Opened.put (a4.out.o.below (bel w1 _)) hk3 hs3;rw[b3.out.1]at o3;have b5:Below B w w3:=((bel w _).mono hB).trans hb3;obtain⟨q0,q1,q2,q6,p0,p2,fq0,iD3,iK3⟩:=o3.reads;rw[HX.out.2.2.2.1]at q2;obtain⟨iGm3,m3,fm3⟩:=o3.made_at (k:=k) (m:=m) (by rw[b3.out.2.2];exact HX.out.2.2.1);have c6:=bJ o3 b5;clear hb3 hk3 hs3 o3 b5));have c7:k<S1.made.length:=by rw[b3.out.2.2];exact d4
  have e4:(k:Int)<S1.made.length:=by omega
  obtain⟨o4,hBgm⟩:=(c6.out.1.below ((Below.refl w3.heap.size w3).drew)).setMade c7 (m+1);obtain⟨w4,hw4⟩:∃w4,w3.drew.setCell ⟨gm,k,none⟩ (.int .i64 (m+1))=w4:=⟨_,rfl⟩;have a1:Below B w w4:=by rw[<-hw4];have e5:Keep (λx=>x=gm) w3 (w3.drew.setCell ⟨gm,k,none⟩ (.int .i64 (m+1))):=Keep.setCell (S:=λx=>x=gm) (p:=⟨gm,k,none⟩) (Keep.refl _ w3).drew (.inl rfl) _;exact c6.out.2.trans (e5.below (zD hB c6.out.2.size) (λi hi h=>by omega))
  rw[hw4]at o4;have c8:=o4.st.search (by
   have h1:S1.ins.length=S.ins.length:=by rw[<-b3.out.1];unfold PSt.ents;simp
   show S1.ins.length<=1000000000;have:=HH.out.2.2.ins;omega) num
  obtain⟨z0,z1,z2,z6,t0,t2,ft0,iD4,iK4⟩:=o4.reads;have t0:w4.cell? b=some (.slice bi S1.ins.length capi):=t0;have e7:=bJ o4 a1;clear o4 a1;refine aH [16] true (λw'=>w'.cell? d=some (.pointer b)/\w'.cell? ⟨d,2,none⟩=some (.int .i64 k)/\w'.cell? ⟨b,2,none⟩=some (.slice gm S1.made.length capm)/\w'.cell? ⟨gm,k,none⟩=some (.int .i64 m)) (by kernel_rfl) (by kernel_rfl) ?_ ?_
  · (try dsimp only);(repeat' apply And.intro)<;>go_simp
  repeat
   apply aI0 rfl rfl
   focus
    rintro w' ⟨s0,s1,s2,s3⟩;go_simp
    first|done|rfl
   simp only[Act.put,sA,sZ,sS]
  refine aW rfl rfl ?_;refine⟨w4,?_,.inr ⟨rfl,rfl⟩,?_⟩
  focus
   go_simp
   first|done|exact hw4|rfl
  simp only[Act.put,sA,sZ,sS];refine aU ?_;have f2:=aC hw4;clear hw4;go_wp2_with(go_at_call 134;refine(c8 _ (bel w4 _)).mono ?_;rintro e w' ⟨⟨hit,rfl⟩,hb⟩;obtain⟨p,rfl⟩:=hb.rest;clear hb);have f3:(c.kind==1)=(c.kind==1):=rfl;refine aH [20,21,24] true (λw'=>w'.cell? d=some (.pointer b)/\w'.cell? b=some (.slice bi S1.ins.length capi)/\w'.cell? ⟨d,1,none⟩=some (.int .i64 c.kind)) (by kernel_rfl) (by kernel_rfl) ?_ ?_
  · (try dsimp only);(repeat' apply And.intro)<;>go_simp
  repeat
   apply aI0 rfl rfl
   focus
    rintro w' ⟨s0,s1,s2⟩;go_simp
    first|done|rfl
   simp only[Act.put,sA,sZ,sS]
  refine nS rfl rfl ?_;apply Exists.intro;apply Exists.intro;refine⟨?_,?_,?_⟩
  focus
   go_simp;exact⟨rfl,rfl⟩
  focus
   refine .inl ⟨?_,?_,?_⟩<;>go_simp
  simp only[Act.put,sA,sZ,sS];obtain⟨o4,a1⟩:=e7.out;obtain⟨u1,u2,is,u3,u4,u5,u6⟩:=o4.st;have u4:is.length=S1.ins.length:=u4;have f4:({ S1 with made:=S1.made.set k (m+1)}:PSt).nums.length=S1.ins.length:=by unfold PSt.nums;rw[lM]
  have f5:=aVN ({ S1 with made:=S1.made.set k (m+1)}:PSt).nums num;have f6:S1.ins.length<=257:=by
   have h1:S1.ins.length=S.ins.length:=by rw[<-b3.out.1];unfold PSt.ents;simp
   have:=HH.out.2.2.ins;omega
  have b6:B<=w4.heap.size:=zD hB a1.size;have b7:∀ww gv,Bl w4 ww->w4.heap.size<=gv->Blk ww gv #[num,.bool (c.kind==1),.slice none 0 0,.string ⟨#[]⟩] 68->Calls prog 177 #[.slice bi S1.ins.length capi,.int .i64 (lQ ({ S1 with made:=S1.made.set k (m+1)}:PSt).nums num),.slice (some ⟨gv,0,none⟩) 1 1] ww _:=λww gv hb hg hgv=>
   aOB B _ (is.map IRec.cells) (lQ ({ S1 with made:=S1.made.set k (m+1)}:PSt).nums num) gv [.int .i64 num,.bool (c.kind==1),.slice none 0 0,.string ⟨#[]⟩] ww (u3.keep (Keep.of_below hb (λ_=>False)) (λ_ _ h=>h)) (gL _) (pK _) (by rw[lM];omega) (by rw[lM];omega) hgv rfl (by intro u hu;simp only[mem_cons,not_mem_nil,or_false]at hu;rcases hu with rfl|rfl|rfl|rfl<;>rfl) (λe=>by have:=u3.lt e;omega) (zD b6 hb.size)
  refine bB rfl rfl ?_;refine aS 177 #[.slice bi S1.ins.length capi,.int .i64 (lQ ({ S1 with made:=S1.made.set k (m+1)}:PSt).nums num),.slice (some ⟨w4.heap.size+p.drew.len,0,none⟩) 1 1] ?hr ?_
  case hr=>
   go_simp
   first|done|rfl
  refine(b7 ((w4.junk p.drew).alloc (.cells #[num,.bool (c.kind==1),.slice none 0 0,.string ⟨#[]⟩] 68)) (w4.heap.size+p.drew.len) (bel w4 _) (by omega) (Blk.new_i _ _ _ _)).mono ?_;rintro e w5 ⟨v',rfl,ho5,hk5,_⟩;have a2:=(Keep.of_below (bel w4 ((w4.junk p.drew).alloc (.cells #[num,.bool (c.kind==1),.slice none 0 0,.string ⟨#[]⟩] 68))) (λg=>(Value.slice bi S1.ins.length capi).ownBlock=some g)).trans hk5 (λ_ _ h=>h);have b9:∀g,(Value.slice bi S1.ins.length capi).ownBlock=some g->∃c,Blk w4 g c 68:=by
   intro g hg;rcases u3 with⟨h0,_⟩|⟨g',_,arr,h0,_,hb',_⟩
   .simp at h0
   simp only[zO,zF,yG]at h0;obtain⟨⟨rfl,-,-⟩,-,-⟩:=h0;simp only[Value.ownBlock,zF]at hg;subst hg;exact⟨_,hb'⟩
  have c9:∀{g:Nat} {cc:Array Value} {t:TypeId},Blk w4 g cc t->t≠68->¬(Value.slice bi S1.ins.length capi).ownBlock=some g:=by intro g cc t hb ht hg;obtain⟨c',hc'⟩:=b9 g hg;exact hb.ne_ hc' ht rfl
  have a8:=aLN (S:={ S1 with made:=S1.made.set k (m+1)}) is u1 u2 u4 u5 u6 a2 b9 (lQ ({ S1 with made:=S1.made.set k (m+1)}:PSt).nums num) (by show _<=S1.ins.length;omega) num (c.kind==1) ho5;have a9:=a2.blk o4.hD (c9 o4.hD (by decide));have a7:=a2.blk o4.hb (c9 o4.hb (by decide));have b8:=o4.nm.keep a2 (λg hg h=>by
   obtain⟨c',hc'⟩:=b9 g h;exact o4.nm.ne_blk hc' (by decide) hg rfl)
  have x0:w5.cell? d=some (.pointer b):=a9.cell 0;have x1:w5.cell? ⟨d,1,none⟩=some (.int .i64 c.kind):=a9.cell 1;have y0:w5.cell? b=some (.slice bi S1.ins.length capi):=a7.cell 0;have f7:=a7.frozen 0;have jD:=a9.lt;have jB:=a7.lt;obtain⟨va,vn,vc,rfl⟩:=ho5.form;have a6:Below B w w5:=a1.trans (a2.below b6 (λi hi h=>by
   obtain⟨_,_,is',h3',_⟩:=o4.st;have:=h3'.ge h;omega))
  have H5:=jj7 a8 a9 a7 b8 a6 o4.hBb o4.hBd;clear a8 a9 a7 b8 a2 hk5 ho5 b9 c9 b7 u1 u2 u3 u5 u6 o4 a1 a6;refine⟨_,rfl,.inl ⟨x0,y0,x1⟩,?_⟩;simp only[Act.put,sA,sZ,sS]
  repeat
   apply aI0 rfl rfl
   focus
    rintro w' ⟨s0,s1,s2⟩;go_simp
    first|done|rfl
   simp only[Act.put,sA,sZ,sS]
  refine aW rfl rfl ?_;apply Exists.intro;refine⟨?_,.inr ⟨rfl,rfl⟩,?_⟩
  focus
   go_simp;rfl
  simp only[Act.put];refine aU ?_;obtain⟨a8,a9,a7,b8,a6,e1,e2⟩:=H5.out;have c0:Keep (λg=>g=b) w5 (w5.setCell b (.slice va vn vc)):=Keep.setCell (S:=λg=>g=b) (p:=b) (Keep.refl _ _) (.inl rfl) _;have d3:DoAt B (w5.setCell b (.slice va vn vc)) d b { ({ S1 with made:=S.made.set k (m+1)}:PSt)with ins:=aY S1.ins (lQ ({ S1 with made:=S.made.set k (m+1)}:PSt).nums num) ⟨num,c.kind==1,[],⟨#[]⟩⟩} c r:=by rw[<-b3.out.2.2];exact⟨_,_,_,nv,e1,e2,c0.blk a9 (a9.ne_ a7 (by decide)),a7.set_ 0 _,a8.keep c0 (λg hg=>by rw[hg];exact⟨_,26,a7,by decide,by decide,by decide,by decide⟩),b8.keep c0 (λg hg=>b8.ne_blk a7 (by decide) hg)⟩
  exact xE (v:=.tuple #[]) (by simp[results,go_sem]) rfl ⟨a6.trans (c0.below (zD hB a6.size) (λi hi h=>by omega)),rfl,d3⟩
 simp only[Bool.true_or,if_true];go_in;go_wp2_with(first|(go_at_call 170;refine(a0 _ (bel _ _)).mono ?_;rintro e w1 ⟨hb1,hr⟩;obtain⟨bi',off',cap',hci,rfl⟩:∃bi off cap,w.cell? b=some (.slice (some ⟨bi,off,none⟩) S.ins.length cap)/\e=.returned (.tuple #[.pointer (some ⟨bi,off+K*4,none⟩),l]):=hr;have a3:=HX.out.2.2.2.2.symm.trans hci;simp only[zF,zO,yG]at a3;obtain⟨⟨rfl,rfl,-⟩,-,rfl⟩:=a3;rw[zM];obtain⟨ea,ec,h1⟩:=HX.out.1 w1 hb1;obtain⟨e0,e1,e2,e6,g0,g2,fg0,iD1,iK1⟩:=h1.o.reads;rw[HX.out.2.2.2.1]at e2;have c1:=h1.iBi;have y2:=h1.y2;have c2:=h1.iGm;have m0:=h1.m0;have c3:Bel w w1:=⟨hb1⟩;have a4:=aC h1;clear hb1 hci)|(go_at_call 171;refine aE (h1.ent _ (bel _ _)) λp=>?_)|(go_at_call 172;refine aE (aG _ _) λp=>?_));refine qR ?_
 repeat(go_big_quiet_step (fail))
 refine QN λp=>?_;go_wp2_with(first|(go_at_call 173;refine(h1.ful _ (bel _ _)).mono ?_;rw[c4.out];rintro e w' ⟨rfl,hb⟩;obtain⟨p,rfl⟩:=hb.rest;clear hb)|(go_at_call 172;refine aE (aP _ _) λp=>?_));exact⟨rfl,((a4.out.below).trans ((bel w1 _).mono a4.out.below.size)).mono hB,rfl⟩
end
section
def xK (S:PSt) (x:PIn) (r:PRes) (K:Nat) (l:ByteArray):Except Int (PSt × PRes):=
 match S.ins[K]? with
 |none=>.error 0
 |some y=>if bT y.ents l=true then .error 2 else if fB y.ents l ⟨#[]⟩=true then .error 5 else .ok (S.ents K y (aY y.ents (cZ y.ents l) ⟨l,x.num⟩),r)
variable {B b bi capi capm d gm:Nat} {S:PSt} {c:PCall} {nv ov:Value} {r:PRes} {w:World}
theorem Opened.at_call (o:Opened B w d b bi gm capi capm ov nv S c r) (hf:Fine S) (s:ByteArray) (hp:(aA s).1=0) (hpl:(aA s).2.length<=1000000000) (K:Nat) (C:Int) (hW:aL S 0 (aA s).2=(K,C)):
 ∀ww,Bl w ww->Calls prog 178 #[.pointer d,s] ww λe w'=>((C=0/\e=.returned (.pointer (some ⟨bi,K*4,none⟩)))\/(C≠0/\e=bR C))/\Bl ww w':=by
 intro ww hb;refine(aRO d b S c s ww (o.at_.read.below hb (zC _)) hf hp hpl).mono ?_;rintro e w' ⟨hb',ho⟩;rw[hW]at ho;refine⟨?_,hb'⟩;rcases ho with⟨hC,bi',off',cap',hc,he⟩|⟨hC,he⟩
 .refine .inl ⟨hC,?_⟩;have h2:=((o.below hb).hb.cell 0).symm.trans hc;simp only[yD,zH,zF,zO,yG]at h2;obtain⟨⟨rfl,rfl,-⟩,-,rfl⟩:=h2;rw[he,zM]
 exact .inr ⟨hC,he⟩
theorem Opened.parent_call (o:Opened B w d b bi gm capi capm ov nv S c r) (hf:Fine S) (s:ByteArray) (hp:(aA s).1=0) (hpl:(aA s).2.length<=1000000000) (R:Except Int (Nat × ByteArray)) (hR:bC S (aA s).2=R):
 ∀ww,Bl w ww->Calls prog 170 #[.pointer d,s] ww λe w'=>(match R with|.ok (K,l)=>e=.returned (.tuple #[.pointer (some ⟨bi,K*4,none⟩),l])|.error k=>e=bR k)/\Bl ww w':=by
 intro ww hb;refine(aCY d b S c s ww (o.at_.read.below hb (zC _)) hf hp hpl).mono ?_;rintro e w' ⟨hb',ho⟩;rw[hR]at ho;refine⟨?_,hb'⟩;rcases R with k|⟨K,l⟩
 .exact ho
 obtain⟨bi',off',cap',hc,he⟩:=ho;have h2:=((o.below hb).hb.cell 0).symm.trans hc;simp only[yD,zH,zF,zO,yG]at h2;obtain⟨⟨rfl,rfl,-⟩,-,rfl⟩:=h2;simp only;rw[he,zM]
structure InoAt (w:World) (bi K:Nat) (x:PIn) (ea:Option Addr) (ec:Nat):Prop where
 iB:BlockLt bi w
 y0:w.cell? ⟨bi,K*4,none⟩=some (.int .i64 x.num)
 y1:w.cell? ⟨bi,K*4+1,none⟩=some (.bool x.dir)
 y2:w.cell? ⟨bi,K*4+2,none⟩=some (.slice ea x.ents.length ec)
 y3:w.cell? ⟨bi,K*4+3,none⟩=some (.string x.data)
 row:RowAt w 2 (.slice ea x.ents.length ec) (x.ents.map PEnt.cells)
 ent:∀ww l,Bl w ww->vR ww 171 #[.slice ea x.ents.length ec,.string l] (.tuple #[.int .i64 (cZ x.ents l),.bool (bT x.ents l)])
 ful:∀ww l but,Bl w ww->vR ww 173 #[.pointer (some ⟨bi,K*4,none⟩),.string l,.string but] (.bool (fB x.ents l but))
theorem Opened.ino (o:Opened B w d b bi gm capi capm ov nv S c r) (hs:Small S) {K:Nat} {x:PIn} (hx:S.ins[K]? =some x):∃ea ec,InoAt w bi K x ea ec:=by obtain⟨ai,capi',he,hat⟩:=o.st.read.ins_at2;simp only[zO]at he;obtain⟨rfl,-,rfl⟩:=he;obtain⟨bi',off',ev,he,iG,hone,hrow,hcl⟩:=hat K x hx;simp only[zF,yG]at he;obtain⟨rfl,rfl,-⟩:=he;obtain⟨i1,y0,y1,y2,y3⟩:=hcl w (Below.refl _ _);rw[zM]at y0 y1 y2 y3;have a0:=hrow;obtain⟨ea,ec,rfl,_⟩:=a0;have hl:=hs.ents x (mG hx);rw[lM]at y2 hrow;exact⟨ea,ec,i1,y0,y1,y2,y3,hrow,λww l hww=>oS x.ents _ l ww (hrow.below hww (zC _)) (by omega),λww l but hww=>aLV bi (K*4) x.ents _ l but ww ⟨by have:=i1.lt;have:=hww.size;omega⟩ ((hww.cell (p:=⟨bi,K*4+2,none⟩) i1.lt).trans y2) (hrow.below hww (zC _)) (by omega)⟩
end
section
theorem aIS (k:Nat) (rows:List (List Value)) (i:Nat) (hu:∀cs∈rows,cs.length=k):rows.flatten=(rows.take i).flatten++(rows.drop i).flatten:=by rw[<-flatten_append,take_append_drop]
theorem RowsIn.erase {arr arr':Array Value} {k i:Nat} {rows:List (List Value)} (h:RowsIn arr k rows) (hu:∀cs∈rows,cs.length=k) (hi:i<rows.length)
 (h1:∀j,j<i*k->arr'[j]? =arr[j]?) (h3:∀j,i*k<=j->j<(rows.length-1)*k->arr'[j]? =arr[j+k]?):RowsIn arr' k (rows.take i++rows.drop (i+1)):=by
 intro q cs hq t u hu';have a0:∀a b:Nat,a<b->a*k+k<=b*k:=λa b hab=>by have:=Nat.mul_le_mul_right k (show a+1<=b from hab);rw[Nat.add_mul]at this;omega
 have a1:(rows.take i).length=i:=by rw[zU];omega
 by_cases hqi:q<i
 .rw[zZ (by omega),yO,zB hqi]at hq;have a2:t<k:=by
   have:=hu cs (mG hq);obtain⟨h,_⟩:=gI.1 hu';omega
  have:=a0 q i hqi;rw[h1 _ (by omega)];exact h q cs hq t u hu'
 rw[yC (by omega),a1,yN,show i+1+(q-i)=q+1 by omega]at hq;obtain⟨hql,_⟩:=gI.1 hq;have a2:t<k:=by have:=hu cs (mG hq);obtain⟨h,_⟩:=gI.1 hu';omega
 have g1:i*k<=q*k:=Nat.mul_le_mul_right _ (by omega);have g2:=a0 q (rows.length-1) (by omega);rw[h3 _ (by omega) (by omega)];have e:q*k+t+k=(q+1)*k+t:=by rw[Nat.add_mul];omega
 rw[e];exact h (q+1) cs hq t u hu'
variable {P:Program}
theorem aFR {o:Oper} {a:Act} {w:World} {d s:Operand} {t t':TypeId}
 (ho:o.op=.call { callee:=.builtin .append,args:=#[d,s],argTypes:=#[t,t']}) {v u:Value} (hd:a.eval d=v) (hs:a.eval s=u) {v':Value} {w':World}
 (hr:(Builtin.append_ #[t,t'] o.type #[v,u]).run P w=.ok v' w'):(execOp a.eval o).run P w=.ok (.value v') w':=by
 unfold execOp;simp only[ho,resolve,invoke,builtin,Sem.run_bind,Sem.run_pure,Result.andThen_ok,map_toArray,xB,map_nil,hd,hs,hr]
theorem oP (w:World) (t e ty:TypeId) (z:Value) (ht:P.underlying t=some (.slice e)) (hv:∀w,(zeroValue e).run P w=.ok z w) (h1:∀v∈z.cells,v.oneCell'=true) (b o n c:Nat) (hn:0<n)
 (hc:∀j,j<(Builtin.zeroCells z.cells n).toList.length->(w.cell? ⟨b,o+j,none⟩).isSome=true) (hf:∀j,j<(Builtin.zeroCells z.cells n).toList.length->w.frozen? ⟨b,o+j,none⟩=false):
 (Builtin.clear_ #[t] ty #[.slice (some ⟨b,o,none⟩) n c]).run P w=.ok (.tuple #[]) (w.setCells b o (Builtin.zeroCells z.cells n).toList):=by
 have hz:∀v∈(Builtin.zeroCells z.cells n).toList,v.oneCell'=true:=by
  intro v hv';simp only[Builtin.zeroCells]at hv';obtain⟨i,hi,rfl⟩:=mem_iff_getElem.1 hv';simp at hi;have a0:0<z.cells.size:=by
   rcases Nat.eq_zero_or_pos z.cells.size with h|h
   .rw[h]at hi;simp at hi
   exact h
  have a1:=Nat.mod_lt i a0;simp only[Array.getElem_toList,Array.getElem_map,Array.getElem_range];rw[getElem!_pos z.cells _ a1];exact h1 _ (Array.getElem_mem a1)
 have a2:=run_storeCells_cells (P:=P) b o (Builtin.zeroCells z.cells n).toList 0 w (by simpa using hc) (by simpa using hf) hz;simp only[zN]at a2;obtain⟨m,rfl⟩:∃m,n=m+1:=⟨n-1,by omega⟩;simp[Builtin.clear_,run_underlying ht,hv,a2]
theorem aRE {sl e m bytes:Nat} {z:Value} {i0:TypeInfo} (T:InsT sl e m bytes z i0) (hm:m=2\/m=3\/m=4) (zv:Value) (hzv:∀w,(zeroValue e).run prog w=.ok zv w) (hz1:∀v∈zv.cells,v.oneCell'=true) (hzl:(Builtin.zeroCells zv.cells 1).toList.length=m) (B:Nat) (g cap:Nat) (rows:List (List Value)) (i:Nat) (w:World) (h:OwnP B w e m (.slice g rows.length cap) rows) (hu:∀cs∈rows,cs.length=m) (h1r:∀cs∈rows,∀u∈cs,u.oneCell'=true) (hi:i<rows.length) (hn:rows.length<=1000000000):
 cap<=maxLen/\rows.length<=cap/\BlockLt g w/\∃w2 w3,BlockLt g w2/\OwnP B w3 e m (.slice g (rows.length-1) cap) (rows.take i++rows.drop (i+1))/\Keep (λk=>k=g) w w3/\
  (∀c2 ty,(Builtin.append_ #[sl,sl] ty #[.slice g i cap,.slice (if cap=i+1 then some ⟨g,0,none⟩else some ⟨g,(i+1)*m,none⟩) (rows.length-(i+1)) c2]).run prog w.drew=.ok (.slice g (rows.length-1) cap) w2)/\
  ∀c2 ty,(Builtin.clear_ #[sl] ty #[.slice (some ⟨g,(rows.length-1)*m,none⟩) (rows.length-(rows.length-1)) c2]).run prog w2=.ok (.tuple #[]) w3:=by
 obtain⟨hgB,arr,hgb,hnc,hcm,hsz,hri⟩:B<=g/\∃arr,Blk w g arr e/\rows.length<=cap/\cap<=maxLen/\arr.size=cap*m/\RowsIn arr m rows:=by
  rcases h with⟨h0,_⟩|⟨g',cap',arr,h0,a1,a2,a3,a4,a5,a6⟩
  .simp at h0
  simp only[zO,zF,yG]at h0;obtain⟨⟨rfl,-,-⟩,-,rfl⟩:=h0;exact⟨a1,arr,a2,a3,a4,a5,a6⟩
 have b1:=hcm;unfold maxLen at b1;have iG:=hgb.lt;have a8:=hri.flat hu;obtain⟨news,hnews⟩:=gAB ((rows.drop (i+1)).flatten);have b2:news.length=(rows.length-(i+1))*m:=by rw[<-hnews,eU m _ (λcs hc=>hu cs (mem_of_mem_drop hc)),yK]
 have b6:∀u∈news,u.oneCell'=true:=λu hu'=>by rw[<-hnews]at hu';obtain⟨cs,hc,hx⟩:=mem_flatten.1 hu';exact h1r cs (mem_of_mem_drop hc) u hx
 have a9:∀j u,news[j]? =some u->arr[(i+1)*m+j]? =some u:=λj u hj=>by
  have c3:j<news.length:=by obtain⟨h,_⟩:=gI.1 hj;exact h
  rw[a8 _ (by (rcases hm with rfl|rfl|rfl<;>omega))];have e1:=aIS m rows (i+1) hu;rw[e1,yC (by rw[eU m _ (λcs hc=>hu cs (mem_of_mem_take hc)),zU];(rcases hm with rfl|rfl|rfl<;>omega)),hnews];rw[eU m _ (λcs hc=>hu cs (mem_of_mem_take hc)),zU];rw[show (i+1)*m+j-min (i+1) rows.length*m=j by(rcases hm with rfl|rfl|rfl<;>omega)];exact hj
 have c0:∀j u,news[j]? =some u->w.drew.cell? ((⟨g,0+(i+1)*m,none⟩:Addr).add j)=some u:=λj u hj=>by rw[Addr.add_lit];show w.cell? ⟨g,0+(i+1)*m+j,none⟩=_;rw[hgb.cell,zM];exact a9 j u hj
 have a0:∀c2 ty,(Builtin.append_ #[sl,sl] ty #[.slice g i cap,.slice (if cap=i+1 then some ⟨g,0,none⟩else some ⟨g,(i+1)*m,none⟩) (rows.length-(i+1)) c2]).run prog w.drew=.ok (.slice g (i+(rows.length-(i+1))) cap) (w.drew.setCells g (0+i*m) news):=λc2 ty=>by
  have b7:∀j,j<news.length->(w.drew.cell? ⟨g,0+i*i0.size+j,none⟩).isSome=true:=λj hj=>by
   rw[T.h1];show(w.cell? ⟨g,_,none⟩).isSome=true;rw[hgb.cell];simp
   (rcases hm with rfl|rfl|rfl<;>omega)
  by_cases hcc:cap=i+1
  .rw[zB hcc];have b3:news=[]:=zT (by rw[b2,show rows.length-(i+1)=0 by(rcases hm with rfl|rfl|rfl<;>omega),Nat.zero_mul]);have:=run_append_room_cells (P:=prog) (w:=w.drew) sl ty e i0 T.ht T.hi g 0 i cap ⟨g,0,none⟩ (rows.length-(i+1)) c2 news (by rw[b2,T.h1]) (λj u hj=>by rw[b3]at hj;simp at hj) b6 (by (rcases hm with rfl|rfl|rfl<;>omega)) b7 (λj hj=>hgb.frozen _);rw[T.h1]at this;exact this
  rw[zA hcc];have:=run_append_room_cells (P:=prog) (w:=w.drew) sl ty e i0 T.ht T.hi g 0 i cap ⟨g,(i+1)*m,none⟩ (rows.length-(i+1)) c2 news (by rw[b2,T.h1]) (λj u hj=>by have:=c0 j u hj;rw[zM]at this;exact this) b6 (by (rcases hm with rfl|rfl|rfl<;>omega)) b7 (λj hj=>hgb.frozen _);rw[T.h1]at this;exact this
 obtain⟨arr2,hb2,hs2,hout,hin⟩:=Blk.setCells_at g e news (0+i*m) w.drew arr hgb.drew (by (rcases hm with rfl|rfl|rfl<;>omega));have b8:Keep (λk=>k=g) w (w.drew.setCells g (0+i*m) news):=Keep.setCells (S:=λk=>k=g) rfl news _ ((Keep.refl _ w).drew);obtain⟨w2,hw2⟩:=gAB (w.drew.setCells g (0+i*m) news);simp only[hw2]at a0 hb2 b8;obtain⟨zs,hzs⟩:=gAB ((Builtin.zeroCells zv.cells 1).toList);rw[hzs]at hzl;have a7:∀c2 ty,(Builtin.clear_ #[sl] ty #[.slice (some ⟨g,0+(rows.length-1)*m,none⟩) (rows.length-(rows.length-1)) c2]).run prog w2=.ok (.tuple #[]) (w2.setCells g (0+(rows.length-1)*m) zs):=λc2 ty=>by
  rw[show rows.length-(rows.length-1)=1 by omega,<-hzs];refine oP w2 sl e ty zv T.ht hzv hz1 g (0+(rows.length-1)*m) 1 c2 (by (rcases hm with rfl|rfl|rfl<;>omega)) (λj hj=>?_) (λj hj=>hb2.frozen _);rw[hzs,hzl]at hj;rw[hb2.cell];simp
  (rcases hm with rfl|rfl|rfl<;>omega)
 obtain⟨arr3,hb3,hs3,hout3,hin3⟩:=Blk.setCells_at g e zs (0+(rows.length-1)*m) w2 arr2 hb2 (by (rcases hm with rfl|rfl|rfl<;>omega));have b9:Keep (λk=>k=g) w (w2.setCells g (0+(rows.length-1)*m) zs):=Keep.setCells (S:=λk=>k=g) rfl zs _ b8;obtain⟨w3,hw3⟩:=gAB (w2.setCells g (0+(rows.length-1)*m) zs);simp only[hw3]at a7 hb3 b9;have b0:RowsIn arr3 m (rows.take i++rows.drop (i+1)):=by
  refine hri.erase hu hi (λj hj=>?_) (λj hj hj2=>?_)
  .rw[hout3 j (by (rcases hm with rfl|rfl|rfl<;>omega)),hout j (by (rcases hm with rfl|rfl|rfl<;>omega))]
  rw[hout3 j (by (rcases hm with rfl|rfl|rfl<;>omega))];have:=hin (j-i*m) (by (rcases hm with rfl|rfl|rfl<;>omega));rw[show 0+i*m+(j-i*m)=j by(rcases hm with rfl|rfl|rfl<;>omega)]at this;rw[this];obtain⟨u,hu2⟩:∃u,news[j-i*m]? =some u:=⟨_,gE (by (rcases hm with rfl|rfl|rfl<;>omega))⟩;rw[hu2,<-a9 _ _ hu2];congr 1
  (rcases hm with rfl|rfl|rfl<;>omega)
 have b4:(rows.take i++rows.drop (i+1)).length=rows.length-1:=by rw[lP,zU,yK];omega
 have b5:OwnP B w3 e m (.slice g (rows.length-1) cap) (rows.take i++rows.drop (i+1)):=.inr ⟨g,cap,arr3,by rw[b4],hgB,hb3,by(rcases hm with rfl|rfl|rfl<;>omega),hcm,by(rcases hm with rfl|rfl|rfl<;>omega),b0⟩;have c1:i+(rows.length-(i+1))=rows.length-1:=by omega
 rw[c1]at a0;simp only[zM]at a0 a7;exact⟨hcm,hnc,iG,w2,w3,hb2.lt,b5,b9,a0,a7⟩
def aNL (n e m:Nat):Prop:=∀(B:Nat) (g cap:Nat) (rows:List (List Value)) (i:Nat) (w:World),OwnP B w e m (.slice g rows.length cap) rows->(∀cs∈rows,cs.length=m)->(∀cs∈rows,∀u∈cs,u.oneCell'=true)->i<rows.length->rows.length<=1000000000->
 Calls prog n #[.slice g rows.length cap,.int .i64 i,.int .i64 ((i:Int)+1)] w λx w'=>x=.returned (.slice g (rows.length-1) cap)/\OwnP B w' e m (.slice g (rows.length-1) cap) (rows.take i++rows.drop (i+1))/\Keep (λk=>k=g) w w'
theorem aEB:aNL 207 97 2/\aNL 144 95 3/\aNL 182 68 4:=by
 obtain⟨i1,hi1,hz1,hs1,hb1⟩:=info_parts aDU;obtain⟨i2,hi2,hz2,hs2,hb2⟩:=info_parts aDV;obtain⟨i3,hi3,hz3,hs3,hb3⟩:=info_parts wL;refine⟨have F:=aRE (sl:=66) ⟨underlying66,hi1,hz1,hs1,hb1,rfl,by decide,by decide,by decide⟩ (.inl rfl) (.agg #[.string ⟨#[]⟩,.int .i64 0]) (λw=>by kernel_rfl) (by decide) (by kernel_rfl);?_,have F:=aRE (sl:=23) ⟨underlying23,hi2,hz2,hs2,hb2,rfl,by decide,by decide,by decide⟩ (.inr (.inl rfl)) (.agg #[.int .i64 0,.int .i64 0,.int .i64 0]) (λw=>by kernel_rfl) (by decide) (by kernel_rfl);?_,have F:=aRE (sl:=22) ⟨underlying22,hi3,hz3,hs3,hb3,rfl,by decide,by decide,by decide⟩ (.inr (.inr rfl)) (.agg #[.int .i64 0,false,.slice none 0 0,.string ⟨#[]⟩]) (λw=>by kernel_rfl) (by decide) (by kernel_rfl);?_⟩
 all_goals
  intro B g cap rows i w h hu h1r hi hn;obtain⟨hcm,hnc,iG,w2,w3,iG2,hfin,hk3,hrun,hclr⟩:=F B g cap rows i w h hu h1r hi hn;unfold maxLen at hcm;have HF:=bJ hfin hk3;have a0:=bJ hrun hclr;have b1:(i:Int)+1<=rows.length:=by omega
  have b2:(i:Int)<rows.length:=by omega
  have b3:(i:Int)<=cap:=by omega
  have b4:i<=cap:=by omega
  have b5:i+1<=rows.length:=by omega
  have a2:(rows.length:Int)<=cap:=by omega
  clear hrun hclr hfin hk3 h1r hu F h hi1 hz1 hs1 hb1 hi2 hz2 hs2 hb2 hi3 hz3 hs3 hb3
  go_in
  go_upto_region 5 with fail;refine aH [6] false (λw'=>True) (by kernel_rfl) (by kernel_rfl) trivial ?_
  repeat
   apply aI0 rfl rfl
   focus
    rintro w' _;go_simp
    first|done|rfl
   simp only[Act.put,sA,sZ,sS]
  refine nS rfl rfl ?_;refine⟨_,_,aFR rfl rfl rfl (a0.out.1 _ _),.inl trivial,?_⟩;simp only[Act.put,sA,sZ,sS]
  repeat
   apply aI0 rfl rfl
   focus
    rintro w' _;go_simp
    first|done|rfl
   simp only[Act.put,sA,sZ,sS]
  refine aU ?_;generalize(if cap=i+1 then(some ⟨g,0,none⟩:Option Addr)else some ⟨g,_,none⟩)=xa;have a1:=a0.out.2;have b6:rows.length-1<=rows.length:=by omega
  have b7:((rows.length-1:Nat):Int)<=rows.length:=by omega
  go_wp2;go_ret;exact⟨rfl,HF.out.1,HF.out.2⟩
theorem aNM:aNL 207 97 2:=aEB.1
theorem aRF:aNL 144 95 3:=aEB.2.1
theorem aBT:aNL 182 68 4:=aEB.2.2
end
def aM {α:Type} (l:List α) (i:Nat):List α:=l.take i++l.drop (i+1)
theorem uG {α β:Type} (f:α->β) (l:List α) (i:Nat):(aM l i).map f=(l.map f).take i++(l.map f).drop (i+1):=by simp[aM,map_take,map_drop]
theorem sV {es:List PEnt} {s:ByteArray} (h:bT es s=true):cZ es s<es.length:=by unfold bT at h;simp only[zE,zI]at h;exact h.1
theorem aMX (B:Nat) (w:World) (ov mv:Value) (S:PSt) (bi cap K:Nat) (x:PIn) (s:ByteArray) (h:StOwn B w (.slice bi S.ins.length cap) ov mv S) (hx:S.ins[K]? =some x) (hB:B<=w.heap.size) (hl:x.ents.length<=100000) (hhit:bT x.ents s=true) (e:PEnt) (hee:x.ents[cZ x.ents s]? =some e):
 Calls prog 187 #[.pointer (some ⟨bi,K*4,none⟩),s] w λr w'=>r=.returned (.int .i64 e.num)/\Below B w w'/\Keep (tZ w) w w'/\StOwn B w' (.slice bi S.ins.length cap) ov mv (S.ents K x (aM x.ents (cZ x.ents s))):=by
 have a2:=h.read;obtain⟨ai,capi,he,hat⟩:=a2.ins_at2;simp only[zO]at he;obtain⟨rfl,-,rfl⟩:=he;obtain⟨bi',off',ev,he,iG,hone,hrow,hcl⟩:=hat K x hx;simp only[zF,yG]at he;obtain⟨rfl,rfl,-⟩:=he;obtain⟨-,-,-,y2,-⟩:=hcl w (Below.refl _ _);rw[zM]at y2;obtain⟨hKl,_⟩:=gI.1 hx;have b3:w.frozen? ⟨bi,K*4+2,none⟩=false:=by
  obtain⟨_,_,is,h3,_⟩:=h;rcases h3 with⟨h0,_⟩|⟨g,cap',arr,heq,hgB,hgb,_⟩
  .simp at h0
  simp only[zO,zF,yG]at heq;obtain⟨⟨rfl,-,-⟩,-,-⟩:=heq;exact hgb.frozen _
 have a0:OwnP B w 97 2 ev (x.ents.map PEnt.cells):=by
  obtain⟨_,_,is,h3,h4,h5,_⟩:=h;have hr:is[K]? =some is[K]:=gE (by omega);rcases h3 with⟨h0,_⟩|⟨g,cap',arr,heq,hgB,hgb,_,_,_,hri⟩
  .simp at h0
  simp only[zO,zF,yG]at heq;obtain⟨⟨rfl,-,-⟩,-,-⟩:=heq;have:=hri K is[K].cells (by rw[gM,hr];rfl) 2 _ rfl;rw[hgb.cell,this]at y2;have e:is[K].ev=ev:=Option.some.inj y2;rw[<-e];exact(h5 K _ x hr hx).2.2.2
 have a4:∃arr,Blk w bi arr 68/\K*4+2<arr.size:=by
  obtain⟨_,_,is,h3,h4,h5,_⟩:=h;rcases h3 with⟨h0,_⟩|⟨g,cap',arr,heq,hgB,hgb,hnc,_,hsz,hri⟩
  .simp at h0
  simp only[zO,zF,yG]at heq;obtain⟨⟨rfl,-,-⟩,-,-⟩:=heq;rw[lM]at hnc;exact⟨arr,hgb,by omega⟩
 obtain⟨arr,hgb,has⟩:=a4;have HB:=aC hgb;have a6:∀k,ev.ownBlock=some k->k≠bi:=λk hk=>a0.ne_blk hgb (by decide) hk;have HN:=aC a6;clear hgb a6;have a1:∀ww,Bl w ww->Calls prog 171 #[ev,s] ww _:=λww hb=>oS x.ents ev s ww (hrow.below hb (zC _)) (by omega);have a7:=sV hhit;rw[hhit]at a1;generalize cZ x.ents s=q at a1 a7 hee |-;obtain⟨g,ec,rfl,hgg⟩:=a0.some_ (by rw[lM];omega);rw[lM]at a1 y2;have b4:(q:Int)<x.ents.length:=by omega
 obtain⟨a',c',he',hat'⟩:=hrow.at_;simp only[lM,zO]at he';obtain⟨rfl,-,rfl⟩:=he';obtain⟨be,oe,he2,iE0,-,hce⟩:=hat' w (Below.refl _ _) q e.cells (by rw[gM,hee];rfl);simp only[zF,yG,and_true]at he2;obtain⟨rfl,rfl⟩:=he2;have e1:=hce 1 _ rfl;rw[zM]at e1;have a5:∀ww,Bl w ww->Calls prog 207 #[.slice g x.ents.length ec,q,.int .i64 ((q:Int)+1)] ww λe w'=>e=.returned (.slice g (x.ents.length-1) ec)/\OwnP B w' 97 2 (.slice g (x.ents.length-1) ec) ((aM x.ents q).map PEnt.cells)/\Keep (λk=>k=g) ww w':=λww hb=>by have:=aNM B g ec (x.ents.map PEnt.cells) q ww (a0.keep (Keep.of_below hb (λ_=>False)) (λ_ _ h=>h)) (pJ _) (sJ _) (by rw[lM];exact a7) (by rw[lM];omega);rw[lM,<-uG]at this;exact this
 have HH:=eH h a0 hx;have a8:arr[K*4+2]? =some (.slice g x.ents.length ec):=by rw[<-HB.out.cell];exact y2
 have b0:=aC a8;clear a8;have b1:g≠bi:=HN.out g rfl;have b2:¬bi=g:=λe=>b1 e.symm;have b5:BlockLt bi w:=iG;clear h a2 hat hcl hrow a0 hx hce hat';go_in;go_wp2_with(first|(go_at_call 171;refine aE (a1 _ (bel _ _)) λp=>?_)|(go_at_call 172;refine aE (aG _ _) λp=>?_)|(go_at_call 207;refine(a5 _ (bel _ _)).mono ?_;rintro e w2 ⟨rfl,ho2,hk2⟩;have a3:=hk2.blk (b:=bi) (c:=arr) (t:=68) (by repeat(first|exact HB.out|refine Blk.alloc ?_ _|refine Blk.junk ?_ _)) (λh=>b2 h);have a9:=(Keep.of_below (bel w _) (λk=>k=g)).trans hk2 (λ_ _ h=>h);have z2:w2.cell? ⟨bi,K*4+2,none⟩=some (.slice g x.ents.length ec):=(a3.cell _).trans b0.out;have f2:=a3.frozen (K*4+2);have i2:=a3.lt;have H2:=bJ ho2 a9;clear ho2 hk2 a9 a3));obtain⟨r1,r2,r3⟩:=HH.out.1.setEnts HH.out.2.2 y2 (es':=aM x.ents q) H2.out.1 (H2.out.2.mono (λi _ h=>by subst h;rfl)) (λk h=>.inl h) hB;go_ret;exact⟨rfl,r2,r3,r1⟩
end Go.Proofs.YtmkapobnfigedaaGreatDoor
