/- A part of a proof of a law. Conditions: none. -/
import Derived.Test.YtmkapobnfigedaaGreatDoorDk11
set_option linter.unusedVariables false
set_option linter.unusedSimpArgs false
set_option maxRecDepth 100000
set_option maxHeartbeats 8000000
namespace Go.Proofs.YtmkapobnfigedaaGreatDoor
open Go.Proofs.Tryz List Go.RowKit
section
variable {B K b bi capi capm d gm k:Nat} {S:PSt} {c:PCall} {l:ByteArray} {mv nv ov:Value} {r:PRes} {w w1:World} {x:PIn}
theorem lW {ns:List ByteArray} (h:bB S ns=.ok (K,l)):∃x,S.ins[K]? =some x/\x.dir=true:=by
 unfold bB at h;split at h
 .cases h
 split at h
 .cases h
 split at h
 .rename_i x hx
  split at h
  .rename_i hd
   cases h;exact⟨x,hx,hd⟩
  cases h
 cases h
structure At1 (B:Nat) (w w1:World) (d b bi gm capi capm:Nat) (ov nv:Value) (S:PSt) (c:PCall) (r:PRes) (K k:Nat) (x:PIn) (m:Int) (l:ByteArray) (ea:Option Addr) (ec:Nat):Prop where
 below:Bl w w1
 o:Opened B w1 d b bi gm capi capm ov nv S c r
 ent:vB w1 171 #[.slice ea x.ents.length ec,.string l] (.tuple #[.int .i64 (cY x.ents l),.bool (bR x.ents l)])
 ful:vB w1 173 #[.pointer (some ⟨bi,K*4,none⟩),.string l,.string ⟨#[]⟩] (.bool (eZ x.ents l ⟨#[]⟩))
 iBi:BlockLt bi w1
 y2:w1.cell? ⟨bi,K*4+2,none⟩=some (.slice ea x.ents.length ec)
 iGm:BlockLt gm w1
 m0:w1.cell? ⟨gm,k,none⟩=some (.int .i64 m)
theorem at1 {m:Int} (ho:Opened B w d b bi gm capi capm ov nv S c r) (hb:Bl w w1) (hx:S.ins[K]? =some x) (hm:S.made[k]? =some m) (hs:Small S):
 ∃ea ec,At1 B w w1 d b bi gm capi capm ov nv S c r K k x m l ea ec:=by
 have o1:=ho.below hb;obtain⟨iBi,ev,y2,hrow⟩:=o1.ino_at hx;obtain⟨iGm,m0,_⟩:=o1.made_at hm;have a0:=hrow;obtain⟨ea,ec,rfl,_⟩:=a0;have hl:=hs.ents x (mG hx);rw[lM]at y2 hrow;refine⟨ea,ec,hb,o1,λww hww=>oJ x.ents _ l ww (hrow.below hww (zC _)) (by omega),λww hww=>aKT bi (K*4) x.ents _ l _ ww ⟨by have:=iBi.lt;have:=hww.size;omega⟩ ((hww.cell (p:=⟨bi,K*4+2,none⟩) iBi.lt).trans y2) (hrow.below hww (zC _)) (by omega),iBi,y2,iGm,m0⟩
theorem Opened.put {w3:World} {es:List PEnt} (o:Opened B w d b bi gm capi capm ov nv S c r) (hk:Keep (tR w) w w3)
 (hst:StOwn B w3 (.slice bi S.ins.length capi) ov (.slice gm S.made.length capm) (S.ents K x es)):Opened B w3 d b bi gm capi capm ov nv (S.ents K x es) c r:=by
 have hl:(S.ents K x es).ins.length=S.ins.length:=by unfold PSt.ents;simp
 have hb:=hk.blk o.hb (aEV o.hb (by decide) (by decide));refine⟨o.hBb,o.hBd,hk.blk o.hD (aEV o.hD (by decide) (by decide)),?_,?_,o.nm.keep hk (aDH o.nm (by decide) (by decide))⟩
 .rw[hl];exact hb
 rw[hl];exact hst
theorem Opened.setMade (o:Opened B w d b bi gm capi capm ov nv S c r) (hk:k<S.made.length) (v:Int):
 Opened B (w.setCell ⟨gm,k,none⟩ (.int .i64 v)) d b bi gm capi capm ov nv { S with made:=S.made.set k v} c r/\B<=gm:=by
 obtain⟨h1,h2,cm,h3⟩:=o.st.setMade hk v;have hK:Keep (λx=>x=gm) w (w.setCell ⟨gm,k,none⟩ (.int .i64 v)):=Keep.setCell (S:=λx=>x=gm) (p:=⟨gm,k,none⟩) (Keep.refl _ _) (.inl rfl) _;have hl:(S.made.set k v).length=S.made.length:=yB;refine⟨⟨o.hBb,o.hBd,hK.blk o.hD (o.hD.ne_ h3 (by decide)),?_,?_,o.nm.keep hK (λg hg=>o.nm.ne_blk h3 (by decide) hg)⟩,h2⟩
 .show Blk _ b #[_,ov,.slice gm (S.made.set k v).length capm] 26;rw[hl];exact hK.blk o.hb (o.hb.ne_ h3 (by decide))
 show StOwn B _ _ ov (.slice gm (S.made.set k v).length capm) _;rw[hl];exact h1
theorem StOwn.search {iv:Value} (h:StOwn B w iv ov mv S) (hl:S.ins.length<=1000000000) (n:Int):∀ww,Bl w ww->Calls prog 134 #[iv,n,.func (.func 176) #[] #[]] ww λe w'=>(∃hit,e=.returned (.tuple #[.int .i64 (lB S.nums n),hit]))/\Bl ww w':=by
 intro ww hb;obtain⟨_,_,is,h3,h4,h5,_⟩:=h;have hn:is.map IRec.num=S.nums:=by
  apply ext_getElem?;intro q;rw[PSt.nums,gM,gM];by_cases hq:q<is.length
  .have a0:q<S.ins.length:=by omega
   have:=(h5 q is[q] S.ins[q] (gE hq) (gE a0)).1;rw[gE hq,gE a0];simp[this]
  rw[getElem?_eq_none (by omega),getElem?_eq_none (by omega)];rfl
 refine(aXF is iv n ww (h3.row.below hb (zC _)) (by omega)).mono ?_;rintro e w' ⟨rfl,hb'⟩;rw[<-hn,<-aUK];exact⟨⟨_,rfl⟩,hb'⟩
theorem aKL {iv':Value} {X:Nat->Prop} (is:List IRec) (h1:OwnP B w 95 3 ov (S.op.map PDesc.cells)) (h2:OwnP B w 3 1 mv (S.made.map aL)) (h4:is.length=S.ins.length)
 (h5:∀(q:Nat) (r:IRec) (x:PIn),is[q]? =some r->S.ins[q]? =some x->r.num=x.num/\r.dir=x.dir/\r.data=x.data/\OwnP B w 97 2 r.ev (x.ents.map PEnt.cells)) (h6:∀(p q:Nat) (r r':IRec),p≠q->is[p]? =some r->is[q]? =some r'->∀g,r.ev.ownBlock=some g->r'.ev.ownBlock≠some g) (hk:Keep X w w1) (hX:∀g,X g->∃c,Blk w g c 68) (i:Nat) (hi:i<=S.ins.length) (num:Int) (dir:Bool)
 (hiv:OwnP B w1 68 4 iv' ((is.map IRec.cells).take i++[.int .i64 num,.bool dir,.slice none 0 0,.string ⟨#[]⟩]::(is.map IRec.cells).drop i)):
 StOwn B w1 iv' ov mv { S with ins:=aX S.ins i ⟨num,dir,[],⟨#[]⟩⟩}:=by
 have key:∀{e:TypeId} {k:Nat} {v:Value} {rows:List (List Value)},OwnP B w e k v rows->e≠68->OwnP B w1 e k v rows:=by intro e k v rows ho he;refine ho.keep hk (λg hg hx=>?_);obtain⟨c,hc⟩:=hX g hx;exact ho.ne_blk hc he hg rfl
 have a0:∀(q:Nat) (r:IRec) (x:PIn),is[q]? =some r->S.ins[q]? =some x->r.num=x.num/\r.dir=x.dir/\r.data=x.data/\OwnP B w1 97 2 r.ev (x.ents.map PEnt.cells):=λq r x hr hx=>by obtain⟨a1,a2,a3,a4⟩:=h5 q r x hr hx;exact⟨a1,a2,a3,key a4 (by decide)⟩
 refine⟨key h1 (by decide),key h2 (by decide),aX is i ⟨num,dir,.slice none 0 0,⟨#[]⟩,rfl⟩,?_,?_,?_,?_⟩
 .have:=hiv;rw[pY];exact this
 .show(aX is i _).length=(aX S.ins i _).length;rw[aAZ _ _ _ (by omega),aAZ _ _ _ hi,h4]
 .intro q r x hr hx;have hx:(aX S.ins i ⟨num,dir,[],⟨#[]⟩⟩)[q]? =some x:=hx;rw[pO _ _ _ (by omega)]at hr;rw[pO _ _ _ hi]at hx;by_cases c1:q<i
  .rw[zB c1]at hr hx;exact a0 q r x hr hx
  rw[zA c1]at hr hx;by_cases c2:q=i
  .rw[zB c2]at hr hx;cases hr;cases hx;exact⟨rfl,rfl,rfl,.inl ⟨rfl,rfl⟩⟩
  rw[zA c2]at hr hx;exact a0 (q-1) r x hr hx
 intro p q r r' hpq hp hq k hkk;rw[pO _ _ _ (by omega)]at hp hq;have a5:∀(p:Nat) (r:IRec),(if p<i then is[p]? else if p=i then some (⟨num,dir,.slice none 0 0,⟨#[]⟩,rfl⟩:IRec)else is[p-1]?)=some r->(p=i/\r.ev.ownBlock=none)\/(p≠i/\is[if p<i then p else p-1]? =some r):=by
  intro p r hp;by_cases c1:p<i
  .rw[zB c1]at hp;exact .inr ⟨by omega,by rw[zB c1];exact hp⟩
  rw[zA c1]at hp;by_cases c2:p=i
  .rw[zB c2]at hp;cases hp;exact .inl ⟨c2,rfl⟩
  rw[zA c2]at hp;exact .inr ⟨c2,by rw[zA c1];exact hp⟩
 rcases a5 p r hp with⟨_,h0⟩|⟨np,h0⟩
 .rw[h0]at hkk;cases hkk
 rcases a5 q r' hq with⟨_,h1'⟩|⟨nq,h1'⟩
 .rw[h1'];exact λh=>by cases h
 refine h6 _ _ r r' ?_ h0 h1' k hkk;split<;>split<;>omega
theorem aHQ (S:PSt) (c:PCall) (K k:Nat) (x:PIn) (l:ByteArray) (m:Int) (hk:c.core=k) (hx:S.ins[K]? =some x):
 dC S c K x l m={ ({ S.ents K x (aX x.ents (cY x.ents l) ⟨l,2+(k:Int)+8*m⟩)with made:=S.made.set k (m+1)}:PSt)with ins:=aX (S.ents K x (aX x.ents (cY x.ents l) ⟨l,2+(k:Int)+8*m⟩)).ins (lB ({ S.ents K x (aX x.ents (cY x.ents l) ⟨l,2+(k:Int)+8*m⟩)with made:=S.made.set k (m+1)}:PSt).nums (2+(k:Int)+8*m)) ⟨2+(k:Int)+8*m,c.kind==1,[],⟨#[]⟩⟩}:=by
 have hn:({ S.ents K x (aX x.ents (cY x.ents l) ⟨l,2+(k:Int)+8*m⟩)with made:=S.made.set k (m+1)}:PSt).nums=S.nums:=sX S K x _ hx;rw[hn];unfold dC;rw[hk,zJ];rfl
theorem aQD (B d b:Nat) (S:PSt) (c:PCall) (r:PRes) (w:World) (h:DoAt B w d b S c r) (hB:B<=w.heap.size) (hf:Fine S) (hs:Small S) (hp:(aA c.path).1=0) (hpl:(aA c.path).2.length<=1000000000) (hc0:0<=c.core) (hc1:c.core<S.made.length):
 Calls prog 141 #[.pointer d] w (bJ B w d b c (pP S c r)):=by
 obtain⟨bi,gm,capi,capm,ov,nv,ho⟩:=h.open_ hf.pos (by omega);have a0:∀ww,Bl w ww->Calls prog 170 #[.pointer d,c.path] ww _:=λww hb=>aCF d b S c c.path ww (h.read.below hb (zC _)) hf hp hpl;obtain⟨d0,d1,d2,d6,b0,b2,-,iD,iBk⟩:=ho.reads;unfold pP;generalize hPM:bB S (aA c.path).2=PM at a0 |-;have HH:=eK ho hf hs;rcases PM with k|⟨K,l⟩
 .simp only;clear h ho hf hs hPM hp hpl b0 b2
  go_in;go_wp2_with(go_at_call 170;refine(a0 _ (bel _ _)).mono ?_;rintro e w1 ⟨hb1,hr⟩;have d8:e=bP k:=hr;clear hr;subst d8);exact⟨rfl,hb1.mono hB,rfl⟩
 obtain ⟨x,hx,_⟩:=lW hPM;obtain⟨k,hk⟩:∃k:Nat,c.core=k:=⟨c.core.toNat,by omega⟩;have d4:k<S.made.length:=by omega
 obtain⟨m,hm⟩:∃m,S.made[k]? =some m:=⟨_,gE d4⟩;simp only[hx,hk,zJ,hm];have d9:=hs.each m (mG hm);have e8:k<8:=by have:=hs.made;omega
 rw[hk]at d2;have e9:(k:Int)<S.made.length:=by omega
 have d5:∀w1,Bl w w1->∃ea ec,At1 B w w1 d b bi gm capi capm ov nv S c r K k x m l ea ec:=λw1 hb=>at1 ho hb hx hm hs;have HX:=nV d5 hx hm hk b0;clear h ho hf hs hPM hp hpl d5 hx hm b0 b2;by_cases a5:bR x.ents l=true
 .rw[zB a5]
  go_in;go_wp2_with(first|(go_at_call 170;refine(a0 _ (bel _ _)).mono ?_;rintro e w1 ⟨hb1,hr⟩;obtain⟨bi',off',cap',hci,rfl⟩:∃bi off cap,w.cell? b=some (.slice (some ⟨bi,off,none⟩) S.ins.length cap)/\e=.returned (.tuple #[.pointer (some ⟨bi,off+K*4,none⟩),l]):=hr;have a3:=HX.out.2.2.2.2.symm.trans hci;simp only[zF,zO,yG]at a3;obtain⟨⟨rfl,rfl,-⟩,-,rfl⟩:=a3;rw[zM];obtain⟨ea,ec,h1⟩:=HX.out.1 w1 hb1;obtain⟨e0,e1,e2,e6,g0,g2,fg0,iD1,iK1⟩:=h1.o.reads;rw[HX.out.2.2.2.1]at e2;have c1:=h1.iBi;have y2:=h1.y2;have c2:=h1.iGm;have m0:=h1.m0;have c3:Bel w w1:=⟨hb1⟩;have a4:=aC h1;clear hb1 hci)|(go_at_call 171;refine aE (h1.ent _ (bel _ _)) λp=>?_)|(go_at_call 172;with_reducible refine aE (aO _ _) λp=>?_));exact⟨rfl,((a4.out.below).trans ((bel w1 _).mono a4.out.below.size)).mono hB,rfl⟩
 rw [zA a5];have a5:bR x.ents l=false:=by simpa using a5
 have e3:=aC a5;generalize hfu:eZ x.ents l ⟨#[]⟩=fu;have c4:=aC hfu;clear hfu;rcases fu with _|_
 .by_cases h32:32<=m
  .have b1:decide (32<=m)=true:=decide_eq_true h32;rw[b1];simp only[Bool.or_true,if_true]
   go_in;go_wp2_with(first|(go_at_call 170;refine(a0 _ (bel _ _)).mono ?_;rintro e w1 ⟨hb1,hr⟩;obtain⟨bi',off',cap',hci,rfl⟩:∃bi off cap,w.cell? b=some (.slice (some ⟨bi,off,none⟩) S.ins.length cap)/\e=.returned (.tuple #[.pointer (some ⟨bi,off+K*4,none⟩),l]):=hr;have a3:=HX.out.2.2.2.2.symm.trans hci;simp only[zF,zO,yG]at a3;obtain⟨⟨rfl,rfl,-⟩,-,rfl⟩:=a3;rw[zM];obtain⟨ea,ec,h1⟩:=HX.out.1 w1 hb1;obtain⟨e0,e1,e2,e6,g0,g2,fg0,iD1,iK1⟩:=h1.o.reads;rw[HX.out.2.2.2.1]at e2;have c1:=h1.iBi;have y2:=h1.y2;have c2:=h1.iGm;have m0:=h1.m0;have c3:Bel w w1:=⟨hb1⟩;have a4:=aC h1;clear hb1 hci)|(go_at_call 171;refine aE (h1.ent _ (bel _ _)) λp=>?_)|(go_at_call 172;with_reducible refine aE (aG _ _) λp=>?_));refine qR ?_
   repeat(go_big_quiet_step (fail))
   refine QN λp=>?_;go_wp2_with(first|(go_at_call 173;refine(h1.ful _ (bel _ _)).mono ?_;rw[c4.out];rintro e w' ⟨rfl,hb⟩;obtain⟨p,rfl⟩:=hb.rest;clear hb)|(go_at_call 172;with_reducible refine aE (aO _ _) λp=>?_));exact⟨rfl,((a4.out.below).trans ((bel w1 _).mono a4.out.below.size)).mono hB,rfl⟩
  have b1:decide (32<=m)=false:=yM h32;rw[b1];simp only[Bool.or_false,zP,if_false];rw[aHQ S c K k x l m HX.out.2.2.2.1 HX.out.2.1];obtain⟨num,hnm⟩:∃num,2+(k:Int)+8*m=num:=⟨_,rfl⟩;have c5:∀ww,vR ww 174 #[.int .i64 k,.int .i64 m] (.int .i64 num):=λww=>by rw[<-hnm];exact aYV k m ⟨by omega,by omega⟩ ⟨d9.1,by omega⟩ ww
  rw[hnm];obtain⟨S1,hS1⟩:∃S1,S.ents K x (aX x.ents (cY x.ents l) ⟨l,num⟩)=S1:=⟨_,rfl⟩;have b4:∀(w1:World) (ea:Option Addr) (ec:Nat),At1 B w w1 d b bi gm capi capm ov nv S c r K k x m l ea ec->∀ww,Bl w1 ww->Calls prog 175 #[.pointer (some ⟨bi,K*4,none⟩),l,num] ww _:=λw1 ea ec h1 ww hb=>tS B ww ov (.slice gm S.made.length capm) S bi capi K x l num (h1.o.below hb).st HX.out.2.1 (zD hB (zD h1.below.size hb.size)) (HH.out.2.2.ents x (mG HX.out.2.1));have d7:S1.made=S.made:=by rw[<-hS1];rfl
  rw[hS1]at b4 |-;have b3:=eK hS1 hnm d7;clear hS1 hnm d7;have f0:wrap64 (m+1)=m+1:=by simp only[wrap64];omega
  have f1:IntKind.i64.wrap (m+1)=m+1:=I64.wrap ⟨by omega,by omega⟩;go_in;go_wp2_with(first|(go_at_call 170;refine(a0 _ (bel _ _)).mono ?_;rintro e w1 ⟨hb1,hr⟩;obtain⟨bi',off',cap',hci,rfl⟩:∃bi off cap,w.cell? b=some (.slice (some ⟨bi,off,none⟩) S.ins.length cap)/\e=.returned (.tuple #[.pointer (some ⟨bi,off+K*4,none⟩),l]):=hr;have a3:=HX.out.2.2.2.2.symm.trans hci;simp only[zF,zO,yG]at a3;obtain⟨⟨rfl,rfl,-⟩,-,rfl⟩:=a3;rw[zM];obtain⟨ea,ec,h1⟩:=HX.out.1 w1 hb1;obtain⟨e0,e1,e2,e6,g0,g2,fg0,iD1,iK1⟩:=h1.o.reads;rw[HX.out.2.2.2.1]at e2;have c1:=h1.iBi;have y2:=h1.y2;have c2:=h1.iGm;have m0:=h1.m0;have c3:Bel w w1:=⟨hb1⟩;have a4:=aC h1;clear hb1 hci)|(go_at_call 171;refine aE (h1.ent _ (bel _ _)) λp=>?_)|(go_at_call 172;with_reducible refine aE (aG _ _) λp=>?_));refine qR ?_
  repeat(go_big_quiet_step (fail))
  refine QN λp=>?_;go_wp2_with(first|(go_at_call 173;refine(h1.ful _ (bel _ _)).mono ?_;rw[c4.out];rintro e w' ⟨rfl,hb⟩;obtain⟨p,rfl⟩:=hb.rest;clear hb)|(go_at_call 172;with_reducible refine aE (aG _ _) λp=>?_)|(go_at_call 174;refine aE (c5 _) λp=>?_)|(go_at_call 175;refine(b4 w1 _ _ a4.out _ (bel w1 _)).mono ?_;rintro e w3 ⟨rfl,hb3,hk3,hs3⟩;rw[<-b3.out.1]at hs3;have o3:=Opened.put (a4.out.o.below (bel w1 _)) hk3 hs3;rw[b3.out.1]at o3;have b5:Below B w w3:=((bel w _).mono hB).trans hb3;obtain⟨q0,q1,q2,q6,p0,p2,fq0,iD3,iK3⟩:=o3.reads;rw[HX.out.2.2.2.1]at q2;obtain⟨iGm3,m3,fm3⟩:=o3.made_at (k:=k) (m:=m) (by rw[b3.out.2.2];exact HX.out.2.2.1);have c6:=bG o3 b5;clear hb3 hk3 hs3 o3 b5));have c7:k<S1.made.length:=by rw[b3.out.2.2];exact d4
  have e4:(k:Int)<S1.made.length:=by omega
  obtain⟨o4,hBgm⟩:=(c6.out.1.below ((Below.refl w3.heap.size w3).drew)).setMade c7 (m+1);obtain⟨w4,hw4⟩:∃w4,w3.drew.setCell ⟨gm,k,none⟩ (.int .i64 (m+1))=w4:=⟨_,rfl⟩;have a1:Below B w w4:=by rw[<-hw4];have e5:Keep (λx=>x=gm) w3 (w3.drew.setCell ⟨gm,k,none⟩ (.int .i64 (m+1))):=Keep.setCell (S:=λx=>x=gm) (p:=⟨gm,k,none⟩) (Keep.refl _ w3).drew (.inl rfl) _;exact c6.out.2.trans (e5.below (zD hB c6.out.2.size) (λi hi h=>by omega))
  rw[hw4]at o4;have c8:=o4.st.search (by
   have h1:S1.ins.length=S.ins.length:=by rw[<-b3.out.1];unfold PSt.ents;simp
   show S1.ins.length<=1000000000;have:=HH.out.2.2.ins;omega) num
  obtain⟨z0,z1,z2,z6,t0,t2,ft0,iD4,iK4⟩:=o4.reads;have t0:w4.cell? b=some (.slice bi S1.ins.length capi):=t0;have e7:=bG o4 a1;clear o4 a1;refine aH [16] true (λw'=>w'.cell? d=some (.pointer b)/\w'.cell? ⟨d,2,none⟩=some (.int .i64 k)/\w'.cell? ⟨b,2,none⟩=some (.slice gm S1.made.length capm)/\w'.cell? ⟨gm,k,none⟩=some (.int .i64 m)) (by kernel_rfl) (by kernel_rfl) ?_ ?_
  · (try dsimp only);(repeat' apply And.intro)<;>go_simp
  repeat
   apply aI0 rfl rfl
   focus
    rintro w' ⟨s0,s1,s2,s3⟩;go_simp
    first|done|rfl
   simp only[Act.put,sA,sZ,sS]
  refine aV rfl rfl ?_;refine⟨w4,?_,.inr ⟨rfl,rfl⟩,?_⟩
  focus
   go_simp
   first|done|exact hw4|rfl
  simp only[Act.put,sA,sZ,sS];refine aS ?_;have f2:=aC hw4;clear hw4;go_wp2_with(go_at_call 134;refine(c8 _ (bel w4 _)).mono ?_;rintro e w' ⟨⟨hit,rfl⟩,hb⟩;obtain⟨p,rfl⟩:=hb.rest;clear hb);have f3:(c.kind==1)=(c.kind==1):=rfl;refine aH [20,21,24] true (λw'=>w'.cell? d=some (.pointer b)/\w'.cell? b=some (.slice bi S1.ins.length capi)/\w'.cell? ⟨d,1,none⟩=some (.int .i64 c.kind)) (by kernel_rfl) (by kernel_rfl) ?_ ?_
  · (try dsimp only);(repeat' apply And.intro)<;>go_simp
  repeat
   apply aI0 rfl rfl
   focus
    rintro w' ⟨s0,s1,s2⟩;go_simp
    first|done|rfl
   simp only[Act.put,sA,sZ,sS]
  refine oS rfl rfl ?_;apply Exists.intro;apply Exists.intro;refine⟨?_,?_,?_⟩
  focus
   go_simp;exact⟨rfl,rfl⟩
  focus
   refine .inl ⟨?_,?_,?_⟩<;>go_simp
  simp only[Act.put,sA,sZ,sS];obtain⟨o4,a1⟩:=e7.out;obtain⟨u1,u2,is,u3,u4,u5,u6⟩:=o4.st;have u4:is.length=S1.ins.length:=u4;have f4:({ S1 with made:=S1.made.set k (m+1)}:PSt).nums.length=S1.ins.length:=by unfold PSt.nums;rw[lM]
  have f5:=aUT ({ S1 with made:=S1.made.set k (m+1)}:PSt).nums num;have f6:S1.ins.length<=257:=by
   have h1:S1.ins.length=S.ins.length:=by rw[<-b3.out.1];unfold PSt.ents;simp
   have:=HH.out.2.2.ins;omega
  have b6:B<=w4.heap.size:=zD hB a1.size;have b7:∀ww gv,Bl w4 ww->w4.heap.size<=gv->Blk ww gv #[num,.bool (c.kind==1),.slice none 0 0,.string ⟨#[]⟩] 68->Calls prog 177 #[.slice bi S1.ins.length capi,.int .i64 (lB ({ S1 with made:=S1.made.set k (m+1)}:PSt).nums num),.slice (some ⟨gv,0,none⟩) 1 1] ww _:=λww gv hb hg hgv=>
   aND B _ (is.map IRec.cells) (lB ({ S1 with made:=S1.made.set k (m+1)}:PSt).nums num) gv [.int .i64 num,.bool (c.kind==1),.slice none 0 0,.string ⟨#[]⟩] ww (u3.keep (Keep.of_below hb (λ_=>False)) (λ_ _ h=>h)) (gF _) (pD _) (by rw[lM];omega) (by rw[lM];omega) hgv rfl (by intro u hu;simp only[mem_cons,not_mem_nil,or_false]at hu;rcases hu with rfl|rfl|rfl|rfl<;>rfl) (λe=>by have:=u3.lt e;omega) (zD b6 hb.size)
  refine bA rfl rfl ?_;refine aR 177 #[.slice bi S1.ins.length capi,.int .i64 (lB ({ S1 with made:=S1.made.set k (m+1)}:PSt).nums num),.slice (some ⟨w4.heap.size+p.drew.len,0,none⟩) 1 1] ?hr ?_
  case hr=>
   go_simp
   first|done|rfl
  refine(b7 ((w4.junk p.drew).alloc (.cells #[num,.bool (c.kind==1),.slice none 0 0,.string ⟨#[]⟩] 68)) (w4.heap.size+p.drew.len) (bel w4 _) (by omega) (Blk.new_i _ _ _ _)).mono ?_;rintro e w5 ⟨v',rfl,ho5,hk5,_⟩;have a2:=(Keep.of_below (bel w4 ((w4.junk p.drew).alloc (.cells #[num,.bool (c.kind==1),.slice none 0 0,.string ⟨#[]⟩] 68))) (λg=>(Value.slice bi S1.ins.length capi).ownBlock=some g)).trans hk5 (λ_ _ h=>h);have b9:∀g,(Value.slice bi S1.ins.length capi).ownBlock=some g->∃c,Blk w4 g c 68:=by
   intro g hg;rcases u3 with⟨h0,_⟩|⟨g',_,arr,h0,_,hb',_⟩
   .simp at h0
   simp only[zO,zF,yG]at h0;obtain⟨⟨rfl,-,-⟩,-,-⟩:=h0;simp only[Value.ownBlock,zF]at hg;subst hg;exact⟨_,hb'⟩
  have c9:∀{g:Nat} {cc:Array Value} {t:TypeId},Blk w4 g cc t->t≠68->¬(Value.slice bi S1.ins.length capi).ownBlock=some g:=by intro g cc t hb ht hg;obtain⟨c',hc'⟩:=b9 g hg;exact hb.ne_ hc' ht rfl
  have a8:=aKL (S:={ S1 with made:=S1.made.set k (m+1)}) is u1 u2 u4 u5 u6 a2 b9 (lB ({ S1 with made:=S1.made.set k (m+1)}:PSt).nums num) (by show _<=S1.ins.length;omega) num (c.kind==1) ho5;have a9:=a2.blk o4.hD (c9 o4.hD (by decide));have a7:=a2.blk o4.hb (c9 o4.hb (by decide));have b8:=o4.nm.keep a2 (λg hg h=>by
   obtain⟨c',hc'⟩:=b9 g h;exact o4.nm.ne_blk hc' (by decide) hg rfl)
  have x0:w5.cell? d=some (.pointer b):=a9.cell 0;have x1:w5.cell? ⟨d,1,none⟩=some (.int .i64 c.kind):=a9.cell 1;have y0:w5.cell? b=some (.slice bi S1.ins.length capi):=a7.cell 0;have f7:=a7.frozen 0;have jD:=a9.lt;have jB:=a7.lt;obtain⟨va,vn,vc,rfl⟩:=ho5.form;have a6:Below B w w5:=a1.trans (a2.below b6 (λi hi h=>by
   obtain⟨_,_,is',h3',_⟩:=o4.st;have:=h3'.ge h;omega))
  have H5:=jj7 a8 a9 a7 b8 a6 o4.hBb o4.hBd;clear a8 a9 a7 b8 a2 hk5 ho5 b9 c9 b7 u1 u2 u3 u5 u6 o4 a1 a6;refine⟨_,rfl,.inl ⟨x0,y0,x1⟩,?_⟩;simp only[Act.put,sA,sZ,sS]
  repeat
   apply aI0 rfl rfl
   focus
    rintro w' ⟨s0,s1,s2⟩;go_simp
    first|done|rfl
   simp only[Act.put,sA,sZ,sS]
  refine aV rfl rfl ?_;apply Exists.intro;refine⟨?_,.inr ⟨rfl,rfl⟩,?_⟩
  focus
   go_simp;rfl
  simp only[Act.put];refine aS ?_;obtain⟨a8,a9,a7,b8,a6,e1,e2⟩:=H5.out;have c0:Keep (λg=>g=b) w5 (w5.setCell b (.slice va vn vc)):=Keep.setCell (S:=λg=>g=b) (p:=b) (Keep.refl _ _) (.inl rfl) _;have d3:DoAt B (w5.setCell b (.slice va vn vc)) d b { ({ S1 with made:=S.made.set k (m+1)}:PSt)with ins:=aX S1.ins (lB ({ S1 with made:=S.made.set k (m+1)}:PSt).nums num) ⟨num,c.kind==1,[],⟨#[]⟩⟩} c r:=by rw[<-b3.out.2.2];exact⟨_,_,_,nv,e1,e2,c0.blk a9 (a9.ne_ a7 (by decide)),a7.set_ 0 _,a8.keep c0 (λg hg=>by rw[hg];exact⟨_,26,a7,by decide,by decide,by decide,by decide⟩),b8.keep c0 (λg hg=>b8.ne_blk a7 (by decide) hg)⟩
  exact xE (v:=.tuple #[]) (by simp[results,go_sem]) rfl ⟨a6.trans (c0.below (zD hB a6.size) (λi hi h=>by omega)),rfl,d3⟩
 simp only[Bool.true_or,if_true];go_in;go_wp2_with(first|(go_at_call 170;refine(a0 _ (bel _ _)).mono ?_;rintro e w1 ⟨hb1,hr⟩;obtain⟨bi',off',cap',hci,rfl⟩:∃bi off cap,w.cell? b=some (.slice (some ⟨bi,off,none⟩) S.ins.length cap)/\e=.returned (.tuple #[.pointer (some ⟨bi,off+K*4,none⟩),l]):=hr;have a3:=HX.out.2.2.2.2.symm.trans hci;simp only[zF,zO,yG]at a3;obtain⟨⟨rfl,rfl,-⟩,-,rfl⟩:=a3;rw[zM];obtain⟨ea,ec,h1⟩:=HX.out.1 w1 hb1;obtain⟨e0,e1,e2,e6,g0,g2,fg0,iD1,iK1⟩:=h1.o.reads;rw[HX.out.2.2.2.1]at e2;have c1:=h1.iBi;have y2:=h1.y2;have c2:=h1.iGm;have m0:=h1.m0;have c3:Bel w w1:=⟨hb1⟩;have a4:=aC h1;clear hb1 hci)|(go_at_call 171;refine aE (h1.ent _ (bel _ _)) λp=>?_)|(go_at_call 172;with_reducible refine aE (aG _ _) λp=>?_));refine qR ?_
 repeat(go_big_quiet_step (fail))
 refine QN λp=>?_;go_wp2_with(first|(go_at_call 173;refine(h1.ful _ (bel _ _)).mono ?_;rw[c4.out];rintro e w' ⟨rfl,hb⟩;obtain⟨p,rfl⟩:=hb.rest;clear hb)|(go_at_call 172;with_reducible refine aE (aO _ _) λp=>?_));exact⟨rfl,((a4.out.below).trans ((bel w1 _).mono a4.out.below.size)).mono hB,rfl⟩
end
section
variable {S:PSt} {c:PCall}
theorem lY (h:gB S c=true):cS S=true/\0<=c.core/\c.core<S.made.length:=by unfold gB at h;simp only[zE,zI]at h;exact⟨h.2,h.1.1.2,h.1.2⟩
theorem aXL (R:Except Int (PSt × PRes)) {S':PSt} {r':PRes} (hwf:S.wf) (he:doM S c R=(S',r'))
 (hrun:gB S c=true->∀B ww d b,DoAt B ww d b S c PRes.zero->B<=ww.heap.size->Calls prog 108 #[.pointer (some ⟨d,0,none⟩)] ww (bJ B ww d b c R)):Did S c S' r':=by
 intro w iv ov mv h;have:=bAZ iv ov mv S c R w h hwf hrun;rw[he]at this;exact this
instance (n:Int):Decidable (I64 n):=by unfold I64;exact inferInstance
end
theorem aD {F:World->Prop} {c:Code} {Q:Exit->Act->World->Prop} {a:Act} {w:World} (hF:F w) (h:∀w,F w->c.wp prog Q a w):c.wp prog Q a w:=h w hF
theorem StRead.slices {w:World} {iv ov mv:Value} {S:PSt} (h:StRead w iv ov mv S):∃ai ni ci ao no co am nm cm,iv=.slice ai ni ci/\ov=.slice ao no co/\mv=.slice am nm cm:=by obtain⟨a1,c1,e1,_⟩:=h.1.at_;obtain⟨a2,c2,e2,_⟩:=h.2.1.at_;obtain⟨_,_,is,h3,_⟩:=h;obtain⟨a3,c3,e3,_⟩:=h3.at_;exact⟨_,_,_,_,_,_,_,_,_,e3,e1,e2⟩
section
def wN (S:PSt) (x:PIn) (r:PRes) (K:Nat) (l:ByteArray):Except Int (PSt × PRes):=
 match S.ins[K]? with
 |none=>.error 0
 |some y=>if bR y.ents l=true then .error 2 else if eZ y.ents l ⟨#[]⟩=true then .error 5 else .ok (S.ents K y (aX y.ents (cY y.ents l) ⟨l,x.num⟩),r)
variable {B b bi capi capm d gm:Nat} {S:PSt} {c:PCall} {nv ov:Value} {r:PRes} {w:World}
theorem Opened.at_call (o:Opened B w d b bi gm capi capm ov nv S c r) (hf:Fine S) (s:ByteArray) (hp:(aA s).1=0) (hpl:(aA s).2.length<=1000000000) (K:Nat) (C:Int) (hW:aK S 0 (aA s).2=(K,C)):
 ∀ww,Bl w ww->Calls prog 178 #[.pointer d,s] ww λe w'=>((C=0/\e=.returned (.pointer (some ⟨bi,K*4,none⟩)))\/(C≠0/\e=bP C))/\Bl ww w':=by
 intro ww hb;refine(aQU d b S c s ww (o.at_.read.below hb (zC _)) hf hp hpl).mono ?_;rintro e w' ⟨hb',ho⟩;rw[hW]at ho;refine⟨?_,hb'⟩;rcases ho with⟨hC,bi',off',cap',hc,he⟩|⟨hC,he⟩
 .refine .inl ⟨hC,?_⟩;have h2:=((o.below hb).hb.cell 0).symm.trans hc;simp only[yD,zH,zF,zO,yG]at h2;obtain⟨⟨rfl,rfl,-⟩,-,rfl⟩:=h2;rw[he,zM]
 exact .inr ⟨hC,he⟩
theorem Opened.parent_call (o:Opened B w d b bi gm capi capm ov nv S c r) (hf:Fine S) (s:ByteArray) (hp:(aA s).1=0) (hpl:(aA s).2.length<=1000000000) (R:Except Int (Nat × ByteArray)) (hR:bB S (aA s).2=R):
 ∀ww,Bl w ww->Calls prog 170 #[.pointer d,s] ww λe w'=>(match R with|.ok (K,l)=>e=.returned (.tuple #[.pointer (some ⟨bi,K*4,none⟩),l])|.error k=>e=bP k)/\Bl ww w':=by
 intro ww hb;refine(aCF d b S c s ww (o.at_.read.below hb (zC _)) hf hp hpl).mono ?_;rintro e w' ⟨hb',ho⟩;rw[hR]at ho;refine⟨?_,hb'⟩;rcases R with k|⟨K,l⟩
 .exact ho
 obtain⟨bi',off',cap',hc,he⟩:=ho;have h2:=((o.below hb).hb.cell 0).symm.trans hc;simp only[yD,zH,zF,zO,yG]at h2;obtain⟨⟨rfl,rfl,-⟩,-,rfl⟩:=h2;simp only;rw[he,zM]
structure InoAt (w:World) (bi K:Nat) (x:PIn) (ea:Option Addr) (ec:Nat):Prop where
 iB:BlockLt bi w
 y0:w.cell? ⟨bi,K*4,none⟩=some (.int .i64 x.num)
 y1:w.cell? ⟨bi,K*4+1,none⟩=some (.bool x.dir)
 y2:w.cell? ⟨bi,K*4+2,none⟩=some (.slice ea x.ents.length ec)
 y3:w.cell? ⟨bi,K*4+3,none⟩=some (.string x.data)
 row:RowAt w 2 (.slice ea x.ents.length ec) (x.ents.map PEnt.cells)
 ent:∀ww l,Bl w ww->vR ww 171 #[.slice ea x.ents.length ec,.string l] (.tuple #[.int .i64 (cY x.ents l),.bool (bR x.ents l)])
 ful:∀ww l but,Bl w ww->vR ww 173 #[.pointer (some ⟨bi,K*4,none⟩),.string l,.string but] (.bool (eZ x.ents l but))
theorem Opened.ino (o:Opened B w d b bi gm capi capm ov nv S c r) (hs:Small S) {K:Nat} {x:PIn} (hx:S.ins[K]? =some x):∃ea ec,InoAt w bi K x ea ec:=by obtain⟨ai,capi',he,hat⟩:=o.st.read.ins_at2;simp only[zO]at he;obtain⟨rfl,-,rfl⟩:=he;obtain⟨bi',off',ev,he,iG,hone,hrow,hcl⟩:=hat K x hx;simp only[zF,yG]at he;obtain⟨rfl,rfl,-⟩:=he;obtain⟨i1,y0,y1,y2,y3⟩:=hcl w (Below.refl _ _);rw[zM]at y0 y1 y2 y3;have a0:=hrow;obtain⟨ea,ec,rfl,_⟩:=a0;have hl:=hs.ents x (mG hx);rw[lM]at y2 hrow;exact⟨ea,ec,i1,y0,y1,y2,y3,hrow,λww l hww=>oJ x.ents _ l ww (hrow.below hww (zC _)) (by omega),λww l but hww=>aKT bi (K*4) x.ents _ l but ww ⟨by have:=i1.lt;have:=hww.size;omega⟩ ((hww.cell (p:=⟨bi,K*4+2,none⟩) i1.lt).trans y2) (hrow.below hww (zC _)) (by omega)⟩
end
end Go.Proofs.YtmkapobnfigedaaGreatDoor
