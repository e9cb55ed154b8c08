/- Part of the proof of a law of chapter 15. Conditions: none. -/
import Derived.Test.YtmkapobnfigedaaGreatDoorDl08
import Derived.Test.YtmkapobnfigedaaGreatDoorDl04
set_option linter.unusedVariables false
set_option linter.unusedSimpArgs false
set_option maxRecDepth 100000
set_option maxHeartbeats 8000000
namespace Go.Proofs.YtmkapobnfigedaaGreatDoor
open Go.RowKit
section
structure PRes where
 code:Int
 fd:Int
 num:Int
 dir:Bool
 data:ByteArray
 names:List ByteArray
deriving DecidableEq
def PRes.zero:PRes:=⟨0,0,0,false,ByteArray.empty,[]⟩
def PRes.fail (c:Int):PRes:=⟨c,0,0,false,ByteArray.empty,[]⟩
def gX (b:Nat) (c:PCall) (r:PRes) (nv:Value):Array Value:=
 #[.pointer (some ⟨b,0,none⟩),.int .i64 c.kind,.int .i64 c.core,.int .i64 c.fd,.int .i64 c.off,.int .i64 c.num,.string c.path,.string c.path2,.string c.data,
  .int .i64 r.code,.int .i64 r.fd,.int .i64 r.num,.bool r.dir,.string r.data,nv]
def bP (s:ByteArray):List Value:=[.string s]
def DoAt (B:Nat) (w:World) (d b:Nat) (S:PSt) (c:PCall) (r:PRes):Prop:=
 ∃iv ov mv nv,B<=b/\B<=d/\Blk w d (gX b c r nv) 136/\Blk w b #[iv,ov,mv] 26/\StOwn B w iv ov mv S/\OwnP B w 9 1 nv (r.names.map bP)
variable {B K b d:Nat} {S:PSt} {c:PCall} {iv mv ov:Value} {r:PRes} {w:World}
theorem SP.of_blk (h:Blk w b #[iv,ov,mv] 26) (hr:StRead w iv ov mv S):SP w b S:=
 ⟨h.lt.lt,iv,ov,mv,h.cell 0,h.cell 1,h.cell 2,hr⟩
theorem DR.of_blk {nv:Value} (h:Blk w d (gX b c r nv) 136) (hs:SP w b S):DR w d b S c:=
 ⟨h.lt.lt,h.cell 0,λt u hu=>by
  rw[h.cell,Nat.add_comm 1 t];have ht:t<8:=by obtain⟨h,_⟩:=gI.1 hu;exact h
  rcases t with _|_|_|_|_|_|_|_|t<;>first|exact hu|omega,hs⟩
theorem DoAt.read (h:DoAt B w d b S c r):DR w d b S c:=by obtain⟨iv,ov,mv,nv,_,_,hd,hb,hs,_⟩:=h;exact DR.of_blk hd (SP.of_blk hb hs.read)
theorem StOwn.keep {w':World} {X:Nat->Prop} (h:StOwn B w iv ov mv S) (hk:Keep X w w') (hX:∀g,X g->∃c t,Blk w g c t/\t≠95/\t≠3/\t≠68/\t≠97):StOwn B w' iv ov mv S:=by
 have key:∀{e:TypeId} {k:Nat} {v:Value} {rows:List (List Value)},OwnP B w e k v rows->(e=95\/e=3\/e=68\/e=97)->OwnP B w' e k v rows:=by
  intro e k v rows ho he;rcases ho with h0|⟨g,cap,cur,rfl,hg,hb,r⟩
  .exact .inl h0
  refine .inr ⟨g,cap,cur,rfl,hg,hk.blk hb (λhx=>?_),r⟩;obtain⟨c,t,hb',t1,t2,t3,t4⟩:=hX g hx;refine hb.ne_ hb' ?_ rfl;rcases he with rfl|rfl|rfl|rfl<;>first|exact λe=>t1 e.symm|exact λe=>t2 e.symm|exact λe=>t3 e.symm|exact λe=>t4 e.symm
 obtain⟨h1,h2,is,h3,h4,h5,h6⟩:=h;exact⟨key h1 (by simp),key h2 (by simp),is,key h3 (by simp),h4,λq r x hr hx=>by
  obtain⟨a1,a2,a3,a4⟩:=h5 q r x hr hx;exact⟨a1,a2,a3,key a4 (by simp)⟩,h6⟩
def bA (B:Nat) (w:World) (d b:Nat) (c:PCall) (R:Except Int (PSt × PRes)) (e:Ending) (w':World):Prop:=
 Below B w w'/\match R with
  |.ok (S,r)=>e=.returned (.tuple #[])/\DoAt B w' d b S c r
  |.error k=>e=bD k
theorem AtOut.ok {e:Ending} (h:AtOut w b S K 0 e):∃bi off cap,w.cell? ⟨b,0,none⟩=some (.slice (some ⟨bi,off,none⟩) S.ins.length cap)/\e=.returned (.pointer (some ⟨bi,off+K*4,none⟩)):=by
 rcases h with⟨_,h⟩|⟨h,_⟩
 .exact h
 exact absurd rfl h
theorem AtOut.bad {C:Int} {e:Ending} (h:AtOut w b S K C e) (hC:C≠0):e=bD C:=by
 rcases h with⟨h,_⟩|⟨_,h⟩
 .exact absurd h hC
 exact h
def aDI (S:PSt) (c:PCall) (r:PRes):Except Int (PSt × PRes):=
 if(aL S 0 (aA c.path).2).2≠0 then .error (aL S 0 (aA c.path).2).2 else
 match S.ins[(aL S 0 (aA c.path).2).1]? with
 |some x=>.ok (S,{ r with dir:=x.dir,num:=if x.dir=true then r.num else x.data.size})
 |none=>.ok (S,r)
theorem aLC (B d b:Nat) (S:PSt) (c:PCall) (r:PRes) (w:World) (h:DoAt B w d b S c r) (hB:B<=w.heap.size) (hf:Fine S) (hk:c.kind=13) (hp:(aA c.path).1=0) (hpl:(aA c.path).2.length<=1000000000):
 Calls Tryz.prog 150 #[.pointer (some ⟨d,0,none⟩)] w (bA B w d b c (aDI S c r)):=by
 have a2:∀ww,Below w.heap.size w ww->Calls Tryz.prog 178 #[.pointer (some ⟨d,0,none⟩),.string c.path] ww _:=λww hb=>aMF d b S c c.path ww (h.read.below hb (zC _)) hf hp hpl;obtain⟨iv,ov,mv,nv,hBb,hBd,hD,hbk,hst,hnv⟩:=h;have iD:=hD.lt;have iL:=hbk.lt;have d1:w.cell? ⟨d,1,none⟩=some (.int .i64 c.kind):=hD.cell 1;have d6:w.cell? ⟨d,6,none⟩=some (.string c.path):=hD.cell 6;obtain⟨ai,capi,rfl,hati⟩:=hst.read.ins_at2;have a4:=eT hf (aA c.path).2 0 hf.pos;unfold aDI;generalize aL S 0 (aA c.path).2=W at a2 a4 |-;obtain⟨K,C⟩:=W;simp only at a2 a4 |-;rw[hk]at d1;have HD:=oB hD hbk hst hnv hati;clear hD hbk hst hnv hati hk hp hpl;by_cases hC:C=0
 .subst hC;obtain⟨x,hx⟩:∃x,S.ins[K]? =some x:=⟨_,gE a4⟩
  rw[zA (by simp),hx];simp only;generalize hR:(Except.ok (S,({ r with dir:=x.dir,num:=if x.dir=true then r.num else x.data.size}:PRes)):Except Int (PSt × PRes))=R;have HR:=aG hR;clear hR;obtain⟨bi,offi,ev,rfl,iG0,ho1,hev,hcl⟩:=HD.out.2.2.2.2 K x hx;have a6:¬bi=d:=by obtain⟨_,_,is,h3,_⟩:=HD.out.2.2.1;exact h3.ne_blk HD.out.1 (by decide) rfl
  have a7:¬d=bi:=λe=>a6 e.symm;have a5:=aG hcl;clear hcl hev;generalize hdir:x.dir=dd at a5 HR;rcases dd with _|_
  .go_enter Tryz.func150,Tryz.ntmps150
   go_wp2_with(first|(go_at_call 172;refine aE (aD _ _) λp=>?_)|(go_at_call 178;refine(a2 _ (bel _ _)).mono ?_;rintro e w1 ⟨hb1,ho⟩;obtain⟨bi',offi',capi',hci,rfl⟩:=ho.ok;have a3:=(HD.out.2.1.cell 0).symm.trans hci;simp only[yD,zH,zF,zO,yG]at a3;obtain⟨⟨rfl,rfl,-⟩,-,rfl⟩:=a3;have a0:=HD.out.1.below hb1 iD.lt;have a8:=a0.lt;have a9:Bel w w1:=⟨hb1⟩;have e1:w1.cell? ⟨d,1,none⟩=some (.int .i64 13):=(hb1.cell (p:=⟨d,1,none⟩) iD.lt).trans d1;have b0:w1.cell? ⟨d,12,none⟩=some (.bool r.dir):=a0.cell 12;have b1:w1.cell? ⟨d,11,none⟩=some (.int .i64 r.num):=a0.cell 11;have b2:=a0.frozen 12;have b3:=a0.frozen 11;obtain⟨iG1,y0,y1,y2,y3⟩:=a5.out w1 hb1;have H1:=bB hb1 a0;clear hb1 a0 hci ho));have a1:Keep (λk=>k=d) w ((w1.setCell ⟨d,12,none⟩ (.bool false)).setCell ⟨d,11,none⟩ (.int .i64 x.data.size)):=Keep.setCell (S:=λk=>k=d) (p:=⟨d,11,none⟩) (Keep.setCell (S:=λk=>k=d) (p:=⟨d,12,none⟩) (Keep.of_below H1.out.1 _) (.inl rfl) _) (.inl rfl) _;refine xC (v:=.tuple #[]) (by simp[results,go_sem]) rfl ⟨a1.below hB (λi hi h=>by omega),?_⟩;rw[<-HR.out];refine⟨rfl,_,ov,mv,nv,hBb,hBd,(H1.out.2.set_ 12 _).set_ 11 _,a1.blk HD.out.2.1 (HD.out.2.1.ne_ HD.out.1 (by decide)),HD.out.2.2.1.keep a1 (λg hg=>by rw[hg];exact⟨_,136,HD.out.1,by decide,by decide,by decide,by decide⟩),HD.out.2.2.2.1.keep a1 (λg hg=>HD.out.2.2.2.1.ne_blk HD.out.1 (by decide) hg)⟩
  go_enter Tryz.func150,Tryz.ntmps150;go_wp2_with(first|(go_at_call 172;refine aE (aD _ _) λp=>?_)|(go_at_call 178;refine(a2 _ (bel _ _)).mono ?_;rintro e w1 ⟨hb1,ho⟩;obtain⟨bi',offi',capi',hci,rfl⟩:=ho.ok;have a3:=(HD.out.2.1.cell 0).symm.trans hci;simp only[yD,zH,zF,zO,yG]at a3;obtain⟨⟨rfl,rfl,-⟩,-,rfl⟩:=a3;have a0:=HD.out.1.below hb1 iD.lt;have a8:=a0.lt;have a9:Bel w w1:=⟨hb1⟩;have e1:w1.cell? ⟨d,1,none⟩=some (.int .i64 13):=(hb1.cell (p:=⟨d,1,none⟩) iD.lt).trans d1;have b0:w1.cell? ⟨d,12,none⟩=some (.bool r.dir):=a0.cell 12;have b1:w1.cell? ⟨d,11,none⟩=some (.int .i64 r.num):=a0.cell 11;have b2:=a0.frozen 12;have b3:=a0.frozen 11;obtain⟨iG1,y0,y1,y2,y3⟩:=a5.out w1 hb1;have H1:=bB hb1 a0;clear hb1 a0 hci ho));have a1:Keep (λk=>k=d) w (w1.setCell ⟨d,12,none⟩ (.bool true)):=Keep.setCell (S:=λk=>k=d) (p:=⟨d,12,none⟩) (Keep.of_below H1.out.1 _) (.inl rfl) _;refine xC (v:=.tuple #[]) (by simp[results,go_sem]) rfl ⟨a1.below hB (λi hi h=>by omega),?_⟩;rw[<-HR.out];refine⟨rfl,_,ov,mv,nv,hBb,hBd,H1.out.2.set_ 12 _,a1.blk HD.out.2.1 (HD.out.2.1.ne_ HD.out.1 (by decide)),HD.out.2.2.1.keep a1 (λg hg=>by rw[hg];exact⟨_,136,HD.out.1,by decide,by decide,by decide,by decide⟩),HD.out.2.2.2.1.keep a1 (λg hg=>HD.out.2.2.2.1.ne_blk HD.out.1 (by decide) hg)⟩
 rw[zB hC];go_enter Tryz.func150,Tryz.ntmps150;go_wp2_with(go_at_call 178;refine(a2 _ (bel _ _)).mono ?_;rintro e w1 ⟨hb1,ho⟩;obtain rfl:=ho.bad hC);exact⟨rfl,hb1.mono hB,rfl⟩
end
end Go.Proofs.YtmkapobnfigedaaGreatDoor
