/- A part of a proof of a law. Conditions: none. -/
import Derived.Test.YtmkapobnfigedaaGreatDoorDp21
import Derived.Deep.CutBlock
set_option linter.unusedVariables false
set_option linter.unusedSimpArgs false
set_option maxRecDepth 100000
set_option maxHeartbeats 40000000
namespace Go.Proofs.YtmkapobnfigedaaGreatDoor
open Go.Proofs.Tryz List Go.RowKit
theorem aUA {wz:World} {q r:Nat} {c0 c1 c2 a0 a1 a2 a3 a4 a5:Value}:Keep (λg=>g=q\/g=r) wz ((((((((((wz.setCell q c0).setCell ⟨q,1,none⟩ c1).setCell ⟨q,2,none⟩ c2).setCell r a0).setCell ⟨r,1,none⟩ a1).setCell ⟨r,2,none⟩ a2).setCell ⟨r,3,none⟩ a3).setCell ⟨r,4,none⟩ a4).setCell ⟨r,5,none⟩ a5).drew):=
 ((((((((((Keep.refl (λg=>g=q\/g=r) wz).setCell (p:=q) (.inl (.inl rfl)) c0).setCell (p:=⟨q,1,none⟩) (.inl (.inl rfl)) c1).setCell (p:=⟨q,2,none⟩) (.inl (.inl rfl)) c2).setCell (p:=r) (.inl (.inr rfl)) a0).setCell (p:=⟨r,1,none⟩) (.inl (.inr rfl)) a1).setCell (p:=⟨r,2,none⟩) (.inl (.inr rfl)) a2).setCell (p:=⟨r,3,none⟩) (.inl (.inr rfl)) a3).setCell (p:=⟨r,4,none⟩) (.inl (.inr rfl)) a4).setCell (p:=⟨r,5,none⟩) (.inl (.inr rfl)) a5).drew
section
def aXO (B b:Nat) (w:World) (X:Except Int (PSt × PRes)) (e:Ending) (w':World):Prop:=
 match X with
 |.error k=>e=.returned (.tuple #[aR k 0 0,.bool true])/\Bl w w'
 |.ok (S',r)=>e=.returned (.tuple #[.agg #[.int .i64 0,.int .i64 r.fd,.int .i64 r.num,.bool r.dir,.string r.data,.slice none 0 0],.bool true])/\Below B w w'/\Spared b w w'/\∃iv' ov' mv',Blk w' b #[iv',ov',mv'] 26/\StOwn B w' iv' ov' mv' S'
def aXP (w:World) (S:PSt) (X:Except Int (PSt × PRes)) (e:Ending) (w':World):Prop:=
 match X with
 |.error k=>e=.returned (aR k 0 0)/\Bl w w'
 |.ok (S',r)=>S'=S/\∃nv,e=.returned (.agg #[.int .i64 0,.int .i64 r.fd,.int .i64 r.num,.bool r.dir,.string r.data,nv])/\Bl w w'/\OwnP w.heap.size w' 9 1 nv (r.names.map cL)
def aMO (S:PSt) (X:Except Int (PSt × PRes)):PSt × PRes:=match X with
 |.error k=>(S,⟨k,0,0,false,⟨#[]⟩,[]⟩)
 |.ok (S',r)=>(S',r)
def DoOut (w:World) (Y:PSt × PRes) (e:Ending) (w':World):Prop:=
 ∃iv ov mv nv,e=.returned (.tuple #[.agg #[iv,ov,mv],.agg #[Y.2.code,Y.2.fd,Y.2.num,Y.2.dir,Y.2.data,nv],true])/\Bl w w'/\StOwn w.heap.size w' iv ov mv Y.1/\OwnP w.heap.size w' 9 1 nv (Y.2.names.map cL)
theorem DoOut.of {w w':World} {S':PSt} {c f n:Int} {d:Bool} {s:ByteArray} {l:List ByteArray} {iv ov mv nv:Value} (hb:Bl w w') (hs:StOwn w.heap.size w' iv ov mv S') (hn:OwnP w.heap.size w' 9 1 nv (l.map cL)):DoOut w (S',⟨c,f,n,d,s,l⟩) (.returned (.tuple #[.agg #[iv,ov,mv],.agg #[c,f,n,d,s,nv],true])) w':=⟨iv,ov,mv,nv,rfl,hb,hs,hn⟩
def SwOut (w:World) (b:Nat) (st:Array Value) (X:Except Int (PSt × PRes)) (wx:World):Prop:=
 Blk wx w.heap.size st 26/\Blk wx (w.heap.size+1+1) #[.slice none 0 0,.slice none 0 0,.slice none 0 0] 26/\Blk wx (w.heap.size+1+1+1) () 52/\Bl w wx/\match X with
 |.error k=>Blk wx (b+1) #[.int .i64 k,.int .i64 0,.int .i64 0,.bool false,.string ⟨#[]⟩,.slice none 0 0] 52
 |.ok (S',r)=>∃a1 a2 a3 a4 a5 a6 a7 a8 a9 n1 n2 n3,StOwn (w.heap.size+1+1+1+1) wx (.slice a1 a2 a3) (.slice a4 a5 a6) (.slice a7 a8 a9) S'/\Blk wx b #[.slice a1 a2 a3,.slice a4 a5 a6,.slice a7 a8 a9] 26/\Blk wx (b+1) #[.int .i64 0,.int .i64 r.fd,.int .i64 r.num,.bool r.dir,.string r.data,.slice n1 n2 n3] 52/\OwnP (w.heap.size+1+1+1+1) wx 9 1 (.slice n1 n2 n3) (r.names.map cL)
theorem six {w5:World} {r:Nat} {t:TypeId} {d0 d1 d2 d3 d4 d5:Value} (h:Blk w5 r #[d0,d1,d2,d3,d4,d5] t):BlockLt r w5/\w5.cell? r=some d0/\w5.cell? ⟨r,1,none⟩=some d1/\w5.cell? ⟨r,2,none⟩=some d2/\w5.cell? ⟨r,3,none⟩=some d3/\w5.cell? ⟨r,4,none⟩=some d4/\w5.cell? ⟨r,5,none⟩=some d5/\w5.frozen? r=false/\w5.frozen? ⟨r,1,none⟩=false/\w5.frozen? ⟨r,2,none⟩=false/\w5.frozen? ⟨r,3,none⟩=false/\w5.frozen? ⟨r,4,none⟩=false/\w5.frozen? ⟨r,5,none⟩=false:=
 ⟨h.lt,h.cell 0,h.cell 1,h.cell 2,h.cell 3,h.cell 4,h.cell 5,h.frozen 0,h.frozen 1,h.frozen 2,h.frozen 3,h.frozen 4,h.frozen 5⟩
theorem aZJ {w5:World} {r:Nat} {t:TypeId} {d0 d1 d2 d3 d4 d5:Value} (h:Blk w5 r #[d0,d1,d2,d3,d4,d5] t) (c0 c1 c2 c3 c4 c5:Value):Blk ((((((w5.setCell r c0).setCell ⟨r,1,none⟩ c1).setCell ⟨r,2,none⟩ c2).setCell ⟨r,3,none⟩ c3).setCell ⟨r,4,none⟩ c4).setCell ⟨r,5,none⟩ c5) r #[c0,c1,c2,c3,c4,c5] t:=by have h:=(((((h.set_ 0 c0).set_ 1 c1).set_ 2 c2).set_ 3 c3).set_ 4 c4).set_ 5 c5;simpa only[sA,sZ,sS]using h
section
variable {w W w5:World} {b:Nat} {st:Array Value} {S S':PSt} {d0 d1 d2 d3 d4 d5:Value}
theorem aKJ {k:Int} (hS:Blk W w.heap.size st 26) (hN:Blk W (w.heap.size+1+1) #[.slice none 0 0,.slice none 0 0,.slice none 0 0] 26) (hR:Blk W (w.heap.size+1+1+1) () 52) (hbw:Bl w W) (hb5:Below W.heap.size W w5) (hr5:Blk w5 (b+1) #[d0,d1,d2,d3,d4,d5] 52) (hbl:w.heap.size+1+1+1+1<=b):
 SwOut w b st (.error k) ((((((w5.setCell ⟨b+1,0,none⟩ (.int .i64 k)).setCell ⟨b+1,1,none⟩ (.int .i64 0)).setCell ⟨b+1,2,none⟩ (.int .i64 0)).setCell ⟨b+1,3,none⟩ (.bool false)).setCell ⟨b+1,4,none⟩ (.string ⟨#[]⟩)).setCell ⟨b+1,5,none⟩ (.slice none 0 0)):=
 have hK:=lF (wz:=w5) (r:=b+1) (a0:=.int .i64 k) (a1:=.int .i64 0) (a2:=.int .i64 0) (a3:=.bool false) (a4:=.string ⟨#[]⟩) (a5:=.slice none 0 0);have hb:=hbw.trans (hb5.mono hbw.size)
 ⟨hK.blk (aB hS hb5) (by omega),hK.blk (aB hN hb5) (by omega),hK.blk (aB hR hb5) (by omega),hb.trans (hK.below hb.size (λi hi e=>by omega)),aZJ hr5 _ _ _ _ _ _⟩
theorem aXQ {a1:Option Addr} {a2 a3:Nat} {a4:Option Addr} {a5 a6:Nat} {a7:Option Addr} {a8 a9:Nat} {r:PRes} (hn:r.names=[]) (hS:Blk W w.heap.size st 26) (hN:Blk W (w.heap.size+1+1) #[.slice none 0 0,.slice none 0 0,.slice none 0 0] 26) (hR:Blk W (w.heap.size+1+1+1) () 52) (hbw:Bl w W) (hW:w.heap.size+1+1+1+1<=W.heap.size) (hb5:Below (w.heap.size+1+1+1+1) W w5) (hp5:Spared b W w5) (hk5:Blk w5 b #[.slice a1 a2 a3,.slice a4 a5 a6,.slice a7 a8 a9] 26) (hs5:StOwn (w.heap.size+1+1+1+1) w5 (.slice a1 a2 a3) (.slice a4 a5 a6) (.slice a7 a8 a9) S') (hr5:Blk w5 (b+1) #[d0,d1,d2,d3,d4,d5] 52) (hbl:w.heap.size+1+1+1+1<=b):
 SwOut w b st (.ok (S',r)) ((((((w5.setCell ⟨b+1,0,none⟩ (.int .i64 0)).setCell ⟨b+1,1,none⟩ (.int .i64 r.fd)).setCell ⟨b+1,2,none⟩ (.int .i64 r.num)).setCell ⟨b+1,3,none⟩ (.bool r.dir)).setCell ⟨b+1,4,none⟩ (.string r.data)).setCell ⟨b+1,5,none⟩ (.slice none 0 0)):=
 have hK:=lF (wz:=w5) (r:=b+1) (a0:=.int .i64 0) (a1:=.int .i64 r.fd) (a2:=.int .i64 r.num) (a3:=.bool r.dir) (a4:=.string r.data) (a5:=.slice none 0 0);have hb:=hbw.trans (hb5.mono (by omega))
 ⟨hK.blk (hp5 _ _ _ hS (by omega) (.inl rfl)) (by omega),hK.blk (hp5 _ _ _ hN (by omega) (.inl rfl)) (by omega),hK.blk (hp5 _ _ _ hR (by omega) (.inr (.inr rfl))) (by omega),hb.trans (hK.below hb.size (λi hi e=>by omega)),
  _,_,_,_,_,_,_,_,_,_,_,_,hs5.keep hK (λg hg=>by rw[hg];exact⟨_,52,hr5,by decide,by decide,by decide,by decide⟩),hK.blk hk5 (by omega),aZJ hr5 _ _ _ _ _ _,.inl ⟨rfl,by rw[hn];rfl⟩⟩
theorem aWS {a1:Option Addr} {a2 a3:Nat} {a4:Option Addr} {a5 a6:Nat} {a7:Option Addr} {a8 a9:Nat} {n1:Option Addr} {n2 n3:Nat} {r:PRes} (hS:Blk W w.heap.size st 26) (hN:Blk W (w.heap.size+1+1) #[.slice none 0 0,.slice none 0 0,.slice none 0 0] 26) (hR:Blk W (w.heap.size+1+1+1) () 52) (hbw:Bl w W) (hb5:Below W.heap.size W w5) (hk:Blk W b #[.slice a1 a2 a3,.slice a4 a5 a6,.slice a7 a8 a9] 26) (hs:StOwn (w.heap.size+1+1+1+1) W (.slice a1 a2 a3) (.slice a4 a5 a6) (.slice a7 a8 a9) S) (hr:Blk W (b+1) #[d0,d1,d2,d3,d4,d5] 52) (hn:OwnP W.heap.size w5 9 1 (.slice n1 n2 n3) (r.names.map cL)) (hW:w.heap.size+1+1+1+1<=W.heap.size) (hbl:w.heap.size+1+1+1+1<=b):
 SwOut w b st (.ok (S,r)) ((((((w5.setCell ⟨b+1,0,none⟩ (.int .i64 0)).setCell ⟨b+1,1,none⟩ (.int .i64 r.fd)).setCell ⟨b+1,2,none⟩ (.int .i64 r.num)).setCell ⟨b+1,3,none⟩ (.bool r.dir)).setCell ⟨b+1,4,none⟩ (.string r.data)).setCell ⟨b+1,5,none⟩ (.slice n1 n2 n3)):=
 have hK:=lF (wz:=w5) (r:=b+1) (a0:=.int .i64 0) (a1:=.int .i64 r.fd) (a2:=.int .i64 r.num) (a3:=.bool r.dir) (a4:=.string r.data) (a5:=.slice n1 n2 n3);have hb:=hbw.trans (hb5.mono hbw.size);have b0:=aB hr hb5;have b1:=hr.lt.lt
 ⟨hK.blk (aB hS hb5) (by omega),hK.blk (aB hN hb5) (by omega),hK.blk (aB hR hb5) (by omega),hb.trans (hK.below hb.size (λi hi e=>by omega)),
  _,_,_,_,_,_,_,_,_,_,_,_,(hs.on hb5).keep hK (λg hg=>by rw[hg];exact⟨_,52,b0,by decide,by decide,by decide,by decide⟩),hK.blk (aB hk hb5) (by omega),aZJ b0 _ _ _ _ _ _,(hn.keep hK (λg hg e=>by have:=hn.ge hg;omega)).mono hW⟩
theorem SwOut.on {X:Except Int (PSt × PRes)} (h:SwOut w b st X W) (hb:Below W.heap.size W w5):SwOut w b st X w5:=by
 obtain⟨h1,h2,h3,h4,h5⟩:=h;refine⟨aB h1 hb,aB h2 hb,aB h3 hb,h4.trans (hb.mono h4.size),?_⟩;cases X with
 |error k=>exact aB h5 hb
 | ok p=>obtain⟨a1,a2,a3,a4,a5,a6,a7,a8,a9,n1,n2,n3,k1,k2,k3,k4⟩:=h5;exact⟨a1,a2,a3,a4,a5,a6,a7,a8,a9,n1,n2,n3,k1.on hb,aB k2 hb,aB k3 hb,k4.below hb⟩
end
theorem bBT (S:PSt) (iv ov mv:Value) (kd core fd off nu:Int) (pt p2 dt:ByteArray) (w:World) (h:StRead w iv ov mv S) (hwf:S.wf) (hm:vB w 30 #[.agg #[iv,ov,mv]] (.bool true)) (hc0:0<=core) (hc1:core<S.made.length) (hk0:0<=kd) (hk1:kd<=16)
 (X:Except Int (PSt × PRes)) (d7:∀k,X=.error k->k≠0) (hrz:∀S' r,X=.ok (S',r)->r.code=0) (hnn:∀S' r,X=.ok (S',r)->kd≠12->r.names=[])
 (h93:kd=0\/kd=1->∀B b iv' ov' mv' ww,Blk ww b #[iv',ov',mv'] 26->StOwn B ww iv' ov' mv' S->B<=ww.heap.size->B<=b->Calls prog 93 #[.pointer (some ⟨b,0,none⟩),.agg #[kd,core,fd,off,nu,pt,p2,dt]] ww (ByOut B b ww X))
 (h94:kd=2->∀B b iv' ov' mv' ww,Blk ww b #[iv',ov',mv'] 26->StOwn B ww iv' ov' mv' S->B<=ww.heap.size->B<=b->Calls prog 94 #[.pointer (some ⟨b,0,none⟩),.agg #[kd,core,fd,off,nu,pt,p2,dt],.int .i64 (-1)] ww (aXO B b ww X))
 (h95:(3<=kd/\kd<=7)\/kd=15->∀B b iv' ov' mv' ww,Blk ww b #[iv',ov',mv'] 26->StOwn B ww iv' ov' mv' S->B<=ww.heap.size->B<=b->Calls prog 95 #[.pointer (some ⟨b,0,none⟩),.agg #[kd,core,fd,off,nu,pt,p2,dt]] ww (ByOut B b ww X))
 (h96:8<=kd/\kd<=11->∀B b iv' ov' mv' ww,Blk ww b #[iv',ov',mv'] 26->StOwn B ww iv' ov' mv' S->B<=ww.heap.size->B<=b->Calls prog 96 #[.pointer (some ⟨b,0,none⟩),.agg #[kd,core,fd,off,nu,pt,p2,dt]] ww (ByOut B b ww X))
 (h97:12<=kd/\kd<=14->∀iv' ov' mv' ww,StRead ww iv' ov' mv' S->Calls prog 97 #[.agg #[iv',ov',mv'],.agg #[kd,core,fd,off,nu,pt,p2,dt]] ww (aXP ww S X))
 (h16:kd=16->X=.ok (S,⟨0,0,0,false,⟨#[]⟩,[]⟩)):
 Calls prog 64 #[.agg #[iv,ov,mv],.agg #[kd,core,fd,off,nu,pt,p2,dt],.int .i64 (-1)] w (DoOut w (aMO S X)):=by
 have d6:∀ww,Below w.heap.size w ww->Calls prog 91 #[.agg #[iv,ov,mv]] ww λe w'=>∃iv' ov' mv',e=.returned (.agg #[iv',ov',mv'])/\Below ww.heap.size ww w'/\StOwn ww.heap.size w' iv' ov' mv' S:=λww hb=>aUB S iv ov mv ww (h.below hb (zC _)) hwf;obtain⟨am,cm,rfl⟩:∃am cm,mv=.slice am S.made.length cm:=by obtain⟨a,c,e,_⟩:=h.2.1.at_;rw[lM]at e;exact⟨a,c,e⟩
 obtain⟨ai,ni,ci,ao,no,co,am',nm',cm',rfl,rfl,-⟩:=h.slices;have e9:¬core<0:=by omega
 have f0:¬(S.made.length:Int)<=core:=by omega
 have f1:¬kd<0:=by omega
 have f2:¬16<kd:=by omega
 have d5:=jj6 h93 h94 h95 h96 h97 h16;have HX:=eH d7 hrz hnn;have HK:=bJ hk0 hk1;have f3:=aC d6;clear h hwf h93 h94 h95 h96 h97 h16 d7 hrz hnn hk0 hk1;go_in;go_upto_region 5 with(first|(go_at_call 30;refine aE (hm _ (bel _ _)) λp=>?_)|(go_at_call 91;(refine(d6 _ (bel _ _)).mono ?_);rintro e w1 ⟨iv1,ov1,mv1,rfl,hb1,hs1⟩;have i1:Bel w w1:=⟨(bel w _).trans (hb1.mono (bel w _).size)⟩;have e5:Blk w1 w.heap.size #[.slice ai ni ci,.slice ao no co,.slice am S.made.length cm] 26:=aB (aB (Blk.new w #[.slice ai ni ci,.slice ao no co,.slice am S.made.length cm] 26) (bel _ _)) hb1;have e6:Blk w1 (w.heap.size+1) #[kd,core,fd,off,nu,pt,p2,dt] 28:=aB (aB (Blk.new_i (w.alloc (.cells #[.slice ai ni ci,.slice ao no co,.slice am S.made.length cm] 26)) #[kd,core,fd,off,nu,pt,p2,dt] 28 (w.heap.size+1)) (bel _ _)) hb1;have e7:Blk w1 (w.heap.size+1+1) #[.slice none 0 0,.slice none 0 0,.slice none 0 0] 26:=aB (aB (Blk.new_i ((w.alloc (.cells #[.slice ai ni ci,.slice ao no co,.slice am S.made.length cm] 26)).alloc (.cells #[kd,core,fd,off,nu,pt,p2,dt] 28)) #[.slice none 0 0,.slice none 0 0,.slice none 0 0] 26 (w.heap.size+1+1)) (bel _ _)) hb1;have e8:Blk w1 (w.heap.size+1+1+1) () 52:=aB (aB (Blk.new_i (((w.alloc (.cells #[.slice ai ni ci,.slice ao no co,.slice am S.made.length cm] 26)).alloc (.cells #[kd,core,fd,off,nu,pt,p2,dt] 28)).alloc (.cells #[.slice none 0 0,.slice none 0 0,.slice none 0 0] 26)) #[.int .i64 0,.int .i64 0,.int .i64 0,.bool false,.string ⟨#[]⟩,.slice none 0 0] 52 (w.heap.size+1+1+1)) (bel _ _)) hb1;obtain⟨a1,a2,a3,a4,a5,a6,a7,a8,a9,rfl,rfl,rfl⟩:=hs1.forms;have H1:=jj6 (hs1.mono (B':=w.heap.size+1+1+1+1) (by simp)) e6 e7 e8 e5 i1.below;clear hb1 hs1 e6 e7 e8 e5))
 have d3:w.heap.size+1+1+1+1<=w1.heap.size:=by have:=H1.out.2.2.2.1.lt.lt;omega
 refine aD (F:=λW=>StOwn (w.heap.size+1+1+1+1) W (.slice a1 a2 a3) (.slice a4 a5 a6) (.slice a7 a8 a9) S/\Blk W (w1.heap.size) #[.slice a1 a2 a3,.slice a4 a5 a6,.slice a7 a8 a9] 26/\Blk W (w1.heap.size+1) () 52/\Blk W (w.heap.size+1) #[kd,core,fd,off,nu,pt,p2,dt] 28/\Blk W (w.heap.size+1+1) #[.slice none 0 0,.slice none 0 0,.slice none 0 0] 26/\Blk W (w.heap.size+1+1+1) () 52/\Blk W w.heap.size #[.slice ai ni ci,.slice ao no co,.slice am S.made.length cm] 26/\Below w.heap.size w W) ⟨H1.out.1.on (bel w1 _),aB (Blk.new w1 #[.slice a1 a2 a3,.slice a4 a5 a6,.slice a7 a8 a9] 26) (bel _ _),Blk.new_i _ _ _ _,aB H1.out.2.1 (bel w1 _),aB H1.out.2.2.1 (bel w1 _),aB H1.out.2.2.2.1 (bel w1 _),aB H1.out.2.2.2.2.1 (bel w1 _),H1.out.2.2.2.2.2.trans ((bel w1 _).mono H1.out.2.2.2.2.2.size)⟩ ?_;clear H1 d6 i1 hm;obtain⟨b,hbn⟩:=gAB w1.heap.size;rw[hbn]at d3 |-;clear hbn;rintro W ⟨ho,hb,hr,hC,hN,hR,hS,hbw⟩;have iB:=hb.lt;have iR:=hr.lt;have iC:=hC.lt;obtain⟨-,c0,c1,c2,c3,c4,c5,c6,c7⟩:=bx8 hC;have HW:=jj7 ho hb hr hN hR hS hbw;have d4:w.heap.size+1+1+1+1<=W.heap.size:=by have:=iB.lt;omega
 clear ho hb hr hC hN hR hS hbw
 go_upto_block 0 with fail
 go_cut [11] (λv11 wx=>v11=.bool true/\SwOut w b #[.slice ai ni ci,.slice ao no co,.slice am S.made.length cm] X wx)
 case first=>
  obtain⟨hk0,hk1⟩:=HK.out;have d8:kd=0\/kd=1\/kd=3\/kd=4\/kd=5\/kd=6\/kd=7\/kd=15\/kd=8\/kd=9\/kd=10\/kd=11\/kd=2\/kd=12\/kd=13\/kd=14\/kd=16:=by omega
  rcases d8 with rfl|rfl|rfl|rfl|rfl|rfl|rfl|rfl|rfl|rfl|rfl|rfl|rfl|rfl|rfl|rfl|rfl
  iterate 12
   · (first|have c9:=(d5.out.1) (by omega) (w.heap.size+1+1+1+1) b _ _ _ W HW.out.2.1 HW.out.1 d4 d3|have c9:=(d5.out.2.2.1) (by omega) (w.heap.size+1+1+1+1) b _ _ _ W HW.out.2.1 HW.out.1 d4 d3|have c9:=(d5.out.2.2.2.1) (by omega) (w.heap.size+1+1+1+1) b _ _ _ W HW.out.2.1 HW.out.1 d4 d3)
     cases X with
     | error k=>have b0:Calls prog _ #[.pointer (some ⟨b,0,none⟩),.agg #[.int .i64 _,.int .i64 core,.int .i64 fd,.int .i64 off,.int .i64 nu,.string pt,.string p2,.string dt]] W λe w'=>e=.returned (.agg #[.int .i64 k,.int .i64 0,.int .i64 0,.bool false,.string ⟨#[]⟩,.slice none 0 0])/\Below W.heap.size W w':=c9;clear c9;go_wp2_with((first|go_at_call 93|go_at_call 95|go_at_call 96);(with_reducible refine b0.mono ?_);rintro e w5 ⟨rfl,hb5⟩;have c8:=aB HW.out.2.2.1 hb5;obtain⟨iR5,g0,g1,g2,g3,g4,g5,fz0,fz1,fz2,fz3,fz4,fz5⟩:=six c8;have H5:=bJ hb5 c8;clear hb5 c8);go_meet;exact⟨rfl,aKJ HW.out.2.2.2.2.2.1 HW.out.2.2.2.1 HW.out.2.2.2.2.1 HW.out.2.2.2.2.2.2 H5.out.1 H5.out.2 d3⟩
     | ok p=>obtain⟨S',r⟩:=p;have d9:=HX.out.2.2 S' r rfl (by decide);have b0:Calls prog _ #[.pointer (some ⟨b,0,none⟩),.agg #[.int .i64 _,.int .i64 core,.int .i64 fd,.int .i64 off,.int .i64 nu,.string pt,.string p2,.string dt]] W λe w'=>e=.returned (.agg #[.int .i64 0,.int .i64 r.fd,.int .i64 r.num,.bool r.dir,.string r.data,.slice none 0 0])/\Below (w.heap.size+1+1+1+1) W w'/\Spared b W w'/\∃iv' ov' mv',Blk w' b #[iv',ov',mv'] 26/\StOwn (w.heap.size+1+1+1+1) w' iv' ov' mv' S':=c9;clear c9;go_wp2_with((first|go_at_call 93|go_at_call 95|go_at_call 96);(with_reducible refine b0.mono ?_);rintro e w5 ⟨rfl,hb5,hp5,iv5,ov5,mv5,hk5,hs5⟩;have c8:=hp5 _ _ _ HW.out.2.2.1 (by omega) (.inr (.inr rfl));obtain⟨iR5,g0,g1,g2,g3,g4,g5,fz0,fz1,fz2,fz3,fz4,fz5⟩:=six c8;obtain⟨b1,b2,b3,b4,b5,b6,b7,b8,b9,rfl,rfl,rfl⟩:=hs5.forms;have H5:=qM hb5 hp5 hk5 hs5 c8;clear hb5 hp5 hk5 hs5 c8);go_meet;exact⟨rfl,aXQ d9 HW.out.2.2.2.2.2.1 HW.out.2.2.2.1 HW.out.2.2.2.2.1 HW.out.2.2.2.2.2.2 d4 H5.out.1 H5.out.2.1 H5.out.2.2.1 H5.out.2.2.2.1 H5.out.2.2.2.2 d3⟩
  .have c9:=(d5.out.2.1) rfl (w.heap.size+1+1+1+1) b _ _ _ W HW.out.2.1 HW.out.1 d4 d3;cases X with
   | error k=>have b0:vR W 94 #[.pointer (some ⟨b,0,none⟩),.agg #[.int .i64 _,.int .i64 core,.int .i64 fd,.int .i64 off,.int .i64 nu,.string pt,.string p2,.string dt],.int .i64 (-1)] (.tuple #[.agg #[.int .i64 k,.int .i64 0,.int .i64 0,.bool false,.string ⟨#[]⟩,.slice none 0 0],.bool true]):=c9;clear c9;go_wp2_with(go_at_call 94;(refine b0.mono ?_);rintro e w5 ⟨rfl,hb5⟩;have c8:=aB HW.out.2.2.1 hb5;obtain⟨iR5,g0,g1,g2,g3,g4,g5,fz0,fz1,fz2,fz3,fz4,fz5⟩:=six c8;have H5:=bJ hb5 c8;clear hb5 c8);go_meet;exact⟨rfl,(aKJ HW.out.2.2.2.2.2.1 HW.out.2.2.2.1 HW.out.2.2.2.2.1 HW.out.2.2.2.2.2.2 H5.out.1 H5.out.2 d3).on (bel _ _)⟩
   | ok p=>obtain⟨S',r⟩:=p;have d9:=HX.out.2.2 S' r rfl (by decide);have b0:Calls prog 94 #[.pointer (some ⟨b,0,none⟩),.agg #[.int .i64 _,.int .i64 core,.int .i64 fd,.int .i64 off,.int .i64 nu,.string pt,.string p2,.string dt],.int .i64 (-1)] W λe w'=>e=.returned (.tuple #[.agg #[.int .i64 0,.int .i64 r.fd,.int .i64 r.num,.bool r.dir,.string r.data,.slice none 0 0],.bool true])/\Below (w.heap.size+1+1+1+1) W w'/\Spared b W w'/\∃iv' ov' mv',Blk w' b #[iv',ov',mv'] 26/\StOwn (w.heap.size+1+1+1+1) w' iv' ov' mv' S':=c9;clear c9;go_wp2_with(go_at_call 94;(refine b0.mono ?_);rintro e w5 ⟨rfl,hb5,hp5,iv5,ov5,mv5,hk5,hs5⟩;have c8:=hp5 _ _ _ HW.out.2.2.1 (by omega) (.inr (.inr rfl));obtain⟨iR5,g0,g1,g2,g3,g4,g5,fz0,fz1,fz2,fz3,fz4,fz5⟩:=six c8;obtain⟨b1,b2,b3,b4,b5,b6,b7,b8,b9,rfl,rfl,rfl⟩:=hs5.forms;have H5:=qM hb5 hp5 hk5 hs5 c8;clear hb5 hp5 hk5 hs5 c8);go_meet;exact⟨rfl,(aXQ d9 HW.out.2.2.2.2.2.1 HW.out.2.2.2.1 HW.out.2.2.2.2.1 HW.out.2.2.2.2.2.2 d4 H5.out.1 H5.out.2.1 H5.out.2.2.1 H5.out.2.2.2.1 H5.out.2.2.2.2 d3).on (bel _ _)⟩
  iterate 3
   .have c9:=(d5.out.2.2.2.2.1) (by omega) _ _ _ W HW.out.1.read;obtain⟨-,dd0,dd1,dd2⟩:=gR HW.out.2.1;cases X with
    | error k=>have b0:vR W 97 #[.agg #[.slice a1 a2 a3,.slice a4 a5 a6,.slice a7 a8 a9],.agg #[.int .i64 _,.int .i64 core,.int .i64 fd,.int .i64 off,.int .i64 nu,.string pt,.string p2,.string dt]] (.agg #[.int .i64 k,.int .i64 0,.int .i64 0,.bool false,.string ⟨#[]⟩,.slice none 0 0]):=c9;clear c9;go_wp2_with(go_at_call 97;(refine b0.mono ?_);rintro e w5 ⟨rfl,hb5⟩;have c8:=aB HW.out.2.2.1 hb5;obtain⟨iR5,g0,g1,g2,g3,g4,g5,fz0,fz1,fz2,fz3,fz4,fz5⟩:=six c8;have H5:=bJ hb5 c8;clear hb5 c8);go_meet;exact⟨rfl,aKJ HW.out.2.2.2.2.2.1 HW.out.2.2.2.1 HW.out.2.2.2.2.1 HW.out.2.2.2.2.2.2 H5.out.1 H5.out.2 d3⟩
    | ok p=>obtain⟨S',r⟩:=p;have b0:Calls prog 97 #[.agg #[.slice a1 a2 a3,.slice a4 a5 a6,.slice a7 a8 a9],.agg #[.int .i64 _,.int .i64 core,.int .i64 fd,.int .i64 off,.int .i64 nu,.string pt,.string p2,.string dt]] W λe w'=>S'=S/\∃nv,e=.returned (.agg #[.int .i64 0,.int .i64 r.fd,.int .i64 r.num,.bool r.dir,.string r.data,nv])/\Below W.heap.size W w'/\OwnP W.heap.size w' 9 1 nv (r.names.map cL):=c9;clear c9;go_wp2_with(go_at_call 97;(refine b0.mono ?_);rintro e w5 ⟨rfl,nv,rfl,hb5,hn5⟩;obtain⟨m1,m3,rfl⟩:=hn5.formL;have c8:=aB HW.out.2.2.1 hb5;obtain⟨iR5,g0,g1,g2,g3,g4,g5,fz0,fz1,fz2,fz3,fz4,fz5⟩:=six c8;have H5:=bJ hb5 hn5;clear hb5 c8 hn5);go_meet;exact⟨rfl,aWS HW.out.2.2.2.2.2.1 HW.out.2.2.2.1 HW.out.2.2.2.2.1 HW.out.2.2.2.2.2.2 H5.out.1 HW.out.2.1 HW.out.1 HW.out.2.2.1 (by have h:=H5.out.2;rwa [lM]at h) d4 d3⟩
  have hx:=d5.out.2.2.2.2.2 rfl;subst hx;go_wp2_with fail;go_meet;exact⟨rfl,HW.out.2.2.2.2.2.1,HW.out.2.2.2.1,HW.out.2.2.2.2.1,HW.out.2.2.2.2.2.2,_,_,_,_,_,_,_,_,_,_,_,_,HW.out.1,HW.out.2.1,HW.out.2.2.1,.inl ⟨rfl,rfl⟩⟩
 clear iB iR iC c0 c1 c2 c3 c4 c5 c6 c7;obtain⟨rfl,hS,hN,hR,hbw,hx⟩:=hcut;cases X with
 | error k=>
   have hr:Blk wc (b+1) #[k,.int .i64 0,.int .i64 0,false,.string ⟨#[]⟩,.slice none 0 0] 52:=hx;have d7:=HX.out.1 k rfl;have h3:(k !=0)=true:=by simpa using d7
   have iS:=hS.lt;have iN:=hN.lt;have iT:=hR.lt;have iR:=hr.lt;have e0:=hS.cell 0;have e1:=hS.cell 1;have e2:=hS.cell 2;have g0:=hr.cell 0;have g1:=hr.cell 1;have g2:=hr.cell 2;have g3:=hr.cell 3;have g4:=hr.cell 4;have g5:=hr.cell 5;have u0:=hN.cell 0;have f4:=hN.frozen 0;have u1:=hN.cell 1;have f5:=hN.frozen 1;have u2:=hN.cell 2;have f6:=hN.frozen 2;have v0:=hR.cell 0;have f7:=hR.frozen 0;have v1:=hR.cell 1;have f8:=hR.frozen 1;have v2:=hR.cell 2;have f9:=hR.frozen 2;have v3:=hR.cell 3;have g6:=hR.frozen 3;have v4:=hR.cell 4;have g7:=hR.frozen 4;have v5:=hR.cell 5;have g8:=hR.frozen 5;simp at e0 e1 e2 g0 g1 g2 g3 g4 g5 u0 u1 u2 v0 v1 v2 v3 v4 v5;have n1:¬b=w.heap.size+1+1:=by omega
   have n2:¬b=w.heap.size+1+1+1:=by omega
   have n3:¬b+1=w.heap.size+1+1:=by omega
   have n4:¬b+1=w.heap.size+1+1+1:=by omega
   have n5:¬w.heap.size+1+1=w.heap.size+1+1+1:=by omega
   have n6:¬w.heap.size+1+1+1=w.heap.size+1+1:=by omega
   have n7:¬w.heap.size+1+1=b:=by omega
   have n8:¬w.heap.size+1+1+1=b:=by omega
   have n9:¬w.heap.size+1+1=b+1:=by omega
   have g9:¬w.heap.size+1+1+1=b+1:=by omega
   have h4:¬w.heap.size=w.heap.size+1+1:=by omega
   have h5:¬w.heap.size=w.heap.size+1+1+1:=by omega
   have d6:=λww (hw:Below wc.heap.size wc ww)=>f3.out ww (hbw.trans (hw.mono hbw.size));have HZ:=mJ hN hR hbw hr;clear hS hN hR hbw hx hr HW;go_upto_region 30 with fail;refine aH [1,4,5] true (λw'=>w'.cell? w.heap.size=some (.slice ai ni ci)/\w'.cell? ⟨w.heap.size,1,none⟩=some (.slice ao no co)/\w'.cell? ⟨w.heap.size,2,none⟩=some (.slice am S.made.length cm)/\w'.cell? ⟨b+1,0,none⟩=some (.int .i64 k)/\w'.cell? ⟨b+1,1,none⟩=some (.int .i64 0)/\w'.cell? ⟨b+1,2,none⟩=some (.int .i64 0)/\w'.cell? ⟨b+1,3,none⟩=some (.bool false)/\w'.cell? ⟨b+1,4,none⟩=some (.string ⟨#[]⟩)/\w'.cell? ⟨b+1,5,none⟩=some (.slice none 0 0)) (by kernel_rfl) (by kernel_rfl) ?_ ?_
   · (try dsimp only);(repeat' apply And.intro)<;>go_simp
   repeat
    apply aI0 rfl rfl
    focus
     rintro w' ⟨s0,s1,s2,s3,s4,s5,s6,s7,s8⟩;go_simp
     first|done|rfl
    simp only[Act.put,sA,sZ,sS]
   refine bB rfl rfl ?_;refine aS 91 #[.agg #[.slice ai ni ci,.slice ao no co,.slice am S.made.length cm]] ?hr ?_
   case hr=>
    go_simp
    first|done|rfl
   refine(d6 _ (bel wc _)).mono ?_;rintro e w5 ⟨iv5,ov5,mv5,rfl,hb5,hs5⟩;obtain⟨b1,b2,b3,b4,b5,b6,b7,b8,b9,rfl,rfl,rfl⟩:=hs5.forms;obtain⟨p,rfl⟩:=hb5.rest;have H5:=aC hs5;clear hb5 hs5;refine⟨_,rfl,.inl ?_,?_⟩
   · (try dsimp only);(repeat' apply And.intro)<;>go_simp
   simp only[Act.put,sA,sZ,sS]
   repeat
    apply aI0 rfl rfl
    focus
     rintro w' ⟨s0,s1,s2,s3,s4,s5,s6,s7,s8⟩;go_simp
     first|done|rfl
    simp only[Act.put,sA,sZ,sS]
   refine aW rfl rfl ?_;apply Exists.intro;refine⟨?_,?_,?_⟩
   focus
    go_simp
    first|done|rfl
   focus
    refine .inl ?_
    (try dsimp only);(repeat' apply And.intro)<;>go_simp
   simp only[Act.put,sA,sZ,sS];refine aW rfl rfl ?_;apply Exists.intro;refine⟨?_,?_,?_⟩
   focus
    go_simp
    first|done|rfl
   focus
    refine .inl ?_
    (try dsimp only);(repeat' apply And.intro)<;>go_simp
   simp only[Act.put,sA,sZ,sS]
   repeat
    apply aI0 rfl rfl
    focus
     rintro w' ⟨s0,s1,s2,s3,s4,s5,s6,s7,s8⟩;go_simp
     first|done|rfl
    simp only[Act.put,sA,sZ,sS]
   refine aU ?_;go_wp2_with fail;have hK:=(aUA (wz:=wc) (q:=w.heap.size+1+1) (r:=w.heap.size+1+1+1) (c0:=.slice b1 b2 b3) (c1:=.slice b4 b5 b6) (c2:=.slice b7 b8 b9) (a0:=.int .i64 k) (a1:=.int .i64 0) (a2:=.int .i64 0) (a3:=.bool false) (a4:=.string ⟨#[]⟩) (a5:=.slice none 0 0)).junk p;have e3:=HZ.out.2.2.1.trans (hK.below HZ.out.2.2.1.size (λi hi e=>by omega));exact xD (v:=.tuple #[.agg #[.slice b1 b2 b3,.slice b4 b5 b6,.slice b7 b8 b9],aR k 0 0,true]) (by unfold results;simp only[results64,aR];go_simp) rfl (DoOut.of (l:=[]) e3 ((H5.out.above _).mono HZ.out.2.2.1.size) (.inl ⟨rfl,rfl⟩))
 | ok p=>
   obtain⟨S',code,rf,rn,rd,rs,rl⟩:=p;have h0:code=0:=HX.out.2.1 S' _ rfl;subst h0;obtain⟨b1,b2,b3,b4,b5,b6,b7,b8,b9,m1,m2,m3,hs,hb,hr,hn⟩:=hx;have h1:=hN;have iB:=hb.lt;have iN:=hN.lt;have iT:=hR.lt;have iR:=hr.lt;have d0:=hb.cell 0;have d1:=hb.cell 1;have d2:=hb.cell 2;have g0:=hr.cell 0;have g1:=hr.cell 1;have g2:=hr.cell 2;have g3:=hr.cell 3;have g4:=hr.cell 4;have g5:=hr.cell 5;have u0:=hN.cell 0;have f4:=hN.frozen 0;have u1:=hN.cell 1;have f5:=hN.frozen 1;have u2:=hN.cell 2;have f6:=hN.frozen 2;have v0:=hR.cell 0;have f7:=hR.frozen 0;have v1:=hR.cell 1;have f8:=hR.frozen 1;have v2:=hR.cell 2;have f9:=hR.frozen 2;have v3:=hR.cell 3;have g6:=hR.frozen 3;have v4:=hR.cell 4;have g7:=hR.frozen 4;have v5:=hR.cell 5;have g8:=hR.frozen 5;simp at d0 d1 d2 g0 g1 g2 g3 g4 g5 u0 u1 u2 v0 v1 v2 v3 v4 v5;have n1:¬b=w.heap.size+1+1:=by omega
   have n2:¬b=w.heap.size+1+1+1:=by omega
   have n3:¬b+1=w.heap.size+1+1:=by omega
   have n4:¬b+1=w.heap.size+1+1+1:=by omega
   have n5:¬w.heap.size+1+1=w.heap.size+1+1+1:=by omega
   have n6:¬w.heap.size+1+1+1=w.heap.size+1+1:=by omega
   have n7:¬w.heap.size+1+1=b:=by omega
   have n8:¬w.heap.size+1+1+1=b:=by omega
   have n9:¬w.heap.size+1+1=b+1:=by omega
   have g9:¬w.heap.size+1+1+1=b+1:=by omega
   have HZ:=jj6 hN hR hbw hs hn hb;clear hS hN h1 hR hbw hr hs hn hb HW;go_upto_region 31 with fail;refine aH [2,3] true (λw'=>w'.cell? b=some (.slice b1 b2 b3)/\w'.cell? ⟨b,1,none⟩=some (.slice b4 b5 b6)/\w'.cell? ⟨b,2,none⟩=some (.slice b7 b8 b9)/\w'.cell? ⟨b+1,0,none⟩=some (.int .i64 0)/\w'.cell? ⟨b+1,1,none⟩=some (.int .i64 rf)/\w'.cell? ⟨b+1,2,none⟩=some (.int .i64 rn)/\w'.cell? ⟨b+1,3,none⟩=some (.bool rd)/\w'.cell? ⟨b+1,4,none⟩=some (.string rs)/\w'.cell? ⟨b+1,5,none⟩=some (.slice m1 m2 m3)) (by kernel_rfl) (by kernel_rfl) ?_ ?_
   · (try dsimp only);(repeat' apply And.intro)<;>go_simp
   repeat
    apply aI0 rfl rfl
    focus
     rintro w' ⟨s0,s1,s2,s3,s4,s5,s6,s7,s8⟩;go_simp
     first|done|rfl
    simp only[Act.put,sA,sZ,sS]
   refine aW rfl rfl ?_;apply Exists.intro;refine⟨?_,?_,?_⟩
   focus
    go_simp
    first|done|rfl
   focus
    refine .inl ?_
    (try dsimp only);(repeat' apply And.intro)<;>go_simp
   simp only[Act.put,sA,sZ,sS];refine aW rfl rfl ?_;apply Exists.intro;refine⟨?_,?_,?_⟩
   focus
    go_simp
    first|done|rfl
   focus
    refine .inl ?_
    (try dsimp only);(repeat' apply And.intro)<;>go_simp
   simp only[Act.put,sA,sZ,sS]
   repeat
    apply aI0 rfl rfl
    focus
     rintro w' ⟨s0,s1,s2,s3,s4,s5,s6,s7,s8⟩;go_simp
     first|done|rfl
    simp only[Act.put,sA,sZ,sS]
   refine aU ?_;go_wp2_with fail;have hK:=aUA (wz:=wc) (q:=w.heap.size+1+1) (r:=w.heap.size+1+1+1) (c0:=.slice b1 b2 b3) (c1:=.slice b4 b5 b6) (c2:=.slice b7 b8 b9) (a0:=.int .i64 0) (a1:=.int .i64 rf) (a2:=.int .i64 rn) (a3:=.bool rd) (a4:=.string rs) (a5:=.slice m1 m2 m3);have e4:=HZ.out.2.2.2.1.keep hK (λg hg=>by
    rcases hg with rfl|rfl
    .exact⟨_,26,HZ.out.1,by decide,by decide,by decide,by decide⟩
    exact⟨_,52,HZ.out.2.1,by decide,by decide,by decide,by decide⟩)
   have h2:=HZ.out.2.2.2.2.1.keep hK (λg hg e=>by have:=HZ.out.2.2.2.2.1.ge hg;rcases e with e|e<;>omega);have e3:=HZ.out.2.2.1.trans (hK.below HZ.out.2.2.1.size (λi hi e=>by omega));exact xD (v:=.tuple #[.agg #[.slice b1 b2 b3,.slice b4 b5 b6,.slice b7 b8 b9],.agg #[.int .i64 0,rf,rn,rd,rs,.slice m1 m2 m3],true]) (by unfold results;simp only[results64];go_simp) rfl (DoOut.of e3 (e4.mono (by omega)) (h2.mono (by omega)))
end
end Go.Proofs.YtmkapobnfigedaaGreatDoor
