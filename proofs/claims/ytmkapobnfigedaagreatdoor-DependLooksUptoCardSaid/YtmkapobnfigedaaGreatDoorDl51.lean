/- Part of the proof of a law of chapter 15. Conditions: none. -/
import Derived.Test.YtmkapobnfigedaaGreatDoorDl47
import Derived.Test.YtmkapobnfigedaaGreatDoorDl36
import Derived.Test.YtmkapobnfigedaaGreatDoorDl50
set_option linter.unusedVariables false
set_option linter.unusedSimpArgs false
set_option maxRecDepth 100000
set_option maxHeartbeats 8000000
namespace Go.Proofs.YtmkapobnfigedaaGreatDoor
open Go.RowKit
section
structure DL (w:World) (iv ov mv:Value) (c:PCall) (kv:Value) (ks:List PKey) (b7:Nat) (rc:Array Value) (wr:World):Prop where
 below:Below w.heap.size w wr
 box:Blk wr w.heap.size #[iv,ov,mv] 26
 call:Blk wr (w.heap.size+1) #[.int .i64 c.kind,.int .i64 c.core,.int .i64 c.fd,.int .i64 c.off,.int .i64 c.num,.string c.path,.string c.path2,.string c.data] 28
 keys:RowAt wr 2 kv (ks.map PKey.cells)
 res:Blk wr b7 rc 52
variable {ks:List PKey}
theorem aNA {k:PKey}:ks.any (λy=>decide (y=k))=true↔k∈ks:=by
 rw[List.any_eq_true];constructor
 .rintro⟨y,hy,e⟩;rw[zI]at e;rw[<-e];exact hy
 exact λh=>⟨k,h,decide_eq_true rfl⟩
theorem DL.later {w:World} {iv ov mv:Value} {c:PCall} {kv:Value} {b7:Nat} {rc:Array Value} {wr w':World} (h:DL w iv ov mv c kv ks b7 rc wr) (hb:Below wr.heap.size wr w'):DL w iv ov mv c kv ks b7 rc w':=
 ⟨h.below.trans (hb.mono h.below.size),h.box.below hb h.box.lt.lt,h.call.below hb h.call.lt.lt,h.keys.below hb (zC _),h.res.below hb h.res.lt.lt⟩
theorem aSC (iv ov mv:Value) (S:PSt) (c:PCall) (w:World) (h:StRead w iv ov mv S) (hwf:S.wf) (hcd:c.data.size<=1000000000000000000):
 vR w 8 #[.agg #[iv,ov,mv],c.val] (.bool true):=by
 have a9:=λww=>aPE ww;have a3:=fun(ww:World) (hb:Below w.heap.size w ww)=>aMY iv ov mv S c ww (h.below hb (zC _)) hwf hcd;have a4:vB w 30 #[.agg #[iv,ov,mv]] (.bool (dB S)):=λww hb=>by have:=aSD S iv ov mv ww (h.below hb (zC _)) hwf;rw[aSE hwf]at this;exact this
 have b0:=fun(ww:World) (hb:Below w.heap.size w ww)=>aUE hwf c iv ov mv ww (h.below hb (zC _)) (λw3 hb3=>a4 w3 (hb.trans (hb3.mono hb.size)));have P1:=aJF (S:=S) (c:=c);have P2:=aEP (S:=S) (c:=c);have P3:=aCA (S:=S) (c:=c);have P4:=aJG (S:=S) (c:=c);have o1:=h.1.one;have o2:=h.2.1.one;have o3:iv.oneCell'=true:=by obtain⟨_,_,_,h3,_⟩:=h;exact h3.one
 clear h;unfold PCall.val at a3 |-;generalize kX S c=ks at *;generalize mK S c=Y at *;obtain⟨S',r⟩:=Y;simp only at P1 P4 b0;generalize hM:dB S=M at *;have HP:=kL P1 P2 P3 P4;clear P1 P2 P3 P4 hM;go_enter Tryz.func8,Tryz.ntmps8;go_upto_region 4 with(first|(go_at_call 20;refine aE (a9 _) λp1=>?_)|(go_at_call 12;refine(a3 _ (bel _ _)).mono ?_;rintro e w3 ⟨hb3,kv,rfl,hk⟩;have b1:=hk.row;obtain⟨ak,ck,rfl,hka⟩:=b1.at_;clear hk hka;obtain⟨p3,rfl⟩:=hb3.rest;clear hb3))
 have HK:=aG b1;clear b1;go_upto_region 5 with(go_at_call 31;refine(b0 _ (bel _ _)).mono ?_;rintro e w5 ⟨hb5,iv5,ov5,mv5,nv5,rfl,hs5,hn5⟩;obtain⟨a11,a12,a13,a14,a15,a16,a17,a18,a19,rfl,rfl,rfl⟩:=hs5.forms;obtain⟨an,nn,cn,rfl⟩:=hn5.form;clear hs5 hn5;obtain⟨p5,rfl⟩:=hb5.rest;clear hb5)
 have b2:RowAt ((w.alloc (.cells #[iv,ov,mv] 26)).alloc (.cells #[.int .i64 c.kind,.int .i64 c.core,.int .i64 c.fd,.int .i64 c.off,.int .i64 c.num,.string c.path,.string c.path2,.string c.data] 28) |>.junk (p1.more p3)) 2 (.slice ak ks.length ck) (ks.map PKey.cells):=by have h:=HK.out;rw[World.junk_junk,lM]at h;exact h
 have b3:=aG b2;clear HK b2 a3 b0;refine aI (F:=λW=>DL w iv ov mv c (.slice ak ks.length ck) ks (w.heap.size+1+1+((p1.more p3).more p5).len+1) #[.int .i64 r.code,.int .i64 r.fd,.int .i64 r.num,.bool r.dir,.string r.data,.slice an nn cn] W) ?_ ?_
 .refine⟨bel w _,((((Blk.new w #[iv,ov,mv] 26).alloc _).junk _).alloc _).alloc _,(((Blk.new_i (w.alloc (.cells #[iv,ov,mv] 26)) _ 28 _).junk _).alloc _).alloc _,?_,Blk.new_i _ _ 52 _⟩;rw[<-World.junk_junk];exact b3.out.below (bel _ _) (zC _)
 intro wA hA;generalize w.heap.size+1+1+((p1.more p3).more p5).len+1=b7 at *;generalize w.heap.size+1+1+((p1.more p3).more p5).len=b6 at *;have k0:wA.cell? ⟨w.heap.size,0,none⟩=some iv:=hA.box.cell 0;have k1:wA.cell? ⟨w.heap.size,1,none⟩=some ov:=hA.box.cell 1;have k2:wA.cell? ⟨w.heap.size,2,none⟩=some mv:=hA.box.cell 2;have c0:wA.cell? ⟨w.heap.size+1,0,none⟩=some (.int .i64 c.kind):=hA.call.cell 0;have c1:wA.cell? ⟨w.heap.size+1,1,none⟩=some (.int .i64 c.core):=hA.call.cell 1;have c7:wA.cell? ⟨w.heap.size+1,7,none⟩=some (.string c.data):=hA.call.cell 7;have q0:wA.cell? ⟨b7,0,none⟩=some (.int .i64 r.code):=hA.res.cell 0;have ik:=hA.box.lt;have ic:=hA.call.lt;have iq:=hA.res.lt;have iB:Bel w wA:=⟨hA.below⟩;have a0:=hA.below.size;have HA:=aG hA;clear hA b3;have a8:ks=[]->(.slice ak ks.length ck:Value)=.slice ak 0 ck:=λe=>by rw[e];rfl
 by_cases hc:r.code=0;rotate_left
 .have c9:(r.code !=0)=true:=by simpa using hc
  have he:=HP.out.1 hc;subst he;clear hc a8;have h8:c.kind=4\/c.kind=7\/c.kind=12\/c.kind=13\/c.kind=14\/c.kind=15\/c.kind=16\/((c.kind==4)=false/\(c.kind==7)=false/\(c.kind==12)=false/\(c.kind==13)=false/\(c.kind==14)=false/\(c.kind==15)=false/\(c.kind==16)=false):=by simp only[yF,ne_eq];omega
  rcases h8 with h|h|h|h|h|h|h|⟨n4,n7,b4,b5,b8,b9,c2⟩
  .go_wp2_with fail;go_ret;exact⟨rfl,HA.out.below.trans ((bel wA _).mono a0)⟩
  .go_wp2_with fail;go_ret;exact⟨rfl,HA.out.below.trans ((bel wA _).mono a0)⟩
  .go_wp2_with fail;go_ret;exact⟨rfl,HA.out.below.trans ((bel wA _).mono a0)⟩
  .go_wp2_with fail;go_ret;exact⟨rfl,HA.out.below.trans ((bel wA _).mono a0)⟩
  .go_wp2_with fail;go_ret;exact⟨rfl,HA.out.below.trans ((bel wA _).mono a0)⟩
  .go_wp2_with fail;go_ret;exact⟨rfl,HA.out.below.trans ((bel wA _).mono a0)⟩
  .go_wp2_with fail;go_ret;exact⟨rfl,HA.out.below.trans ((bel wA _).mono a0)⟩
  go_wp2_with fail;go_ret;exact⟨rfl,HA.out.below.trans ((bel wA _).mono a0)⟩
 have h8:(c.kind=4\/c.kind=7\/c.kind=12\/c.kind=13\/c.kind=14\/c.kind=15\/c.kind=16)\/¬(c.kind=4\/c.kind=7\/c.kind=12\/c.kind=13\/c.kind=14\/c.kind=15\/c.kind=16):=by omega
 rcases h8 with hl|hl
 .have he:=HP.out.2.1 hl;subst he;clear a8;rcases hl with h|h|h|h|h|h|h
  .go_wp2_with fail;go_ret;exact⟨rfl,HA.out.below.trans ((bel wA _).mono a0)⟩
  .go_wp2_with fail;go_ret;exact⟨rfl,HA.out.below.trans ((bel wA _).mono a0)⟩
  .go_wp2_with fail;go_ret;exact⟨rfl,HA.out.below.trans ((bel wA _).mono a0)⟩
  .go_wp2_with fail;go_ret;exact⟨rfl,HA.out.below.trans ((bel wA _).mono a0)⟩
  .go_wp2_with fail;go_ret;exact⟨rfl,HA.out.below.trans ((bel wA _).mono a0)⟩
  .go_wp2_with fail;go_ret;exact⟨rfl,HA.out.below.trans ((bel wA _).mono a0)⟩
  go_wp2_with fail;go_ret;exact⟨rfl,HA.out.below.trans ((bel wA _).mono a0)⟩
 have n4:(c.kind==4)=false:=by simp only[yF,ne_eq];omega
 have n7:(c.kind==7)=false:=by simp only[yF,ne_eq];omega
 have b4:(c.kind==12)=false:=by simp only[yF,ne_eq];omega
 have b5:(c.kind==13)=false:=by simp only[yF,ne_eq];omega
 have b8:(c.kind==14)=false:=by simp only[yF,ne_eq];omega
 have b9:(c.kind==15)=false:=by simp only[yF,ne_eq];omega
 have c2:(c.kind==16)=false:=by simp only[yF,ne_eq];omega
 by_cases h5:c.kind=5/\c.data.size=0
 .have he:=HP.out.2.2.1 h5.1 h5.2;subst he;have gk:c.kind=5:=h5.1;have gd:c.data.toList.isEmpty=true:=by
   rw[zW,List.isEmpty_iff];exact zT h5.2
  clear a8 hl h5 n4 n7 b4 b5 b8 b9 c2;go_wp2_with fail;go_ret;exact⟨rfl,HA.out.below.trans ((bel wA _).mono a0)⟩
 obtain⟨hM,hc0,hc1,hown⟩:=HP.out.2.2.2 hc hl h5;rw[hM]at a4;have a5:(c.kind==5)=false\/((c.kind==5)=true/\c.data.toList.isEmpty=false):=by
  by_cases h:c.kind=5
  .right;refine⟨by simpa using h,?_⟩;rw[zW,Bool.eq_false_iff];intro hh;rw[List.isEmpty_iff]at hh;exact h5 ⟨h,by show c.data.data.toList.length=0;rw[hh];rfl⟩
  left;simpa using h
 have HW:=bB hown hl;clear a8 hl h5 hown hM;obtain⟨ow,how⟩:∃ow:PKey,ow=⟨-1-c.core,⟨#[]⟩⟩:=⟨_,rfl⟩;have d0:IntKind.i64.wrap (-1-c.core)=-1-c.core:=I64.wrap (by unfold I64;omega);have d1:ks.length<=9223372036854775807:=by obtain⟨_,_,_,h,_⟩:=HA.out.keys;rw[lM]at h;exact h
 have c3:∀(x:PKey) ww,(binOp .eql 61 (.agg #[.int .i64 x.num,.string x.name]) (.agg #[.int .i64 (-1-c.core),.string ⟨#[]⟩])).run Tryz.prog ww=.ok (.bool (decide (x=ow))) ww:=λx ww=>by have:=aGM x ow ww;rw[how]at this |-;exact this
 have HE:=aG c3;have a2:ow∈ks:=by rw[how];exact HW.out.1
 have HO:=aG a2;clear c3 how a2;obtain⟨ak',ck',e1,hat⟩:=HA.out.keys.at_;rw[lM]at e1;cases e1;have HT:=aG hat;clear hat;have c4:∀q (x:PKey),ks[q]? =some x->(ks.take (q+1)).any (λk=>decide (k=ow))=((ks.take q).any (λk=>decide (k=ow))||decide (x=ow)):=λq x hx=>by rw[List.take_add_one,hx,List.any_append];simp
 have c6:=aG c4;clear c4;have a6:=fun(ww:World) (hb:Below wA.heap.size wA ww)=>qC ks ks _ _ ww (HA.out.keys.below hb (zC _)) (HA.out.keys.below hb (zC _));have c5:fX ks ks=true:=aJH HW.out.1;rw[c5]at a6;have HC:=aG a6;clear a6 c5;rcases a5 with g5|⟨g5,gd⟩
 iterate 2
  .go_upto_region 8 with(go_at_call 30;refine aE (a4 _ (bel _ _)) λp=>?_)
   go_wp2_with fail
   go_loopw[9,10] (λvo vi wr=>∃q:Nat,vi=.int .i64 q/\vo=.bool ((ks.take q).any (λk=>decide (k=ow)))/\q<=ks.length/\Below wA.heap.size wA wr) (λ_ vi _=>(ks.length-intOf vi).toNat)
   case atStart=>exact⟨0,rfl,rfl,by omega,bel wA _⟩
   obtain⟨q,rfl,rfl,hq,hbr⟩:=hrel;have iR:Bel wA wr:=⟨hbr⟩;have d2:Bel w wr:=⟨HA.out.below.trans (hbr.mono a0)⟩;have d3:wr.cell? ⟨w.heap.size+1,1,none⟩=some (.int .i64 c.core):=(HA.out.later hbr).call.cell 1;have d4:=(HA.out.later hbr).call.lt;by_cases hlt:q<ks.length
   .obtain⟨x,hx⟩:∃x,ks[q]? =some x:=⟨_,gE hlt⟩
    obtain⟨be,offe,rfl,iE0,iE,hce⟩:=HT.out wr hbr q x.cells (by rw[gM,hx];rfl);have e0:=hce 0 _ rfl;have e1:=hce 1 _ rfl;rw[zN]at e0;have hs:=c6.out q x hx;have n1:=HE.out x;have g1:(q:Int)<ks.length:=by omega
    generalize decide (x=ow)=d at *;have HS:=aG hs;clear hs hce hx;rcases a1:(ks.take q).any (λk=>decide (k=ow))with _|_
    .rw[a1]at HS;go_wp2_with fail;refine qR ?_
     repeat(go_big_quiet_step (fail))
     refine QN λp=>?_;go_wp2_with fail;go_roundw
     case rel=>exact⟨q+1,by go_num,by first|(rw [HS.out];rfl)|(rw [HS.out];simp),by omega,bel wA _⟩
     simp[intOf];omega
    rw[a1]at HS;clear n1;go_wp2_with fail;refine qR ?_
    repeat(go_big_quiet_step (fail))
    refine QN λp=>?_;go_wp2_with fail;go_roundw
    case rel=>exact⟨q+1,by go_num,by first|(rw [HS.out];rfl)|(rw [HS.out];simp),by omega,bel wA _⟩
    simp[intOf];omega
   have c8:q=ks.length:=by omega
   have a1:(ks.take q).any (λk=>decide (k=ow))=true:=by rw[c8,List.take_length];exact aNA.2 HO.out
   rw[a1];have a7:=HC.out;go_wp2_with(go_at_call 17;refine aE (a7 _ (bel _ _)) λp=>?_);go_ret;exact⟨rfl,(HA.out.below.trans (hbr.mono a0)).trans ((bel wr _).mono (zD a0 hbr.size))⟩
end
end Go.Proofs.YtmkapobnfigedaaGreatDoor
