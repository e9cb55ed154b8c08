/- A part of a proof of a law. Conditions: none. -/
import Derived.Test.YtmkapobnfigedaaGreatDoorDp13
import Derived.Test.YtmkapobnfigedaaGreatDoorDp11
set_option linter.unusedVariables false
set_option linter.unusedSimpArgs false
set_option maxRecDepth 100000
set_option maxHeartbeats 40000000
namespace Go.Proofs.YtmkapobnfigedaaGreatDoor
open Go.Proofs.Tryz List Go.RowKit
def aZ (s:ByteArray):Nat->Nat->Nat->List ByteArray->Int × List ByteArray
 |0,_,_,acc=>(0,acc)
 | n+1,fr,i,acc=>if h:i<s.size then
  (if(s[i]'h).toNat=47 then
   (if bK (s.extract fr i)=801 then(1101,[])else if bK (s.extract fr i)=800 then(1100,[])else aZ s n (i+1) (i+1) (acc++[s.extract fr i]))
  else aZ s n fr (i+1) acc)
   else(if bK (s.extract fr i)=801 then(1101,[])else if bK (s.extract fr i)=800 then(1100,[])else aZ s n (i+1) (i+1) (acc++[s.extract fr i]))
def bU (s:ByteArray):Int × List ByteArray:=
 if 64<s.size then(1101,[])else
 if h:0<s.size then
  (if(s[0]'h).toNat=47 then(if s.size=1 then(0,[])else
   (if (aZ s s.size 1 1 []).1≠0 then((aZ s s.size 1 1 []).1,[])else if 4<(aZ s s.size 1 1 []).2.length then(1102,[])else(0,(aZ s s.size 1 1 []).2)))
  else(1100,[]))
 else(1100,[])
def ParsedR (w:World) (F:Int × List ByteArray) (e:Ending) (w':World):Prop:=∃v,e=.returned (.tuple #[v,F.1])/\Bl w w'/\OwnP w.heap.size w' 9 1 v (F.2.map λn=>[.string n])
theorem ParsedR.nil {w w':World} {c:Int} (hb:Bl w w'):ParsedR w (c,[]) (.returned (.tuple #[.slice none 0 0,c])) w':=⟨_,rfl,hb,.inl ⟨rfl,rfl⟩⟩
theorem aAG {s:ByteArray} (h1:0<s.size) (h47:(s[0]'h1).toNat=47):(s.toList==[47])=decide (s.size=1):=by
 rw[zW];rcases s with⟨⟨l⟩⟩
 rcases l with _|⟨a,l⟩
 .exact absurd h1 (by decide)
 have ha:a=47:=by rw[<-UInt8.toNat_inj];exact h47
 subst ha;rcases l with _|⟨b,l⟩
 .rfl
 show((47::b::l)==[47])=decide ((47::b::l).length=1);simp
theorem uE (s:ByteArray) (w:World):Calls prog 82 #[s] w (ParsedR w (bU s)):=by
 unfold bU;by_cases h64:64<s.size
 .rw[zB h64];have b3:(64:Int)<s.size:=by omega
  go_in;go_wp2
  go_ret2;exact(ParsedR.nil (bel _ _))
 rw[zA h64];have b3:¬(64:Int)<s.size:=by omega
 by_cases h0:0<s.size;rotate_left
 .rw[dif_neg h0];have b4:s.toList.isEmpty=true:=by
   rw[zW];rcases s with⟨⟨l⟩⟩
   rcases l with _|⟨a,l⟩
   .rfl
   exact absurd (show 0<(a::l).length by simp) h0
  go_in;go_wp2
  go_ret2;exact(ParsedR.nil (bel _ _))
 rw[dif_pos h0];have b4:s.toList.isEmpty=false:=by
  rw[zW];rcases s with⟨⟨l⟩⟩
  rcases l with _|⟨a,l⟩
  .exact absurd h0 (by decide)
  rfl
 by_cases h47:(s[0]'h0).toNat=47;rotate_left
 .rw[zA h47];have hI:¬(((s[0]'h0).toNat:Int)=47):=by omega
  go_in;go_wp2
  go_ret2;exact(ParsedR.nil (bel _ _))
 rw[zB h47];have h1:=aAG h0 h47;by_cases hs1:s.size=1
 .rw[zB hs1];rw[decide_eq_true hs1]at h1
  go_in;go_wp2
  go_ret2;exact(ParsedR.nil (bel _ _))
 rw[zA hs1];rw[yM hs1]at h1;obtain⟨G,hG⟩:=gAB (aZ s s.size 1 1 []);rw[hG];obtain⟨V,hV⟩:∃V:Int × List ByteArray,(if G.1≠0 then(G.1,[])else if 4<G.2.length then(1102,[])else(0,G.2))=V:=⟨_,rfl⟩;rw[hV];have HV:=aC hV;have HG:=aC hG;clear hG hV;go_in;go_wp2
 go_loopw[4,5,6] (λv4 v5 v6 wr=>∃(fr i:Nat) (acc:List ByteArray),v5=.int .i64 fr/\v6=.int .i64 i/\1<=fr/\fr<=i/\i<=s.size+1/\acc.length<=i/\aZ s (s.size+1-i) fr i acc=G/\Bl w wr/\OwnP w.heap.size wr 9 1 v4 (acc.map λn=>[Value.string n])) (λ_ _ i _=>(s.size+1-intOf i).toNat)
 case atStart=>exact⟨1,1,[],rfl,rfl,by omega,by omega,by omega,by simp,by rw[Nat.add_sub_cancel];exact HG.out,bel _ _,.inl ⟨rfl,rfl⟩⟩
 obtain⟨fr,i,acc,rfl,rfl,hfr,hfi,his,hal,hgo,hb,hO⟩:=hrel;have iB:Bel w wr:=⟨hb⟩;have c0:IntKind.i64.wrap ((i:Int)+1)=(i:Int)+1:=I64.wrap ⟨by omega,by omega⟩;have c1:=hO.one;by_cases hle:i<=s.size
 .have a7:(i:Int)<=s.size:=by omega
  obtain⟨n,hn⟩:∃n,s.size+1-i=n+1:=⟨s.size-i,by omega⟩;have a8:s.size+1-(i+1)=n:=by omega
  rw[hn]at hgo;unfold aZ at hgo;have a2:=λww=>aMS (s.extract fr i) ww;have b5:(fr:Int)<=i:=by omega
  have b6:(0:Int)<=fr:=by omega
  by_cases hlt:i<s.size
  .have a9:(i:Int)<s.size:=by omega
   rw[dif_pos hlt]at hgo;by_cases hc:(s[i]'hlt).toNat=47
   .rw[zB hc]at hgo;have b7:((s[i]'hlt).toNat:Int)=47:=by omega
    have HO:=aC hO;clear hO;generalize hck:bK (s.extract fr i)=ck at a2 hgo;by_cases e1:ck=801
    .subst e1;rw[zB rfl]at hgo;have a0:=HV.out;rw[<-hgo]at a0;have a1:(1101,[])=V:=by simpa using a0
     subst a1;clear a0 hgo hck;go_wp2_with(first|(go_at_call 90;refine aE (a2 _) λp=>?_))
     go_ret2;exact(ParsedR.nil (bel _ _))
    rw[zA e1]at hgo;by_cases e2:ck=800
    .subst e2;rw[zB rfl]at hgo;have a0:=HV.out;rw[<-hgo]at a0;have a1:(1100,[])=V:=by simpa using a0
     subst a1;clear a0 hgo hck;go_wp2_with(first|(go_at_call 90;refine aE (a2 _) λp=>?_))
     go_ret2;exact(ParsedR.nil (bel _ _))
    rw[zA e2]at hgo;have b1:(ck==801)=false:=by simpa using e1
    have b2:(ck==800)=false:=by simpa using e2
    have b0:=aC hgo;clear hgo hck;go_wp2_with(first|(go_at_call 90;refine aE (a2 _) λp=>?_)|(at_builtin;refine aYY rfl (.tmp 44) (.tmp 49) rfl w.heap.size _ _ acc [s.extract fr i] rfl (by go_simp) (HO.out.below (bel wr _)) (RowAt.single (Blk.new_i _ _ _ _) 1 1) (by simp;omega) (bel w _).size ?_));intro v' w' hg;have a3:=hg.on (HO.out.below (bel wr _)) (bel w _).size;have H2:=bJ hg.1 ((bel w _).trans a3);have a5:=hg.1.one;clear hg a3;go_wp2;go_roundw
    case rel=>exact⟨i+1,i+1,acc++[s.extract fr i],by go_num,by go_num,by omega,by omega,by omega,by simp;omega,by rw[a8];exact b0.out,H2.out.2.trans ((bel w' _).mono H2.out.2.size),by rw[yS];exact H2.out.1⟩
    simp[intOf];omega
   rw[zA hc]at hgo;have b7:¬((s[i]'hlt).toNat:Int)=47:=by omega
   have HO:=bJ hO hgo;clear hO hgo;go_wp2;go_roundw
   case rel=>exact⟨fr,i+1,acc,rfl,by go_num,by omega,by omega,by omega,by omega,by rw[a8];exact HO.out.2,bel _ _,HO.out.1.below (bel wr _)⟩
   simp[intOf];omega
  have a9:¬(i:Int)<s.size:=by omega
  rw[dif_neg hlt]at hgo;have HO:=aC hO;clear hO;generalize hck:bK (s.extract fr i)=ck at a2 hgo;by_cases e1:ck=801
  .subst e1;rw[zB rfl]at hgo;have a0:=HV.out;rw[<-hgo]at a0;have a1:(1101,[])=V:=by simpa using a0
   subst a1;clear a0 hgo hck;go_wp2_with(first|(go_at_call 90;refine aE (a2 _) λp=>?_))
   go_ret2;exact(ParsedR.nil (bel _ _))
  rw[zA e1]at hgo;by_cases e2:ck=800
  .subst e2;rw[zB rfl]at hgo;have a0:=HV.out;rw[<-hgo]at a0;have a1:(1100,[])=V:=by simpa using a0
   subst a1;clear a0 hgo hck;go_wp2_with(first|(go_at_call 90;refine aE (a2 _) λp=>?_))
   go_ret2;exact(ParsedR.nil (bel _ _))
  rw[zA e2]at hgo;have b1:(ck==801)=false:=by simpa using e1
  have b2:(ck==800)=false:=by simpa using e2
  have b0:=aC hgo;clear hgo hck;go_wp2_with(first|(go_at_call 90;refine aE (a2 _) λp=>?_)|(at_builtin;refine aYY rfl (.tmp 44) (.tmp 49) rfl w.heap.size _ _ acc [s.extract fr i] rfl (by go_simp) (HO.out.below (bel wr _)) (RowAt.single (Blk.new_i _ _ _ _) 1 1) (by simp;omega) (bel w _).size ?_));intro v' w' hg;have a3:=hg.on (HO.out.below (bel wr _)) (bel w _).size;have H2:=bJ hg.1 ((bel w _).trans a3);have a5:=hg.1.one;clear hg a3;go_wp2;go_roundw
  case rel=>exact⟨i+1,i+1,acc++[s.extract fr i],by go_num,by go_num,by omega,by omega,by omega,by simp;omega,by rw[a8];exact b0.out,H2.out.2.trans ((bel w' _).mono H2.out.2.size),by rw[yS];exact H2.out.1⟩
  simp[intOf];omega
 have a7:¬(i:Int)<=s.size:=by omega
 have b8:i=s.size+1:=by omega
 have a6:(0,acc)=G:=by rw[<-hgo,b8,Nat.sub_self];rfl
 have a0:=HV.out;rw[<-a6]at a0;simp only[ne_eq,not_true,if_false]at a0;have a1:(if 4<acc.length then(1102,[])else(0,acc))=V:=a0;have HO:=aC hO;obtain⟨a4,c4,rfl⟩:=hO.formL;rw[lM]at *;clear hO hgo a6 a0;by_cases h4:4<acc.length
 .rw[zB h4]at a1;subst a1;have b9:(4:Int)<acc.length:=by omega
  go_wp2
  go_ret2;exact(ParsedR.nil (bel _ _))
 rw[zA h4]at a1;subst a1;have b9:¬(4:Int)<acc.length:=by omega
 go_wp2
 go_ret2;exact⟨_,rfl,bel _ _,HO.out.below (bel wr _)⟩
section
structure FineR (S:PSt):Prop where
 wf:S.wf
 root:0<=bP S 1
 found:∀x∈S.ins,∀e∈x.ents,0<=bP S e.num
theorem aHT (n:ByteArray):∀es:List PEnt,rO n es=0\/∃e∈es,rO n es=e.num
 |[]=>.inl rfl
 | e ::es=>by
   unfold rO;split
   .exact .inr ⟨e,zQ,rfl⟩
   rcases aHT n es with h|⟨e',h1,h2⟩
   .exact .inl h
   exact .inr ⟨e',zL _ h1,h2⟩
variable {S:PSt} {n:ByteArray}
theorem FineR.next (h:FineR S) {at_:Int} (hn:aX S at_ n≠0):0<=bP S (aX S at_ n):=by
 unfold aX at hn |-;split at hn
 .exact absurd rfl hn
 rename_i h0;rw[zA h0];split at hn
 .rename_i x hx
  rcases aHT n x.ents with e|⟨e,he,hq⟩
  .exact absurd e hn
  rw[hq];exact h.found x (mG hx) e he
 exact absurd rfl hn
def aQ (S:PSt):List ByteArray->Int->List Int->Int × Int × List Int
 |[],at_,th=>(at_,0,th)
 | n::r,at_,th=>match S.ins[(bP S at_).toNat]? with
   |none=>(0,7,th)
   |some x=>if x.dir=true then(if aX S at_ n=0 then(0,1,th++[at_])else aQ S r (aX S at_ n) (th++[at_]))else(0,7,th)
theorem aAM (S:PSt) (iv ov mv v:Value) (ns:List ByteArray) (w:World) (h:StRead w iv ov mv S) (hf:FineR S) (hv:RowAt w 1 v (ns.map λn=>[.string n])) (hl:ns.length<=1000000000):
 Calls prog 83 #[.agg #[iv,ov,mv],v] w λe w'=>∃tv,e=.returned (.tuple #[.int .i64 (aQ S ns 1 []).1,.int .i64 (aQ S ns 1 []).2.1,tv])/\Bl w w'/\OwnP w.heap.size w' 3 1 tv ((aQ S ns 1 []).2.2.map aJ):=by
 have a1:∀(n:Int) ww,Bl w ww->Calls prog 85 #[.agg #[iv,ov,mv],.int .i64 n] ww _:=λn ww hb=>aBK S iv ov mv n ww (h.below hb (zC _)) hf.wf.1;have a0:∀(n:Int) (nm:ByteArray) ww,Bl w ww->Calls prog 118 #[.agg #[iv,ov,mv],.int .i64 n,.string nm] ww _:=λn nm ww hb=>iV S iv ov mv n nm ww (h.below hb (zC _)) hf.wf;obtain⟨ai,ni,ci,ao,no,co,am,nm',cm,rfl,rfl,rfl⟩:=h.slices;obtain⟨a,cap',e1,hai⟩:=h.ins_at2;cases e1;obtain⟨aN,cN,rfl,hatN⟩:=hv.at_;rw[lM];generalize hR:aQ S ns 1 []=R;have HF:=aC hf;have HI:=aC hai;have HN:=aC hatN;have HR:=aC hR;have a3:=aC a1;have a4:=aC a0;clear h hai hatN hR hf hv a1 a0;go_in;go_wp2
 go_loopw[7,8,9] (λv7 v8 v9 wr=>∃(q:Nat) (at_:Int) (th:List Int),v7=.int .i64 at_/\v9=.int .i64 q/\q<=ns.length/\th.length=q/\0<=bP S at_/\aQ S (ns.drop q) at_ th=R/\Bl w wr/\Blk wr w.heap.size #[.slice ai S.ins.length ci,.slice ao no co,.slice am nm' cm] 26/\OwnP (w.heap.size+1) wr 3 1 v8 (th.map aJ)) (λ_ _ i _=>(ns.length-intOf i).toNat)
 case atStart=>exact⟨0,1,[],rfl,rfl,by omega,rfl,HF.out.root,HR.out,bel _ _,Blk.new w _ 26,.inl ⟨rfl,rfl⟩⟩
 obtain⟨q,at_,th,rfl,rfl,hq,hth,hat,hrel',hb,hbk,hO⟩:=hrel;have iB:Bel w wr:=⟨hb⟩;have b7:=hO.one;by_cases hlt:q<ns.length
 .have a5:(q:Int)<ns.length:=by omega
  obtain⟨nm,hnm⟩:=gAA hlt;rw[cQ hnm]at hrel';obtain⟨k,hk⟩:∃k:Nat,bP S at_=k:=⟨(bP S at_).toNat,by omega⟩;have b2:k<S.ins.length:=by
   rcases fE S at_ with h|h<;>omega
  have b3:(k:Int)<S.ins.length:=by omega
  obtain⟨x,hx⟩:=gAA b2;unfold aQ at hrel';rw[hk,zJ,hx]at hrel';simp only at hrel';have a1:vB w 85 #[.agg #[.slice ai S.ins.length ci,.slice ao no co,.slice am nm' cm],.int .i64 at_] (.int .i64 k):=λww hb=>by have:=a3.out at_ ww hb;rw[hk]at this;exact this
  have a0:=λww hb=>a4.out at_ nm ww hb;obtain⟨bi,oi,ev,rfl,iI0,hoi,her,hci⟩:=HI.out k x hx;obtain⟨iI,x0,x1,x2,x3⟩:=hci wr hb;obtain⟨bN,oN,rfl,-,iN,hcN⟩:=HN.out wr hb q [.string nm] (by rw[gM,hnm];rfl);have c0:=hcN 0 _ rfl;rw[zN,Nat.mul_one]at c0;obtain⟨iL,s0,s1,s2⟩:=gR hbk;have HB:=bJ hbk hO;clear hbk hO hci hcN her x0 x2 x3;rcases hd:x.dir with _|_
  .rw[hd]at x1 hrel';simp only[zP,if_false]at hrel';subst hrel';clear hx hd;go_wp2_with(first|(go_at_call 85;refine aE (a1 _ (bel _ _)) λp=>?_))
   go_ret3;exact⟨_,rfl,bel _ _,(HB.out.2.below (bel wr _)).mono (Nat.le_succ _)⟩
  rw[hd]at x1 hrel';simp only[if_true]at hrel';have a6:=aC hrel';have a9:=aC (λh=>HF.out.next (at_:=at_) (n:=nm) h);clear hx hd hrel';generalize aX S at_ nm=num at a0 a6 a9;go_wp2_with(first|(go_at_call 85;refine aE (a1 _ (bel _ _)) λp=>?_)|(at_builtin;refine aWQ rfl (.tmp 28) (.tmp 30) rfl (w.heap.size+1) _ _ th [at_] rfl (by go_simp) (HB.out.2.below (bel wr _)) (RowAt.single (Blk.new_i _ _ _ _) 1 1) (by simp;omega) (zD HB.out.1.lt.lt (bel wr _).size) ?_));intro v' w' hg;have b4:w.heap.size+1<=wr.heap.size:=HB.out.1.lt.lt;have b0:=hg.on (HB.out.2.below (bel wr _)) (zD b4 (bel wr _).size);have a7:Bl w w':=(bel w _).trans (b0.mono (Nat.le_succ _));have a8:Blk w' w.heap.size #[.slice (some ⟨bi,oi,none⟩) S.ins.length ci,.slice ao no co,.slice am nm' cm] 26:=hg.2.1.blk (by first|exact HB.out.1.alloc _|exact(HB.out.1.junk _).alloc _) (λh=>by have:=HB.out.2.ge h;omega);have i2:Bel w w':=⟨a7⟩;obtain⟨iL2,t0,t1,t2⟩:=gR a8;have b1:=hg.1.one;obtain⟨bN',oN',hfN,-,iN2,hcN2⟩:=HN.out w' a7 q [.string nm] (by rw[gM,hnm];rfl);cases hfN;have c2:=hcN2 0 _ rfl;rw[zN,Nat.mul_one]at c2;have a2:=hg.1;have a2:OwnP (w.heap.size+1) w' 3 1 v' ((th++[at_]).map aJ):=by rw[yS];exact a2
  have H2:=bJ a8 a2;clear hg b0 a7 a8 s0 s1 s2 x1 c0 iI iN iL hcN2 a2;go_upto_region 10 with fail;refine qR ?_
  repeat(go_big_quiet_step ((with_reducible first|refine cI (a0 _ (bel _ _))|refine cJ (a0 _ (bel _ _)))))
  refine QN λp=>?_;by_cases hn0:num=0
  .have hr:=a6.out;rw[zB hn0]at hr;subst hr;have b5:(num==0)=true:=by simpa using hn0
   go_wp2
   go_ret3;exact⟨_,rfl,bel _ _,by have:=(H2.out.2.below (bel w' (w'.junk p))).mono (Nat.le_succ _);rw[yS]at this;exact this⟩
  have hr:=a6.out;rw[zA hn0]at hr;have b5:(num==0)=false:=by simpa using hn0
  have b6:=aC hr;clear hr;go_wp2;go_roundw
  case rel=>exact⟨q+1,num,th++[at_],rfl,by go_num,by omega,by simp;omega,a9.out hn0,b6.out,bel _ _,H2.out.1.below (bel w' _) (by first|exact iL2.lt|omega),H2.out.2.below (bel w' _)⟩
  simp[intOf];omega
 have a5:¬(q:Int)<ns.length:=by omega
 rw[zS (by omega)]at hrel';have hr:(at_,0,th)=R:=hrel';subst hr;have HO:=aC hO;clear hO hrel' hbk;go_wp2
 go_ret3;exact⟨_,rfl,bel _ _,(HO.out.below (bel wr _)).mono (Nat.le_succ _)⟩
theorem aHU (c:Int) (w:World):vR w 84 #[.int .i64 c] (.int .i64 (qV c)):=aWX c w
def eY (S:PSt) (p:ByteArray):Int × Int:=if(bU p).1≠0 then(0,qV (bU p).1)else((aQ S (bU p).2 1 []).1,(aQ S (bU p).2 1 []).2.1)
theorem lI (s:ByteArray):(bU s).2.length<=4:=by
 unfold bU;split
 .simp
 split
 .split
  .split
   .simp
   split
   .simp
   split
   .simp
   rename_i h;show(aZ s s.size 1 1 []).2.length<=4;omega
  simp
 simp
theorem aWZ (S:PSt) (iv ov mv:Value) (p:ByteArray) (w:World) (h:StRead w iv ov mv S) (hf:FineR S):
 vR w 46 #[.agg #[iv,ov,mv],.string p] (.tuple #[.int .i64 (eY S p).1,.int .i64 (eY S p).2]):=by
 have a1:∀ww,Calls prog 82 #[p] ww _:=λww=>uE p ww;have a2:=lI p;have a0:∀v ww,Bl w ww->RowAt ww 1 v ((bU p).2.map λn=>[.string n])->Calls prog 83 #[.agg #[iv,ov,mv],v] ww _:=λv ww hb hv=>aAM S iv ov mv v (bU p).2 ww (h.below hb (zC _)) hf hv (by omega);obtain⟨ai,ni,ci,ao,no,co,am,nm',cm,rfl,rfl,rfl⟩:=h.slices;unfold eY;generalize bU p=F at a1 a0 a2 |-;obtain⟨c,ns⟩:=F;simp only at a1 a0 a2 |-;clear h;by_cases hc:c=0
 .subst hc;rw[zA (by simp)];simp only;generalize aQ S ns 1 []=W at a0 |-;have H3:=aC a0;clear a0
  unfold vR;go_in;go_wp2_with(first|(go_at_call 82;refine(a1 _).mono ?_;rintro e w1 ⟨v,rfl,hb1,hO1⟩;have a5:=hO1.one;have iB:Bel w w1:=⟨(bel w _).trans (hb1.mono (bel w _).size)⟩;have a3:=hb1;have H1:=bJ hO1 hb1;have q0:w1.cell? w.heap.size=some (.slice ai ni ci):=(a3.cell (by simp)).trans (by go_simp);have q1:w1.cell? ⟨w.heap.size,1,none⟩=some (.slice ao no co):=(a3.cell (by simp)).trans (by go_simp);have q2:w1.cell? ⟨w.heap.size,2,none⟩=some (.slice am nm' cm):=(a3.cell (by simp)).trans (by go_simp);have iL:BlockLt w.heap.size w1:=⟨by have:=a3.size;simp at this;omega⟩;clear hO1 hb1 a3)|(go_at_call 83;refine(H3.out _ _ (bel _ _) (H1.out.1.row.below (bel w1 _) (zC _))).mono ?_;rintro e w2 ⟨tv,rfl,hb2,hO2⟩;have a6:=hO2.one;obtain⟨p2,rfl⟩:=hb2.rest;clear hb2 hO2))
  go_ret2;exact gAC
 rw[zB hc];simp only;have a7:(c !=0)=true:=by simpa using hc
 have a4:=λww=>aHU c ww;generalize qV c=C at a4 |-;clear a0;unfold vR;go_in;go_wp2_with(first|(go_at_call 82;refine(a1 _).mono ?_;rintro e w1 ⟨v,rfl,hb1,hO1⟩;have a5:=hO1.one;have iB:Bel w w1:=⟨(bel w _).trans (hb1.mono (bel w _).size)⟩;clear hO1 hb1)|(go_at_call 84;refine aE (a4 _) λp=>?_))
 go_ret2;exact gAC
theorem c46 {iv ov mv:Value} {w:World} {p:ByteArray} {n C:Int} (h:StRead w iv ov mv S) (hf:FineR S) (he:eY S p=(n,C)):vB w 46 #[.agg #[iv,ov,mv],.string p] (.tuple #[n,C]):=λww hb=>by have:=aWZ S iv ov mv p ww (h.below hb (zC _)) hf;rw[he]at this;exact this
end
section
def bO (S:PSt) (p:ByteArray):Int × ByteArray × Int:=
 if (bU p).1≠0 then(0,⟨#[]⟩,qV (bU p).1)else match(bU p).2.getLast? with
  |none=>(0,⟨#[]⟩,9)
  | some l=>if(aQ S (bU p).2.dropLast 1 []).2.1≠0 then(0,⟨#[]⟩,(aQ S (bU p).2.dropLast 1 []).2.1)else match S.ins[(bP S (aQ S (bU p).2.dropLast 1 []).1).toNat]? with
    |some x=>if x.dir=true then((aQ S (bU p).2.dropLast 1 []).1,l,0)else(0,⟨#[]⟩,7)
    |none=>(0,⟨#[]⟩,7)
variable {S:PSt}
theorem vF (hf:FineR S):∀(ns:List ByteArray) (at_:Int) (th:List Int),0<=bP S at_->(aQ S ns at_ th).2.1=0->0<=bP S (aQ S ns at_ th).1
 |[],at_,th,h0,_=>h0
 | n ::r,at_,th,h0,h=>by
   unfold aQ at h |-;split at h
   .simp at h
   split at h
   .rename_i hd
    rw[zB hd];split at h
    .simp at h
    rename_i hn;rw[zA hn];exact vF hf r _ _ (hf.next hn) h
   simp at h
theorem aQA (S:PSt) (iv ov mv:Value) (p:ByteArray) (w:World) (h:StRead w iv ov mv S) (hf:FineR S):
 vR w 45 #[.agg #[iv,ov,mv],.string p] (.tuple #[.int .i64 (bO S p).1,.string (bO S p).2.1,.int .i64 (bO S p).2.2]):=by
 have a3:∀ww,Calls prog 82 #[p] ww _:=λww=>uE p ww;have a5:=lI p;have b3:∀v ww (ns:List ByteArray),ns.length<=4->Bl w ww->RowAt ww 1 v (ns.map λn=>[.string n])->Calls prog 83 #[.agg #[iv,ov,mv],v] ww _:=λv ww ns hl hb hv=>aAM S iv ov mv v ns ww (h.below hb (zC _)) hf hv (by omega);unfold bO;generalize bU p=F at a3 a5 |-;obtain⟨c,ns⟩:=F;simp only at a3 a5 |-;by_cases hc:c=0;rotate_left
 .rw[zB hc];obtain⟨ai,ni,ci,ao,no,co,am,nm',cm,rfl,rfl,rfl⟩:=h.slices;have c1:(c !=0)=true:=by simpa using hc
  have a8:=λww=>aHU c ww;simp only;generalize qV c=C at a8 |-;clear b3 h;unfold vR;go_in;go_wp2_with(first|(go_at_call 82;refine(a3 _).mono ?_;rintro e w1 ⟨v,rfl,hb1,hO1⟩;have a7:=hO1.one;have iB:Bel w w1:=⟨(bel w _).trans (hb1.mono (bel w _).size)⟩;clear hO1 hb1)|(go_at_call 84;refine aE (a8 _) λp=>?_))
  go_ret3;exact gAC
 subst hc;rw[zA (by simp)];rcases hgl:ns.getLast? with _|l
 .have c2:ns=[]:=getLast?_eq_none_iff.1 hgl;subst c2;obtain⟨ai,ni,ci,ao,no,co,am,nm',cm,rfl,rfl,rfl⟩:=h.slices;simp only;clear b3 h hgl
  unfold vR;go_in;go_wp2_with(go_at_call 82;refine(a3 _).mono ?_;rintro e w1 ⟨v,rfl,hb1,hO1⟩;obtain⟨a,cap,rfl,-⟩:=hO1.cap;have iB:Bel w w1:=⟨(bel w _).trans (hb1.mono (bel w _).size)⟩;clear hO1 hb1)
  go_ret3;exact gAC
 have b5:ns≠[]:=λe=>by rw[e]at hgl;simp at hgl
 have c3:0<ns.length:=length_pos_iff.2 b5;have a9:ns[ns.length-1]? =some l:=by rw[<-hgl,getLast?_eq_getElem?]
 have a1:=vF hf ns.dropLast 1 [] hf.root;have a6:∀v ww,Bl w ww->RowAt ww 1 v (ns.dropLast.map λn=>[.string n])->Calls prog 83 #[.agg #[iv,ov,mv],v] ww _:=λv ww hb hv=>b3 v ww ns.dropLast (by rw[length_dropLast];omega) hb hv;simp only;generalize aQ S ns.dropLast 1 []=W at a6 a1 |-;obtain⟨num,C,th⟩:=W;simp only at a6 a1 |-;obtain⟨m,hm⟩:∃m,ns.length=m+1:=⟨ns.length-1,by omega⟩;have b6:ns.dropLast=ns.take m:=by rw[dropLast_eq_take,hm];rfl
 rw[hm]at a9;replace a9:ns[m]? =some l:=a9;obtain⟨L,hLn⟩:=gAB ns.length;obtain⟨ai,ni,ci,ao,no,co,am,nm',cm,rfl,rfl,rfl⟩:=h.slices;obtain⟨ai,ci,e1,hai⟩:=h.ins_at2;cases e1;have b0:∀ww,Bl w ww->Calls prog 85 #[.agg #[.slice ai S.ins.length ci,.slice ao no co,.slice am nm' cm],num] ww _:=λww hb=>aBK S _ _ _ num ww (h.below hb (zC _)) hf.wf.1;have hw:∀ww a cap,Bl w ww->RowAt ww 1 (.slice a L cap) (ns.map λn=>[.string n])->Calls prog 83 #[.agg #[.slice ai S.ins.length ci,.slice ao no co,.slice am nm' cm],.slice a m cap] ww λe w'=>∃tv,e=.returned (.tuple #[num,C,tv])/\tv.oneCell'=true/\Bl ww w':=λww a cap hb hv=>(a6 _ ww hb (by rw[b6,map_take];subst hLn;exact hv.take m (by rw[lM];omega))).mono λe w' ⟨tv,he,hb',ho⟩=>⟨tv,he,ho.one,hb'⟩;have b7:=fE S num;have HP:=mJ a3 hw hai a9;have HM:=eH hm a5 hLn;clear a3 hw b3 a6 hai a9 h hgl b6 a5 hf b5 c3;have c4:((L:Int)==0)=false:=by simp;omega
 have c5:¬((L:Int)=0):=by omega
 have c6:(L:Int)-1=m:=by omega
 clear hm hLn;by_cases hC:C=0
 .subst hC;rw[zA (by simp)];have hK:=a1 rfl;clear a1;generalize bP S num=A at b0 hK b7 |-;obtain⟨K,rfl⟩:∃K:Nat,A=K:=⟨A.toNat,by omega⟩
  have c7:(K:Int)<S.ins.length:=by omega
  obtain⟨x,hx⟩:∃x,S.ins[K]? =some x:=⟨_,gE (by omega)⟩;obtain⟨bi,oi,ev,rfl,iI0,hoi,her,hci⟩:=HP.out.2.2.1 K x hx;have e0:((K:Int)).toNat=K:=by omega
  rw[e0,hx];simp only;have b4:∀wr,Bl w wr->wr.cell? ⟨bi,oi+K*4+1,none⟩=some (.bool x.dir):=λwr hb=>(hci wr hb).2.2.1;generalize x.dir=dd at b4 hci |-;have b1:=aC b4;have b8:=aC hci;clear b4 hci her hx iI0 e0 b7 hK;rcases dd with _|_
  .simp only[zP,if_false]
   unfold vR;go_in;go_upto_region 6 with(go_at_call 82;refine(HP.out.1 _).mono ?_;rintro e w1 ⟨v,rfl,hb1,ho1⟩;have a2:=ho1.row;obtain⟨gn,cap,hv,hc1,hc2⟩:=ho1.some_ (by rw[lM];show 0<ns.length;have:=HM.out;omega);rw[lM]at hv hc1;rw[show List.length ((0:Int),ns).2=L from HM.out.2.2]at hv hc1;subst hv;have a0:=a2.at_;have a4:Bel w w1:=⟨(bel w _).trans (hb1.mono (bel w _).size)⟩;have b2:∀ww,Bl w1 ww->Calls prog 83 #[.agg #[.slice (some ⟨bi,oi,none⟩) S.ins.length ci,.slice ao no co,.slice am nm' cm],.slice gn m cap] ww _:=λww hb=>HP.out.2.1 ww _ cap (a4.below.trans (hb.mono a4.below.size)) (a2.below hb (zC _));have q0:w1.cell? w.heap.size=some (.slice (some ⟨bi,oi,none⟩) S.ins.length ci):=(hb1.cell (by simp)).trans (by go_simp);have q1:w1.cell? ⟨w.heap.size,1,none⟩=some (.slice ao no co):=(hb1.cell (by simp)).trans (by go_simp);have q2:w1.cell? ⟨w.heap.size,2,none⟩=some (.slice am nm' cm):=(hb1.cell (by simp)).trans (by go_simp);have iL:BlockLt w.heap.size w1:=⟨by have:=hb1.size;simp at this;omega⟩;have b9:IntKind.i64.wrap (m:Int)=m:=I64.wrap ⟨by omega,by have:=HM.out;omega⟩;have c0:m<=cap:=(by have:=HM.out;omega);have H1:=eH a4.below a2 a0;clear hb1 a2 a0 ho1)
   refine aH [6] true (λw'=>w'.cell? w.heap.size=some (.slice (some ⟨bi,oi,none⟩) S.ins.length ci)/\w'.cell? ⟨w.heap.size,1,none⟩=some (.slice ao no co)/\w'.cell? ⟨w.heap.size,2,none⟩=some (.slice am nm' cm)) (by kernel_rfl) (by kernel_rfl) ?_ ?_
   · (try dsimp only);(repeat' apply And.intro)<;>go_simp
   repeat
    apply aI0 rfl rfl
    focus
     rintro w' ⟨s0,s1,s2⟩;go_simp
     first|done|rfl
    simp only[Act.put,sA,sZ,sS]
   refine bB rfl rfl ?_;refine aS 83 #[.agg #[.slice (some ⟨bi,oi,none⟩) S.ins.length ci,.slice ao no co,.slice am nm' cm],.slice gn m cap] ?_ ((b2 w1.drew (bel w1 _)).mono ?_)
   focus
    go_simp
    first|done|rfl
   rintro e w2 ⟨tv,rfl,a7,hb2⟩;obtain⟨p2,rfl⟩:=hb2.rest;clear hb2;refine⟨_,rfl,.inl ?_,?_⟩
   · (try dsimp only);(repeat' apply And.intro)<;>go_simp
   simp only[Act.put,sA,sZ,sS]
   repeat
    apply aI0 rfl rfl
    focus
     rintro w' ⟨s0,s1,s2⟩;go_simp
     first|done|rfl
    simp only[Act.put,sA,sZ,sS]
   refine aU ?_;obtain⟨iI1,-,-,-,-⟩:=b8.out w1 H1.out.1;have z1:=b1.out w1 H1.out.1;go_upto_region 9 with fail;refine qR ?_
   repeat(go_big_quiet_step ((with_reducible first|refine cI (b0 _ (bel _ _))|refine cJ (b0 _ (bel _ _)))))
   refine QN λp=>?_;go_wp2
   go_ret3;exact gAC
  simp only[if_true];unfold vR;go_in;go_upto_region 6 with(go_at_call 82;refine(HP.out.1 _).mono ?_;rintro e w1 ⟨v,rfl,hb1,ho1⟩;have a2:=ho1.row;obtain⟨gn,cap,hv,hc1,hc2⟩:=ho1.some_ (by rw[lM];show 0<ns.length;have:=HM.out;omega);rw[lM]at hv hc1;rw[show List.length ((0:Int),ns).2=L from HM.out.2.2]at hv hc1;subst hv;have a0:=a2.at_;have a4:Bel w w1:=⟨(bel w _).trans (hb1.mono (bel w _).size)⟩;have b2:∀ww,Bl w1 ww->Calls prog 83 #[.agg #[.slice (some ⟨bi,oi,none⟩) S.ins.length ci,.slice ao no co,.slice am nm' cm],.slice gn m cap] ww _:=λww hb=>HP.out.2.1 ww _ cap (a4.below.trans (hb.mono a4.below.size)) (a2.below hb (zC _));have q0:w1.cell? w.heap.size=some (.slice (some ⟨bi,oi,none⟩) S.ins.length ci):=(hb1.cell (by simp)).trans (by go_simp);have q1:w1.cell? ⟨w.heap.size,1,none⟩=some (.slice ao no co):=(hb1.cell (by simp)).trans (by go_simp);have q2:w1.cell? ⟨w.heap.size,2,none⟩=some (.slice am nm' cm):=(hb1.cell (by simp)).trans (by go_simp);have iL:BlockLt w.heap.size w1:=⟨by have:=hb1.size;simp at this;omega⟩;have b9:IntKind.i64.wrap (m:Int)=m:=I64.wrap ⟨by omega,by have:=HM.out;omega⟩;have c0:m<=cap:=(by have:=HM.out;omega);have H1:=eH a4.below a2 a0;clear hb1 a2 a0 ho1)
  refine aH [6] true (λw'=>w'.cell? w.heap.size=some (.slice (some ⟨bi,oi,none⟩) S.ins.length ci)/\w'.cell? ⟨w.heap.size,1,none⟩=some (.slice ao no co)/\w'.cell? ⟨w.heap.size,2,none⟩=some (.slice am nm' cm)) (by kernel_rfl) (by kernel_rfl) ?_ ?_
  · (try dsimp only);(repeat' apply And.intro)<;>go_simp
  repeat
   apply aI0 rfl rfl
   focus
    rintro w' ⟨s0,s1,s2⟩;go_simp
    first|done|rfl
   simp only[Act.put,sA,sZ,sS]
  refine bB rfl rfl ?_;refine aS 83 #[.agg #[.slice (some ⟨bi,oi,none⟩) S.ins.length ci,.slice ao no co,.slice am nm' cm],.slice gn m cap] ?_ ((b2 w1.drew (bel w1 _)).mono ?_)
  focus
   go_simp
   first|done|rfl
  rintro e w2 ⟨tv,rfl,a7,hb2⟩;obtain⟨p2,rfl⟩:=hb2.rest;clear hb2;refine⟨_,rfl,.inl ?_,?_⟩
  · (try dsimp only);(repeat' apply And.intro)<;>go_simp
  simp only[Act.put,sA,sZ,sS]
  repeat
   apply aI0 rfl rfl
   focus
    rintro w' ⟨s0,s1,s2⟩;go_simp
    first|done|rfl
   simp only[Act.put,sA,sZ,sS]
  refine aU ?_;obtain⟨iI1,-,-,-,-⟩:=b8.out w1 H1.out.1;have z1:=b1.out w1 H1.out.1;go_upto_region 9 with fail;refine qR ?_
  repeat(go_big_quiet_step ((with_reducible first|refine cI (b0 _ (bel _ _))|refine cJ (b0 _ (bel _ _)))))
  refine QN λp=>?_;obtain⟨a',cap',hv',a0⟩:=H1.out.2.2;obtain⟨bn,offn,he,iN0,iN1,hcn⟩:=a0 w1 (Below.refl _ _) m [.string l] (by rw[gM];show Option.map _ ns[m]? =_;rw[HP.out.2.2.2];rfl);simp only[zO]at hv';obtain⟨rfl,-,rfl⟩:=hv';simp only[zF,yG]at he;obtain⟨rfl,rfl,-⟩:=he;have n0:=hcn 0 _ rfl;rw[Nat.mul_one,zN,zM]at n0;have c8:(m:Int)<L:=by omega
  clear hcn a0;go_upto_region 11 with fail;refine qR ?_
  repeat(go_big_quiet_step (fail))
  refine QN λp=>?_;go_wp2
  go_ret3;exact gAC
 rw[zB hC];have c1:(C !=0)=true:=by simpa using hC
 unfold vR;go_in;go_upto_region 6 with(go_at_call 82;refine(HP.out.1 _).mono ?_;rintro e w1 ⟨v,rfl,hb1,ho1⟩;have a2:=ho1.row;obtain⟨gn,cap,hv,hc1,hc2⟩:=ho1.some_ (by rw[lM];show 0<ns.length;have:=HM.out;omega);rw[lM]at hv hc1;rw[show List.length ((0:Int),ns).2=L from HM.out.2.2]at hv hc1;subst hv;have a0:=a2.at_;have a4:Bel w w1:=⟨(bel w _).trans (hb1.mono (bel w _).size)⟩;have b2:∀ww,Bl w1 ww->Calls prog 83 #[.agg #[.slice ai S.ins.length ci,.slice ao no co,.slice am nm' cm],.slice gn m cap] ww _:=λww hb=>HP.out.2.1 ww _ cap (a4.below.trans (hb.mono a4.below.size)) (a2.below hb (zC _));have q0:w1.cell? w.heap.size=some (.slice ai S.ins.length ci):=(hb1.cell (by simp)).trans (by go_simp);have q1:w1.cell? ⟨w.heap.size,1,none⟩=some (.slice ao no co):=(hb1.cell (by simp)).trans (by go_simp);have q2:w1.cell? ⟨w.heap.size,2,none⟩=some (.slice am nm' cm):=(hb1.cell (by simp)).trans (by go_simp);have iL:BlockLt w.heap.size w1:=⟨by have:=hb1.size;simp at this;omega⟩;have b9:IntKind.i64.wrap (m:Int)=m:=I64.wrap ⟨by omega,by have:=HM.out;omega⟩;have c0:m<=cap:=(by have:=HM.out;omega);have H1:=eH a4.below a2 a0;clear hb1 a2 a0 ho1)
 refine aH [6] true (λw'=>w'.cell? w.heap.size=some (.slice ai S.ins.length ci)/\w'.cell? ⟨w.heap.size,1,none⟩=some (.slice ao no co)/\w'.cell? ⟨w.heap.size,2,none⟩=some (.slice am nm' cm)) (by kernel_rfl) (by kernel_rfl) ?_ ?_
 · (try dsimp only);(repeat' apply And.intro)<;>go_simp
 repeat
  apply aI0 rfl rfl
  focus
   rintro w' ⟨s0,s1,s2⟩;go_simp
   first|done|rfl
  simp only[Act.put,sA,sZ,sS]
 refine bB rfl rfl ?_;refine aS 83 #[.agg #[.slice ai S.ins.length ci,.slice ao no co,.slice am nm' cm],.slice gn m cap] ?_ ((b2 w1.drew (bel w1 _)).mono ?_)
 focus
  go_simp
  first|done|rfl
 rintro e w2 ⟨tv,rfl,a7,hb2⟩;obtain⟨p2,rfl⟩:=hb2.rest;clear hb2;refine⟨_,rfl,.inl ?_,?_⟩
 · (try dsimp only);(repeat' apply And.intro)<;>go_simp
 simp only[Act.put,sA,sZ,sS]
 repeat
  apply aI0 rfl rfl
  focus
   rintro w' ⟨s0,s1,s2⟩;go_simp
   first|done|rfl
  simp only[Act.put,sA,sZ,sS]
 refine aU ?_;go_wp2
 go_ret3;exact gAC
theorem c45 {iv ov mv:Value} {w:World} {p n:ByteArray} {D C:Int} (h:StRead w iv ov mv S) (hf:FineR S) (he:bO S p=(D,n,C)):vB w 45 #[.agg #[iv,ov,mv],.string p] (.tuple #[D,n,C]):=λww hb=>by have:=aQA S iv ov mv p ww (h.below hb (zC _)) hf;rw[he]at this;exact this
end
def dX (nm:ByteArray) (es:List PEnt):List PEnt:=es.filter λe=>!(e.name.toList==nm.toList)
theorem aKK {nm:ByteArray} {es:List PEnt} {q:Nat} {z:PEnt} (h:es[q]? =some z):dX nm (es.take (q+1))=dX nm (es.take q)++(if (z.name.toList==nm.toList)=true then[]else[z]):=by
 unfold dX;rw[take_add_one,h,filter_append];congr 1;by_cases hb:(z.name.toList==nm.toList)=true
 .simp[hb]
 simp only[Bool.not_eq_true]at hb;simp[hb]
theorem vT (B b:Nat) (S:PSt) (iv ov mv:Value) (dir:Int) (name:ByteArray) (K:Nat) (x:PIn) (w:World) (hb:Blk w b #[iv,ov,mv] 26) (ho:StOwn B w iv ov mv S) (hB:B<=w.heap.size) (hwf:S.wf) (hat:bP S dir=K) (hx:S.ins[K]? =some x):
 Calls prog 128 #[.pointer b,dir,name] w λe w'=>e=.returned (.tuple #[])/\Below B w w'/\Keep (tZ w) w w'/\StOwn B w' iv ov mv (S.ents K x (dX name x.ents)):=by
 obtain⟨hKl,-⟩:=gI.1 hx;obtain⟨bi,cap,rfl⟩:=ho.ins_form (by omega);have a2:vB w 85 #[.agg #[.slice bi S.ins.length cap,ov,mv],.int .i64 dir] (.int .i64 (K:Int)):=λww hb=>by have:=aBK S _ ov mv dir ww (ho.read.below hb (zC _)) hwf.1;rw[hat]at this;exact this
 obtain⟨a,cap',e1,hai⟩:=ho.read.ins_at2;cases e1;obtain⟨bi',oi,ev,he,iI0,hoi,her,hci⟩:=hai K x hx;cases he;obtain⟨iI,-,-,x2,-⟩:=hci w (Below.refl _ _);rw[zM]at x2;have b0:=aC x2;have b1:=(hwf.2.2.2.1 x (mG hx)).2.1;obtain⟨ae,ce,rfl,hae⟩:=her.at_;rw[lM]at x2;obtain⟨iL,s0,s1,s2⟩:=gR hb;have a3:=ho.1.one;have a1:=ho.2.1.one;obtain⟨ao,co,rfl⟩:=ho.1.formL;obtain⟨am,cm,rfl⟩:=ho.2.1.formL;simp only[lM]at a2 s1 s2;have b4:(K:Int)<S.ins.length:=by omega
 have H:=eH ho hx hb;obtain⟨xn,xd,xe,xs⟩:=x;simp only at x2 hae b1 |-;have HA:=aC hae;have a5:∀w2,Bl w w2->BlockLt bi w2/\w2.cell? ⟨bi,K*4+2,none⟩=some (.slice ae xe.length ce):=by intro w2 h2;obtain⟨i2,-,-,y2,-⟩:=hci w2 h2;rw[zM,lM]at y2;exact⟨i2,y2⟩
 have b2:=aC a5;clear a5;clear ho hx hb her hai hoi hci hae a3 a1 hat;go_in;go_upto_region 0 with fail;refine qR ?_
 repeat(go_big_quiet_step ((with_reducible first|refine cI (a2 _ (bel _ _))|refine cJ (a2 _ (bel _ _)))))
 refine QN λp=>?_;go_wp2
 go_loopw[7,8] (λv7 i wr=>∃(q:Nat) (zs:List PEnt),i=.int .i64 q/\q<=xe.length/\zs.length<=q/\OwnP w.heap.size wr 97 2 v7 (zs.map PEnt.cells)/\zs=dX name (xe.take q)/\Bl w wr) (λ_ i _=>(xe.length-intOf i).toNat)
 case atStart=>exact⟨0,[],rfl,by omega,by simp,.inl ⟨rfl,rfl⟩,rfl,bel _ _⟩
 obtain⟨q,zs,rfl,hq,hzl,hO,hre,hbw⟩:=hrel;have iB:Bel w wr:=⟨hbw⟩;obtain⟨iI2,y2⟩:=b2.out wr hbw;obtain⟨va,vc,rfl⟩:=hO.formL;generalize hzn:(zs.map PEnt.cells).length=zn at hO |-;have HO:=bJ hO hzn;clear hO hzn;by_cases hlt:q<xe.length
 .obtain⟨z,hz⟩:=gAA hlt
  have a0:=aKK (nm:=name) hz;rw[<-hre]at a0;obtain⟨be,oe,rfl,iE0,iE,hce⟩:=HA.out wr hbw q z.cells (by rw[gM,hz];rfl);have c0:=hce 0 _ rfl;have c1:=hce 1 _ rfl;rw[zN]at c0;have a4:(q:Int)<xe.length:=by omega
  have a6:=aC a0;clear hce hz hre;by_cases ht:(z.name.toList==name.toList)=true
  .have hs:=a6.out;rw[zB ht,append_nil]at hs;have HS:=aC hs;clear hs a0;go_wp2
   go_roundw
   case rel=>exact⟨q+1,zs,by go_num,by omega,by omega,by have h:=HO.out;first|exact h.1|(rw [<-h.2]at h;exact h.1),HS.out.symm,hbw⟩
   simp[intOf];omega
  have hs:=a6.out;rw[zA ht]at hs;have b5:(z.name.toList==name.toList)=false:=by simpa using ht
  have HS:=aC hs;clear hs a0 ht;go_wp2_with(at_builtin;refine sP rfl (.tmp 38) (.tmp 46) rfl w.heap.size _ _ zs [z] rfl (by go_simp) (HO.out.1.below (bel wr _)) (RowAt.single (Blk.new_i _ _ _ _) 2 1) (by simp;omega) (bel w _).size ?_);intro v' w' hg;have a7:=hg.on (HO.out.1.below (bel wr _)) (bel w _).size;have a8:=(bel w _).trans a7;have a9:OwnP w.heap.size w' 97 2 v' ((zs++[z]).map PEnt.cells):=by have:=hg.1;simpa using this
  have H2:=bJ a9 a8;clear hg a7 a9 a8;go_wp2;go_roundw
  case rel=>exact⟨q+1,_,by go_num,by omega,by simp;omega,H2.out.1,HS.out.symm,H2.out.2⟩
  simp[intOf];omega
 have a4:¬(q:Int)<xe.length:=by omega
 have b3:zs=dX name xe:=by rw[hre,take_of_length_le (by omega)]
 subst b3;have hf:Below B w (wr.setCell ⟨bi,K*4+2,none⟩ (.slice va zn vc))/\Keep (tZ w) w (wr.setCell ⟨bi,K*4+2,none⟩ (.slice va zn vc))/\StOwn B (wr.setCell ⟨bi,K*4+2,none⟩ (.slice va zn vc)) (.slice bi S.ins.length cap) (.slice ao (S.op.map PDesc.cells).length co) (.slice am (S.made.map aJ).length cm) (S.ents K ⟨xn,xd,xe,xs⟩ (dX name xe)):=by obtain⟨ho,hx,hb⟩:=H.out;have h1:=HO.out.1;obtain⟨r1,r2,r3⟩:=ho.setEnts hx b0.out (h1.mono hB) (Keep.of_below hbw _) (λk hk=>.inr (h1.ge hk)) hB;exact⟨r2,r3,r1⟩
 have HF:=aC hf;have b6:=H.out.1.ins_thaw hKl hbw;clear hf hre;go_wp2;exact xE (v:=.tuple #[]) (by simp[results,go_sem]) rfl ⟨rfl,by have:=HF.out;first|exact this|(simp only[lM]at this;exact this)⟩
def mkK (S:PSt) (K0:Nat) (x:PIn) (nm:ByteArray) (k:Nat) (m:Int) (dir:Bool):PSt:=
 let num:Int:=2+k+8*m
 let S2:PSt:=({ S with made:=S.made.set k (m+1)}:PSt).ents K0 x (cT (λe=>eA nm e.name) ⟨nm,num⟩ x.ents false [])
 { S2 with ins:=cT (λy=>decide (num<y.num)) ⟨num,dir,[],⟨#[]⟩⟩ S2.ins false []}
theorem aWU (B b:Nat) (S:PSt) (iv ov mv:Value) (kd fd off nu:Int) (path p2 dt nm:ByteArray) (D:Int) (K0:Nat) (x:PIn) (k:Nat) (m:Int) (w:World) (hb:Blk w b #[iv,ov,mv] 26) (ho:StOwn B w iv ov mv S) (hB:B<=w.heap.size) (hBb:B<=b) (hfR:FineR S) (hpar:bO S path=(D,nm,0)) (hat0:bP S D=K0) (hx:S.ins[K0]? =some x)
 (hns:nm.size<=1000000000) (hent:aX S D nm=0) (hful:decide (4<=eG (bA nm) ⟨#[]⟩ x.ents 0)=false) (hes:∀e∈x.ents,e.name.size<=1000000000) (hm:S.made[k]? =some m) (hm0:0<=m/\m<32) (hk8:k<8):
 Calls prog 93 #[.pointer b,.agg #[kd,k,fd,off,nu,path,p2,dt]] w λe w'=>e=.returned (aR 0 0 0)/\Below B w w'/\Spared b w w'/\∃iv' ov' mv',Blk w' b #[iv',ov',mv'] 26/\StOwn B w' iv' ov' mv' (mkK S K0 x nm k m (kd==1)):=by
 have b9:=hfR.wf;have c7:=c45 ho.read hfR hpar;have e7:=aZO ho.read b9 hent;have c8:vB w 121 #[.agg #[iv,ov,mv],.int .i64 D,.string nm,.string ⟨#[]⟩] (.bool false):=λww hb=>by have:=uC S iv ov mv D nm ⟨#[]⟩ K0 x ww (ho.read.below hb (zC _)) b9 hat0 hx hns hes;rw[hful]at this;exact this
 obtain⟨hxl,-⟩:=gI.1 hx;obtain⟨hkl,-⟩:=gI.1 hm;obtain⟨bi,cap,rfl⟩:=ho.ins_form (by omega);obtain⟨gm,capm,rfl⟩:=ho.made_form (by omega);obtain⟨oa,on,oc,rfl⟩:=ho.1.form;have c9:=hb.lt;have b3:b<w.heap.size:=hb.lt.lt;obtain⟨-,s0,s1,s2⟩:=gR hb;obtain⟨m0,fm,iGm⟩:=ho.made_at hm;have j7:(k:Int)<S.made.length:=by omega
 have g9:¬32<=m:=by omega
 have h5:decide (32<=m)=false:=yM g9;obtain⟨num,hnum⟩:∃num:Int,2+(k:Int)+8*m=num:=⟨_,rfl⟩;have wa:IntKind.i64.wrap (2+(k:Int))=2+(k:Int):=I64.wrap ⟨by omega,by omega⟩;have wb:IntKind.i64.wrap (8*m)=8*m:=I64.wrap ⟨by omega,by omega⟩;have j8:IntKind.i64.wrap (2+(k:Int)+8*m)=num:=by rw[hnum];exact I64.wrap ⟨by omega,by omega⟩
 have j9:wrap64 (2+(k:Int)+8*m)=num:=by simp only[wrap64];omega
 have k0:wrap64 (m+1)=m+1:=by simp only[wrap64];omega
 have wd:IntKind.i64.wrap (m+1)=m+1:=I64.wrap ⟨by omega,by omega⟩;have HN:=aC hnum;have HH:=jj7 hb ho b9 hx hm hat0 hm0;have HM:=bJ hns hes;clear hnum;clear hb ho b9 hx hm hent hful hes hm0 hat0 hns hfR hpar;go_in;go_upto_region 1 with fail;refine qR ?_
 repeat(go_big_quiet_step ((with_reducible first|refine cI (c7 _ (bel _ _))|refine cJ (c7 _ (bel _ _)))))
 refine QN λp=>?_;go_wp2_with((go_at_call 118;refine aE (e7 _ (bel _ _)) λp=>?_));refine qR ?_
 repeat(go_big_quiet_step ((with_reducible first|refine cI (c8 _ (bel _ _))|refine cJ (c8 _ (bel _ _)))))
 refine QN λp=>?_;go_wp2;refine qR ?_
 repeat(go_big_quiet_step (fail))
 refine QN λp=>?_;go_upto_region 9 with fail;refine aD (F:=λwa=>StOwn B wa (.slice bi S.ins.length cap) (.slice oa on oc) (.slice gm S.made.length capm) S/\Blk wa b #[.slice bi S.ins.length cap,.slice oa on oc,.slice gm S.made.length capm] 26/\Blk wa w.heap.size #[kd,k,fd,off,nu,path,p2,dt] 28/\Blk wa (w.heap.size+1) () 52/\Below w.heap.size w wa) ⟨HH.out.2.1.on (bel w _),aB HH.out.1 (bel w _),aB (Blk.new w #[kd,k,fd,off,nu,path,p2,dt] 28) (bel _ _),aB (Blk.new_i (w.alloc (.cells #[kd,k,fd,off,nu,path,p2,dt] 28)) () 52 (w.heap.size+1)) (bel _ _),bel w _⟩ ?_;clear s0 s1 s2 m0 fm iGm c9;rintro wa ⟨ho,hb,hbc,hbr,hbw⟩;obtain⟨m0,fm,iGm⟩:=ho.made_at HH.out.2.2.2.2.1;have iB:=hb.lt;have iC:=hbc.lt;have s2:=hb.cell 2;have q1:=hbc.cell 1;simp at s2 q1;obtain⟨hs1,hBg,cg,hgm⟩:=(ho.on (bel wa wa.drew)).setMade (k:=k) hkl (m+1);have b4:Spared b wa (wa.drew.setCell ⟨gm,k,none⟩ (.int .i64 (m+1))):=(Spared.of_below (bel wa wa.drew)).trans (Spared.set hgm (.inr ⟨by decide,by decide,by decide⟩));have d4:Keep (λg=>g=gm) wa.drew (wa.drew.setCell ⟨gm,k,none⟩ (.int .i64 (m+1))):=Keep.setCell (S:=λg=>g=gm) (p:=⟨gm,k,none⟩) (Keep.refl _ _) (.inl rfl) _;have c4:=d4.blk (aB hb (bel wa wa.drew)) (λe=>by
  subst e;have:=(aB hb (bel wa wa.drew)).ne_ hgm (by decide);exact this rfl)
 have a7:Below B w (wa.drew.setCell ⟨gm,k,none⟩ (.int .i64 (m+1))):=(hbw.mono hB).trans ((bel wa wa.drew).mono (zD hB hbw.size) |>.trans (d4.below (zD hB (zD hbw.size (bel wa wa.drew).size)) (λi hi e=>by omega)));obtain⟨w4,hw4⟩:∃w4,wa.drew.setCell ⟨gm,k,none⟩ (.int .i64 (m+1))=w4:=⟨_,rfl⟩;rw[hw4]at hs1 b4 c4 a7;have a4:=b4 _ _ _ hbr (by omega) (.inr (.inr rfl));have a3:=b4 _ _ _ hbc (by omega) (.inr (.inl rfl));have b5:=(Spared.of_below (b:=b) hbw).trans b4;have h6:=c4.lt;have h7:=a3.lt;have h8:=a4.lt;have e8:=a3.cell 0;have e9:=a3.cell 1;simp at e8 e9;have d5:=bJ a3 a4;have H4:=qM hs1 c4 a4 a7 b5;have f0:=aC hw4;clear hs1 b4 c4 a7 a4 a3 b5 d4 ho hb hbc hbr hbw hgm;refine aH [10] true (λw'=>w'.cell? ⟨b,2,none⟩=some (.slice gm S.made.length capm)/\w'.cell? ⟨w.heap.size,1,none⟩=some (.int .i64 k)/\w'.cell? ⟨gm,k,none⟩=some (.int .i64 m)) (by kernel_rfl) (by kernel_rfl) ?_ ?_
 · (try dsimp only);(repeat' apply And.intro)<;>go_simp
 repeat
  apply aI0 rfl rfl
  focus
   rintro w' ⟨s0,s1,s2⟩;go_simp
   first|done|rfl
  simp only[Act.put,sA,sZ,sS]
 refine aW rfl rfl ?_;refine⟨w4,?_,.inr ⟨rfl,rfl⟩,?_⟩
 focus
  go_simp
  first|done|exact f0.out|rfl
 simp only[Act.put,sA,sZ,sS];refine aU ?_;clear s2 q1 iB iC m0 fm iGm hw4;have b6:I64 (m+1):=by have:=HH.out.2.2.2.2.2.2;exact⟨by omega,by omega⟩
 obtain⟨S2,hS2⟩:∃S2:PSt,(({ S with made:=S.made.set k (m+1)}:PSt).ents K0 x (cT (λe=>eA nm e.name) ⟨nm,num⟩ x.ents false []))=S2:=⟨_,rfl⟩;have c5:S2.ins.length=S.ins.length:=by rw[<-hS2];simp[PSt.ents]
 have f6:∀ww,Below w4.heap.size w4 ww->Calls prog 122 #[.pointer b,D,nm,num] ww λe w'=>e=.returned (.tuple #[])/\(StOwn B w' (.slice bi S.ins.length cap) (.slice oa on oc) (.slice gm S.made.length capm) S2/\Blk w' b #[.slice bi S.ins.length cap,.slice oa on oc,.slice gm S.made.length capm] 26/\Below B w w'/\Spared b w4 w'):=λww hb=>by obtain⟨o1,o2,o3,o4,o5⟩:=H4.out;have h9:B<=ww.heap.size:=zD hB (zD o4.size hb.size);have a8:=aB o2 hb;refine(aMP B b { S with made:=S.made.set k (m+1)} _ _ _ D num nm K0 x ww a8 (o1.on hb) h9 (PSt.wf_made HH.out.2.2.1 k b6) HM.out.1 HH.out.2.2.2.2.2.1 HH.out.2.2.2.1).mono ?_;rintro e w' ⟨rfl,hb5,hk5,a6⟩;rw[hS2]at a6;exact⟨rfl,a6,hk5.blk a8 (eS a8 (by decide) (by decide)),(o4.trans (hb.mono (zD hB o4.size))).trans hb5,(Spared.of_below hb).trans (Spared.of_in hk5)⟩
 have i0:=aC hS2;clear hS2;go_wp2_with(go_at_call 122;(refine(f6 _ (bel w4 _)).mono ?_);rintro e w5 ⟨rfl,a6,hb5,hbb5,hp5⟩;have d6:=hp5 _ _ _ d5.out.1 (by omega) (.inr (.inl rfl));have i1:=d6.lt;have i3:w5.cell? w.heap.size=some (.int .i64 kd):=d6.cell 0;have f7:=hp5 _ _ _ d5.out.2 (by omega) (.inr (.inr rfl));have a9:=qM a6 hb5 f7 hbb5 (H4.out.2.2.2.2.trans hp5);clear a6 hb5 hbb5 hp5 d6 f7);refine aD (F:=λW=>StOwn B W (.slice bi S.ins.length cap) (.slice oa on oc) (.slice gm S.made.length capm) S2/\Blk W b #[.slice bi S.ins.length cap,.slice oa on oc,.slice gm S.made.length capm] 26/\Blk W (w.heap.size+1) () 52/\Blk W w5.heap.size #[num,.bool (kd==1),.slice none 0 0,.string ⟨#[]⟩] 68/\Below B w W/\Spared b w W) ⟨a9.out.1.on (bel w5 _),aB a9.out.2.1 (bel w5 _),aB a9.out.2.2.1 (bel w5 _),Blk.new_i _ _ _ _,a9.out.2.2.2.1.trans ((bel w5 _).mono (zD hB a9.out.2.2.2.1.size)),a9.out.2.2.2.2.trans (Spared.of_below (bel w5 _))⟩ ?_;clear a9 i1 i3 H4 d5 f0 h6 h7 h8 e8 e9 f6 c7 e7 c8;obtain⟨g5,hg5⟩:=gAB w5.heap.size;rw[hg5];clear hg5;rintro W ⟨ho,a8,hrs,hnb,hBW,hSP⟩;have b0:B<=W.heap.size:=zD hB hBW.size;obtain⟨u1,u2,is,u3,u4,u5,u6⟩:=ho;rw[c5]at u4;obtain⟨a,capx,e1,hai⟩:=u3.row.at_;rw[lM,u4]at e1;cases e1;have f8:∀w2,Below W.heap.size W w2->BlockLt b w2/\w2.cell? b=some (.slice bi S.ins.length cap)/\w2.frozen? b=false/\BlockLt g5 w2/\w2.cell? ⟨g5,0,none⟩=some (.int .i64 num)/\w2.cell? ⟨g5,1,none⟩=some (.bool (kd==1))/\w2.cell? ⟨g5,2,none⟩=some (.slice none 0 0)/\w2.cell? ⟨g5,3,none⟩=some (.string ⟨#[]⟩):=by intro w2 h2;have h3:=aB a8 h2;have h4:=aB hnb h2;exact⟨h3.lt,h3.cell 0,h3.frozen 0,h4.lt,h4.cell 0,h4.cell 1,h4.cell 2,h4.cell 3⟩
 have a5:∀(q:Nat) (r:IRec),is[q]? =some r->∃a n c,r.ev=.slice a n c:=by intro q r hr;obtain⟨hl,_⟩:=gI.1 hr;exact(u5 q r _ hr (gE (by omega))).2.2.2.form
 obtain⟨nr,hnr⟩:∃nr:IRec,(⟨num,kd==1,.slice none 0 0,⟨#[]⟩,rfl⟩:IRec)=nr:=⟨_,rfl⟩;have d7:nr.cells=[.int .i64 num,.bool (kd==1),.slice none 0 0,.string ⟨#[]⟩]:=by rw[<-hnr];rfl
 obtain⟨R,hR⟩:∃R,cT (λr:IRec=>decide (num<r.num)) nr is false []=R:=⟨_,rfl⟩;have b7:∀(w1:World) (v:Value),OwnP W.heap.size w1 68 4 v (R.map IRec.cells)->Below W.heap.size W w1->Blk (w1.setCell b v) b #[v,.slice oa on oc,.slice gm S.made.length capm] 26/\StOwn B (w1.setCell b v) v (.slice oa on oc) (.slice gm S.made.length capm) (mkK S K0 x nm k m (kd==1))/\Blk (w1.setCell b v) (w.heap.size+1) #[.int .i64 0,.int .i64 0,.int .i64 0,.bool false,.string ⟨#[]⟩,.slice none 0 0] 52/\Below B w (w1.setCell b v)/\Spared b w (w1.setCell b v):=by
  intro w1 v h1 h2;have d8:=aB a8 h2;have i4:=aB hrs h2;have d9:Keep (λg=>g=b) w1 (w1.setCell b v):=Keep.setCell (S:=λg=>g=b) (p:=b) (Keep.refl _ _) (.inl rfl) _;have i5:R=aY is (is.findIdx λr=>decide (num<r.num)) nr:=by rw[<-hR,qJ]
  have i6:OwnP B w1 68 4 v ((is.map IRec.cells).take (is.findIdx λr=>decide (num<r.num))++[.int .i64 num,.bool (kd==1),.slice none 0 0,.string ⟨#[]⟩]::(is.map IRec.cells).drop (is.findIdx λr=>decide (num<r.num))):=by have:=h1.mono b0;rw[i5,qG,d7]at this;exact this
  have a6:=aLN (S:=S2) is u1 u2 (by omega) u5 u6 (Keep.of_below h2 (λ_=>False)) (λ_ h=>h.elim) (is.findIdx λr=>decide (num<r.num)) (by rw[c5,<-u4];exact findIdx_le_length) num (kd==1) i6;have e0:(is.findIdx λr=>decide (num<r.num))=S2.ins.findIdx λy=>decide (num<y.num):=by
   have e:is.map IRec.num=S2.ins.map PIn.num:=by
    apply ext_getElem?;intro q;rw[gM,gM];by_cases hq:q<is.length
    .have f9:q<S2.ins.length:=by omega
     have:=(u5 q is[q] S2.ins[q] (gE hq) (gE f9)).1;rw[gE hq,gE f9];simp[this]
    rw[getElem?_eq_none (by omega),getElem?_eq_none (by omega)];rfl
   have e1:(is.findIdx λr=>decide (num<r.num))=(is.map IRec.num).findIdx λn=>decide (num<n):=by rw[findIdx_map];rfl
   have e2:(S2.ins.findIdx λy=>decide (num<y.num))=(S2.ins.map PIn.num).findIdx λn=>decide (num<n):=by rw[findIdx_map];rfl
   rw[e1,e2,e]
  have i7:({ S2 with ins:=aY S2.ins (is.findIdx λr=>decide (num<r.num)) ⟨num,kd==1,[],⟨#[]⟩⟩}:PSt)=mkK S K0 x nm k m (kd==1):=by unfold mkK;simp only;rw[HN.out,i0.out,qJ,e0]
  rw[i7]at a6;refine⟨d8.set_ 0 v,a6.keep d9 (λg hg=>by rw[hg];exact⟨_,26,d8,by decide,by decide,by decide,by decide⟩),d9.blk i4 (by omega),?_,?_⟩
  .exact(hBW.trans (h2.mono b0)).trans (d9.below (zD b0 h2.size) (λi hi e=>by omega))
  exact(hSP.trans (Spared.of_below h2)).trans (Spared.set d8 (.inl rfl))
 have e3:=aC f8;have i8:=aC a5;have g6:=aC d7;have HR:=aC hR;have b8:=aC b7;have HA:=aC hai;have HU:=eH u4 c5 hnr;have i9:S.ins.length<=1000000000:=HH.out.2.2.1.1;clear f8 a5 d7 hR b7 hai u1 u2 u3 u4 u5 u6 a8 hrs hnb c5 hnr
 go_loopw[10,11,12] (λv10 v11 i wr=>∃(q:Nat) (d:Bool) (zs:List IRec),i=.int .i64 q/\v11=.bool d/\q<=S.ins.length/\zs.length<=2*q/\OwnP W.heap.size wr 68 4 v10 (zs.map IRec.cells)/\cT (λr:IRec=>decide (num<r.num)) nr (is.drop q) d zs=R/\Below W.heap.size W wr) (λ_ _ i _=>(S.ins.length-intOf i).toNat)
 case atStart=>exact⟨0,false,[],rfl,rfl,by omega,by simp,.inl ⟨rfl,rfl⟩,HR.out,Below.refl _ _⟩
 obtain⟨q,d,zs,rfl,rfl,hq,hzl,hO,hre,hbw⟩:=hrel;have iB:Bel W wr:=⟨hbw⟩;obtain⟨iL,t0,tf,iG5,n0,n1,n2,n3⟩:=e3.out wr hbw;obtain⟨va,vn,vc,rfl⟩:=hO.form;have HO:=aC hO;clear hO;by_cases hlt:q<S.ins.length
 .have e4:q<is.length:=by have:=HU.out.1;omega
  obtain⟨r,hr⟩:=gAA e4;rw[qI _ _ _ q r d zs hr]at hre;obtain⟨ra,rn2,rc,hrev⟩:=i8.out q r hr;obtain⟨be,oe,he,iE0,iE,hce⟩:=HA.out wr hbw q r.cells (by rw[gM,hr];rfl);cases he;have c6:∀w2,Below W.heap.size W w2->BlockLt bi w2/\w2.cell? ⟨bi,q*4,none⟩=some (.int .i64 r.num)/\w2.cell? ⟨bi,q*4+1,none⟩=some (.bool r.dir)/\w2.cell? ⟨bi,q*4+2,none⟩=some r.ev/\w2.cell? ⟨bi,q*4+3,none⟩=some (.string r.data):=by intro w2 h2;obtain⟨be',oe',he,_,i2,hc⟩:=HA.out w2 h2 q r.cells (by rw[gM,hr];rfl);cases he;have h0:=hc 0 _ rfl;have h1:=hc 1 _ rfl;have h2:=hc 2 _ rfl;have h3:=hc 3 _ rfl;simp only[zM,zN]at h0 h1 h2 h3;exact⟨i2,h0,h1,h2,h3⟩
  have e5:(q:Int)<S.ins.length:=by omega
  clear hce hr;obtain⟨rn,rd,re,rs,ro⟩:=r;simp only at hrev;subst hrev;simp only at c6 hre;obtain⟨-,c0,c1,c2,c3⟩:=c6 wr hbw;have j0:=aC c6;clear c6;rcases d with _|_
  .rw[zA (by decide)]at hre;by_cases hA:num<rn
   .rw[zB (decide_eq_true hA)]at hre;have b1:=aC hre;clear hre;go_wp2_with(at_builtin;refine vC rfl (.tmp 112) (.tmp 114) rfl W.heap.size _ (.slice wr.heap.size 1 1) zs [nr] rfl (by go_simp) (HO.out.below (bel wr _)) (by rw[xB,g6.out];exact RowAt.single (Blk.new_i _ _ _ _) 4 1) (by simp;omega) (bel W _).size ?_)
    intro v' w' hg;have a1:=hg.on (HO.out.below (bel wr _)) (bel W _).size;have a0:=(bel W _).trans a1;have a2:OwnP W.heap.size w' 68 4 v' ((zs++[nr]).map IRec.cells):=by have:=hg.1;simpa using this
    have i2:Bel W w':=⟨a0⟩;obtain⟨iE2,d0,d1,d2,d3⟩:=j0.out w' a0;obtain⟨iL2,y0,yf,iG6,m0,m1,m2,m3⟩:=e3.out w' a0;have H2:=aC a2;clear hg a1 a2 a0 c0 c1 c2 c3 iE iL t0 tf iG5 n0 n1 n2 n3;go_wp2_with(at_builtin;refine vC rfl (.tmp 116) (.tmp 124) rfl W.heap.size _ _ (zs++[nr]) [(⟨rn,rd,.slice ra rn2 rc,rs,ro⟩:IRec)] rfl (by go_simp) (H2.out.below (bel w' _)) (RowAt.single (Blk.new_i _ _ _ _) 4 1) (by simp;omega) (bel W _).size ?_);intro v2 w2 hg;have a1:=hg.on (H2.out.below (bel w' _)) (bel W _).size;have g7:=(bel W _).trans a1;have g8:OwnP W.heap.size w2 68 4 v2 ((zs++[nr]++[(⟨rn,rd,.slice ra rn2 rc,rs,ro⟩:IRec)]).map IRec.cells):=by have:=hg.1;simpa using this
    have H3:=bJ g8 g7;clear hg a1 g8 g7;go_wp2;go_roundw
    case rel=>exact⟨q+1,true,_,by go_num,rfl,by omega,by simp;omega,H3.out.1,b1.out,H3.out.2⟩
    simp[intOf];omega
   rw[zA (by rw[yM hA];decide)]at hre;have b1:=aC hre;clear hre;go_wp2_with(at_builtin;refine vC rfl (.tmp 116) (.tmp 124) rfl W.heap.size _ _ zs [(⟨rn,rd,.slice ra rn2 rc,rs,ro⟩:IRec)] rfl (by go_simp) (HO.out.below (bel wr _)) (RowAt.single (Blk.new_i _ _ _ _) 4 1) (by simp;omega) (bel W _).size ?_);intro v' w' hg;have a1:=hg.on (HO.out.below (bel wr _)) (bel W _).size;have a0:=(bel W _).trans a1;have a2:OwnP W.heap.size w' 68 4 v' ((zs++[(⟨rn,rd,.slice ra rn2 rc,rs,ro⟩:IRec)]).map IRec.cells):=by have:=hg.1;simpa using this
   have H2:=bJ a2 a0;clear hg a1 a2 a0;go_wp2;go_roundw
   case rel=>exact⟨q+1,false,_,by go_num,rfl,by omega,by simp;omega,H2.out.1,b1.out,H2.out.2⟩
   simp[intOf];omega
  rw[zB rfl]at hre;have b1:=aC hre;clear hre;go_wp2_with(at_builtin;refine vC rfl (.tmp 116) (.tmp 124) rfl W.heap.size _ _ zs [(⟨rn,rd,.slice ra rn2 rc,rs,ro⟩:IRec)] rfl (by go_simp) (HO.out.below (bel wr _)) (RowAt.single (Blk.new_i _ _ _ _) 4 1) (by simp;omega) (bel W _).size ?_);intro v' w' hg;have a1:=hg.on (HO.out.below (bel wr _)) (bel W _).size;have a0:=(bel W _).trans a1;have a2:OwnP W.heap.size w' 68 4 v' ((zs++[(⟨rn,rd,.slice ra rn2 rc,rs,ro⟩:IRec)]).map IRec.cells):=by have:=hg.1;simpa using this
  have H2:=bJ a2 a0;clear hg a1 a2 a0;go_wp2;go_roundw
  case rel=>exact⟨q+1,true,_,by go_num,rfl,by omega,by simp;omega,H2.out.1,b1.out,H2.out.2⟩
  simp[intOf];omega
 rw[aAD _ _ _ q d zs (by have:=HU.out.1;omega)]at hre;have e5:¬(q:Int)<S.ins.length:=by omega
 rcases d with _|_
 .rw[zA (by decide)]at hre;have b1:=aC hre;clear hre;go_wp2_with(at_builtin;refine vC rfl (.tmp 128) (.tmp 130) rfl W.heap.size _ (.slice wr.heap.size 1 1) zs [nr] rfl (by go_simp) (HO.out.below (bel wr _)) (by rw[xB,g6.out];exact RowAt.single (Blk.new_i _ _ _ _) 4 1) (by simp;omega) (bel W _).size ?_)
  intro v' w' hg;have a1:=hg.on (HO.out.below (bel wr _)) (bel W _).size;have a0:=(bel W _).trans a1;have a2:OwnP W.heap.size w' 68 4 v' ((zs++[nr]).map IRec.cells):=by have:=hg.1;simpa using this
  rw[b1.out]at a2;have i2:Bel W w':=⟨a0⟩;obtain⟨iL2,y0,yf,iG6,m0,m1,m2,m3⟩:=e3.out w' a0;have hf:=b8.out w' v' a2 a0;obtain⟨wa,wn,wc,rfl⟩:=a2.form;have HF:=aC hf;clear hg a1 a2 a0 hf t0 tf iL iG5 n0 n1 n2 n3 m0 m1 m2 m3 iG6;go_upto_region 24 with fail;refine aD (F:=λwz=>Blk wz b #[.slice wa wn wc,.slice oa on oc,.slice gm S.made.length capm] 26/\StOwn B wz (.slice wa wn wc) (.slice oa on oc) (.slice gm S.made.length capm) (mkK S K0 x nm k m (kd==1))/\Blk wz (w.heap.size+1) () 52/\Below B w wz/\Spared b w wz) HF.out ?_;rintro wz ⟨f1,f2,f3,f4,f5⟩;have l3:=f3.lt;have g0:=f3.cell 0;have g1:=f3.cell 1;have g2:=f3.cell 2;have g3:=f3.cell 3;have g4:=f3.cell 4;have e6:=f3.cell 5;have j1:=f3.frozen 0;have j2:=f3.frozen 1;have j3:=f3.frozen 2;have j4:=f3.frozen 3;have j5:=f3.frozen 4;have j6:=f3.frozen 5;simp at g0 g1 g2 g3 g4 e6;have HZ:=qM f1 f2 f3 f4 f5;have b2:∀ww,vR ww 92 #[.int .i64 0] (.agg ()):=λww=>aKN 0 ww;clear f1 f2 f3 f4 f5;go_wp2_with((go_at_call 92;refine aE (b2 _) λp=>?_));exact xD (v:=aR 0 0 0) (by unfold results;simp only[results93,aR];go_simp) rfl ⟨rfl,nJ (r:=w.heap.size+1) lY (by omega) b3 hB HZ.out.2.2.1 HZ.out.1 HZ.out.2.1 HZ.out.2.2.2.1 HZ.out.2.2.2.2⟩
 rw[zB rfl]at hre;subst hre;have hf:=b8.out wr _ HO.out hbw;have HF:=aC hf;clear hf n0 n1 n2 n3 iG5;go_upto_region 24 with fail;refine aD (F:=λwz=>Blk wz b #[.slice va vn vc,.slice oa on oc,.slice gm S.made.length capm] 26/\StOwn B wz (.slice va vn vc) (.slice oa on oc) (.slice gm S.made.length capm) (mkK S K0 x nm k m (kd==1))/\Blk wz (w.heap.size+1) () 52/\Below B w wz/\Spared b w wz) HF.out ?_;rintro wz ⟨f1,f2,f3,f4,f5⟩;have l3:=f3.lt;have g0:=f3.cell 0;have g1:=f3.cell 1;have g2:=f3.cell 2;have g3:=f3.cell 3;have g4:=f3.cell 4;have e6:=f3.cell 5;have j1:=f3.frozen 0;have j2:=f3.frozen 1;have j3:=f3.frozen 2;have j4:=f3.frozen 3;have j5:=f3.frozen 4;have j6:=f3.frozen 5;simp at g0 g1 g2 g3 g4 e6;have HZ:=qM f1 f2 f3 f4 f5;have b2:∀ww,vR ww 92 #[.int .i64 0] (.agg ()):=λww=>aKN 0 ww;clear f1 f2 f3 f4 f5;go_wp2_with((go_at_call 92;refine aE (b2 _) λp=>?_));exact xD (v:=aR 0 0 0) (by unfold results;simp only[results93,aR];go_simp) rfl ⟨rfl,nJ (r:=w.heap.size+1) lY (by omega) b3 hB HZ.out.2.2.1 HZ.out.1 HZ.out.2.1 HZ.out.2.2.2.1 HZ.out.2.2.2.2⟩
theorem bE (k:Int) (ww:World):vR ww 92 #[.int .i64 k] (.agg #[k,.int .i64 0,.int .i64 0,false,.string ⟨#[]⟩,.slice none 0 0]):=aKN k ww
theorem aUF (b:Nat) (S:PSt) (iv ov mv:Value) (kd k fd off nu:Int) (path p2 dt:ByteArray) (w:World) (hb:Blk w b #[iv,ov,mv] 26) (ho:StRead w iv ov mv S) (hfR:FineR S) (D:Int) (nm:ByteArray) (C:Int) (hpar:bO S path=(D,nm,C)) (hC:C≠0):
 vR w 93 #[.pointer b,.agg #[kd,k,fd,off,nu,path,p2,dt]] (aR C 0 0):=by
 have a0:=c45 ho hfR hpar;have a1:=λww=>bE C ww;obtain⟨ai,ni,ci,ao,no,co,am,nm',cm,rfl,rfl,rfl⟩:=ho.slices;obtain⟨iL,s0,s1,s2⟩:=gR hb;have a2:(C !=0)=true:=by simpa using hC
 clear ho hb hfR hpar;unfold vR;go_in;go_upto_region 1 with fail;refine qR ?_
 repeat(go_big_quiet_step ((with_reducible first|refine cI (a0 _ (bel _ _))|refine cJ (a0 _ (bel _ _)))))
 refine QN λp=>?_;go_wp2_with(first|(go_at_call 92;refine aE (a1 _) λp=>?_));exact xD (v:=aR C 0 0) (by unfold results;simp only[results93,aR];go_simp) rfl ⟨rfl,bel w _⟩
theorem aUG (b:Nat) (S:PSt) (iv ov mv:Value) (kd k fd off nu:Int) (path p2 dt:ByteArray) (w:World) (hb:Blk w b #[iv,ov,mv] 26) (ho:StRead w iv ov mv S) (hfR:FineR S) (D:Int) (nm:ByteArray) (C:Int) (hpar:bO S path=(D,nm,C)) (hC:C=0) (hE:aX S D nm≠0):
 vR w 93 #[.pointer b,.agg #[kd,k,fd,off,nu,path,p2,dt]] (aR 2 0 0):=by
 have a0:=c45 ho hfR hpar;have a2:=λww=>bE 2 ww;have a1:vB w 118 #[.agg #[iv,ov,mv],.int .i64 D,.string nm] (.int .i64 (aX S D nm)):=λww hb=>iV S iv ov mv D nm ww (ho.below hb (zC _)) hfR.wf;obtain⟨ai,ni,ci,ao,no,co,am,nm',cm,rfl,rfl,rfl⟩:=ho.slices;obtain⟨iL,s0,s1,s2⟩:=gR hb;subst hC;generalize aX S D nm=E at a1 hE;have a3:(E !=0)=true:=by simpa using hE
 clear ho hb hfR hpar;unfold vR;go_in;go_upto_region 1 with fail;refine qR ?_
 repeat(go_big_quiet_step ((with_reducible first|refine cI (a0 _ (bel _ _))|refine cJ (a0 _ (bel _ _)))))
 refine QN λp=>?_;go_wp2_with(first|(go_at_call 118;refine aE (a1 _ (bel _ _)) λp=>?_)|(go_at_call 92;refine aE (a2 _) λp=>?_));exact xD (v:=aR 2 0 0) (by unfold results;simp only[results93,aR];go_simp) rfl ⟨rfl,bel w _⟩
theorem aUH (b:Nat) (S:PSt) (iv ov mv:Value) (kd k fd off nu:Int) (path p2 dt:ByteArray) (w:World) (hb:Blk w b #[iv,ov,mv] 26) (ho:StRead w iv ov mv S) (hfR:FineR S) (D:Int) (nm:ByteArray) (C:Int) (hpar:bO S path=(D,nm,C)) (hC:C=0) (hE:aX S D nm=0) (K0:Nat) (x:PIn) (hat0:bP S D=K0) (hx:S.ins[K0]? =some x) (hns:nm.size<=1000000000) (hes:∀e∈x.ents,e.name.size<=1000000000) (hF:decide (4<=eG (bA nm) ⟨#[]⟩ x.ents 0)=true):
 vR w 93 #[.pointer b,.agg #[kd,k,fd,off,nu,path,p2,dt]] (aR 5 0 0):=by
 have a1:=c45 ho hfR hpar;have a3:=λww=>bE 5 ww;have a2:vB w 118 #[.agg #[iv,ov,mv],.int .i64 D,.string nm] (.int .i64 (aX S D nm)):=λww hb=>iV S iv ov mv D nm ww (ho.below hb (zC _)) hfR.wf;have a0:vB w 121 #[.agg #[iv,ov,mv],.int .i64 D,.string nm,.string ⟨#[]⟩] (.bool (decide (4<=eG (bA nm) ⟨#[]⟩ x.ents 0))):=λww hb=>uC S iv ov mv D nm ⟨#[]⟩ K0 x ww (ho.below hb (zC _)) hfR.wf hat0 hx hns hes;obtain⟨ai,ni,ci,ao,no,co,am,nm',cm,rfl,rfl,rfl⟩:=ho.slices;obtain⟨iL,s0,s1,s2⟩:=gR hb;subst hC;rw[hE]at a2;rw[hF]at a0;clear ho hb hfR hpar hx hes hat0 hF;unfold vR;go_in;go_upto_region 1 with fail;refine qR ?_
 repeat(go_big_quiet_step ((with_reducible first|refine cI (a1 _ (bel _ _))|refine cJ (a1 _ (bel _ _)))))
 refine QN λp=>?_;go_wp2_with(first|(go_at_call 118;refine aE (a2 _ (bel _ _)) λp=>?_));refine qR ?_
 repeat(go_big_quiet_step ((with_reducible first|refine cI (a0 _ (bel _ _))|refine cJ (a0 _ (bel _ _)))))
 refine QN λp=>?_;go_wp2_with(first|(go_at_call 92;refine aE (a3 _) λp=>?_));exact xD (v:=aR 5 0 0) (by unfold results;simp only[results93,aR];go_simp) rfl ⟨rfl,bel w _⟩
theorem aUI (b:Nat) (S:PSt) (iv ov mv:Value) (kd k fd off nu:Int) (path p2 dt:ByteArray) (w:World) (hb:Blk w b #[iv,ov,mv] 26) (ho:StRead w iv ov mv S) (hfR:FineR S) (D:Int) (nm:ByteArray) (C:Int) (hpar:bO S path=(D,nm,C)) (hC:C=0) (hE:aX S D nm=0) (K0:Nat) (x:PIn) (hat0:bP S D=K0) (hx:S.ins[K0]? =some x) (hns:nm.size<=1000000000) (hes:∀e∈x.ents,e.name.size<=1000000000) (hF:decide (4<=eG (bA nm) ⟨#[]⟩ x.ents 0)=false) (k0:Nat) (hk:k=k0) (m:Int) (hm:S.made[k0]? =some m) (hm32:32<=m):
 vR w 93 #[.pointer b,.agg #[kd,k,fd,off,nu,path,p2,dt]] (aR 5 0 0):=by
 have a1:=c45 ho hfR hpar;have a3:=λww=>bE 5 ww;have a2:vB w 118 #[.agg #[iv,ov,mv],.int .i64 D,.string nm] (.int .i64 (aX S D nm)):=λww hb=>iV S iv ov mv D nm ww (ho.below hb (zC _)) hfR.wf;have a0:vB w 121 #[.agg #[iv,ov,mv],.int .i64 D,.string nm,.string ⟨#[]⟩] (.bool (decide (4<=eG (bA nm) ⟨#[]⟩ x.ents 0))):=λww hb=>uC S iv ov mv D nm ⟨#[]⟩ K0 x ww (ho.below hb (zC _)) hfR.wf hat0 hx hns hes;obtain⟨am,cm,rfl,hatm⟩:=ho.2.1.at_;obtain⟨bm,om,rfl,iM0,iM,hcm⟩:=hatm w (Below.refl _ _) k0 (aJ m) (by rw[gM,hm];rfl);have m0:=hcm 0 _ rfl;rw[Nat.mul_one,zN]at m0;have a5:k0<S.made.length:=(gI.1 hm).1;have a6:(k0:Int)<S.made.length:=by omega
 subst hk;have a4:decide (32<=m)=true:=decide_eq_true hm32;obtain⟨ai,ni,ci,ao,no,co,e1,e2,e3⟩:∃ai ni ci ao no co,iv=.slice ai ni ci/\ov=.slice ao no co/\True:=by obtain⟨ai,ni,ci,ao,no,co,am,nm',cm,rfl,rfl,-⟩:=ho.slices;exact⟨_,_,_,_,_,_,rfl,rfl,trivial⟩
 subst e1 e2;rw[lM]at *;obtain⟨iL,s0,s1,s2⟩:=gR hb;subst hC;rw[hE]at a2;rw[hF]at a0;clear ho hb hfR hpar hx hes hat0 hF hatm hcm hm e3;unfold vR;go_in;go_upto_region 1 with fail;refine qR ?_
 repeat(go_big_quiet_step ((with_reducible first|refine cI (a1 _ (bel _ _))|refine cJ (a1 _ (bel _ _)))))
 refine QN λp=>?_;go_wp2_with(first|(go_at_call 118;refine aE (a2 _ (bel _ _)) λp=>?_));refine qR ?_
 repeat(go_big_quiet_step ((with_reducible first|refine cI (a0 _ (bel _ _))|refine cJ (a0 _ (bel _ _)))))
 refine QN λp=>?_;go_wp2_with(first|(go_at_call 92;refine aE (a3 _) λp=>?_));exact xD (v:=aR 5 0 0) (by unfold results;simp only[results93,aR];go_simp) rfl ⟨rfl,bel w _⟩
theorem aPZ (B b:Nat) (S:PSt) (iv ov mv:Value) (kd core f0 off nu:Int) (path p2 dt:ByteArray) (num:Int) (K:Nat) (x:PIn) (J:Int) (w:World) (hb:Blk w b #[iv,ov,mv] 26) (ho:StOwn B w iv ov mv S) (hB:B<=w.heap.size) (hBb:B<=b) (hfR:FineR S) (hfind:eY S path=(num,0))
 (hat:bP S num=K) (hx:S.ins[K]? =some x) (hd:x.dir=false) (hJ0:0<=J) (hJ3:J<=3) (hJf:oE S core J=0) (hJl:∀i:Int,0<=i->i<J->oE S core i≠0):
 Calls prog 94 #[.pointer b,.agg #[kd,core,f0,off,nu,path,p2,dt],.int .i64 (-1)] w λe w'=>e=.returned (.tuple #[aR 0 J 0,true])/\Below B w w'/\Spared b w w'/\∃iv' ov' mv',Blk w' b #[iv',ov',mv'] 26/\StOwn B w' iv' ov' mv' { S with op:=cT (fN core J) ⟨core,J,num⟩ S.op false []}:=by
 have a3:=hfR.wf;have a9:=c46 ho.read hfR hfind;have b0:=vK ho.read a3.1 hat;have a6:∀i ww,Bl w ww->vR ww 43 #[.agg #[iv,ov,mv],.int .i64 core,.int .i64 i] (.int .i64 (oE S core i)):=λi ww hb=>aWV S iv ov mv core i ww (ho.read.below hb (zC _)) a3.2.1;obtain⟨hxl,-⟩:=gI.1 hx;obtain⟨bi,cap,rfl⟩:=ho.ins_form (by omega);obtain⟨ma,mn,mc,rfl⟩:=ho.2.1.form;obtain⟨oa,on,oc,rfl⟩:=ho.1.form;obtain⟨a,cap',e1,hai⟩:=ho.read.ins_at2;cases e1;obtain⟨bi',oi,ev,he,iI0,hoi,her,hci⟩:=hai K x hx;cases he;obtain⟨iI,-,x1,-,-⟩:=hci w (Below.refl _ _);rw[hd]at x1;simp only[zM]at x1;have b8:(K:Int)<S.ins.length:=by omega
 have iL:=hb.lt;have a7:b<w.heap.size:=hb.lt.lt;obtain⟨-,s0,s1,s2⟩:=gR hb;have b2:=a3.2.1;have HH:=mJ hb ho a3 trivial;clear hb ho a3 hx hd hat hai her hci hoi hfR hfind;go_in;go_upto_region 1 with fail;refine qR ?_
 repeat(go_big_quiet_step ((with_reducible first|refine cI (a9 _ (bel _ _))|refine cJ (a9 _ (bel _ _)))))
 refine QN λp=>?_;go_wp2;refine qR ?_
 repeat(go_big_quiet_step ((with_reducible first|refine cI (b0 _ (bel _ _))|refine cJ (b0 _ (bel _ _)))))
 refine QN λp=>?_;go_wp2_with fail;refine aD (F:=λwa=>StOwn B wa (.slice bi S.ins.length cap) (.slice oa on oc) (.slice ma mn mc) S/\Blk wa b #[.slice bi S.ins.length cap,.slice oa on oc,.slice ma mn mc] 26/\Blk wa w.heap.size #[kd,core,f0,off,nu,path,p2,dt] 28/\Blk wa (w.heap.size+1) () 52/\Bl w wa) ⟨HH.out.2.1.on (bel w _),aB HH.out.1 (bel w _),aB (Blk.new w #[kd,core,f0,off,nu,path,p2,dt] 28) (bel _ _),aB (Blk.new_i (w.alloc (.cells #[kd,core,f0,off,nu,path,p2,dt] 28)) () 52 (w.heap.size+1)) (bel _ _),bel w _⟩ ?_;clear s0 s1 s2 x1 iI iL;rintro wa ⟨ho,hb,hbc,hbr,hbw⟩;have HW:=qM ho hb hbc hbr hbw;clear ho hb hbc hbr hbw
 go_loopw[10,11] (λv10 v11 wr=>∃i j:Int,v11=.int .i64 i/\v10=.int .i64 j/\-1<=i/\i<=3/\((J<=i/\(j=-1\/i<j))\/(i<J/\j=J))/\Bl wa wr) (λ_ i _=>(intOf i+1).toNat)
 case atStart=>exact⟨3,-1,rfl,rfl,by omega,by omega,.inl ⟨hJ3,.inl rfl⟩,Below.refl _ _⟩
 obtain⟨i,j,rfl,rfl,hi1,hi3,hj,hbw⟩:=hrel;have b1:Bl w wr:=HW.out.2.2.2.2.trans (hbw.mono HW.out.2.2.2.2.size);have iB:Bel w wr:=⟨b1⟩;have hb:=aB HW.out.2.1 hbw;have hc:=aB HW.out.2.2.1 hbw;have iL:=hb.lt;have iC:=hc.lt;have s0:=hb.cell 0;have s1:=hb.cell 1;have s2:=hb.cell 2;have q1:=hc.cell 1;simp at s0 s1 s2 q1;clear hb hc;by_cases h0:0<=i
 .have a0:=λww hb=>a6 i ww hb
  have wi:IntKind.i64.wrap (i-1)=i-1:=I64.wrap ⟨by omega,by omega⟩;have a1:(oE S core i=0->((J<=i-1/\(i=-1\/i-1<i))\/(i-1<J/\i=J)))/\(oE S core i≠0->((J<=i-1/\(j=-1\/i-1<j))\/(i-1<J/\j=J))):=by
   refine⟨λh0'=>?_,λh0'=>?_⟩
   .by_cases hlt:i<J
    .exact absurd h0' (hJl i h0 hlt)
    by_cases he:i=J
    .exact .inr ⟨by omega,he⟩
    exact .inl ⟨by omega,.inr (by omega)⟩
   have b9:i≠J:=λe=>h0' (by rw[e];exact hJf);rcases hj with⟨h1,h2⟩|⟨h1,h2⟩
   .exact .inl ⟨by omega,by omega⟩
   exact .inr ⟨by omega,h2⟩
  have a4:=aC a1;clear hj a6 a1 hJf hJl hJ0 hJ3;generalize oE S core i=fi at a0 a4;by_cases hfi:fi=0
  .subst hfi;have hr:=a4.out.1 rfl;have HR:=aC hr;clear hr a4
   go_upto_region 10 with fail;refine qR ?_
   repeat(go_big_quiet_step ((with_reducible first|refine cI (a0 _ (bel _ _))|refine cJ (a0 _ (bel _ _)))))
   refine QN λp=>?_;go_wp2;go_roundw
   case rel=>exact⟨i-1,i,by go_num,rfl,by omega,by omega,HR.out,bel wr _ |> λh=>hbw.trans (h.mono hbw.size)⟩
   simp[intOf];omega
  have c0:(fi==0)=false:=by simpa using hfi
  have hr:=a4.out.2 hfi;have HR:=aC hr;clear hr a4;go_upto_region 10 with fail;refine qR ?_
  repeat(go_big_quiet_step ((with_reducible first|refine cI (a0 _ (bel _ _))|refine cJ (a0 _ (bel _ _)))))
  refine QN λp=>?_;go_wp2;go_roundw
  case rel=>exact⟨i-1,j,by go_num,rfl,by omega,by omega,HR.out,bel wr _ |> λh=>hbw.trans (h.mono hbw.size)⟩
  simp[intOf];omega
 obtain rfl:i=-1:=by omega
 obtain rfl:J=j:=by rcases hj with⟨h1,h2⟩|⟨h1,h2⟩<;>omega
 have a2:=λww hb=>a6 J ww hb;rw[hJf]at a2;have c1:¬J<0:=by omega
 have b3:¬4<=J:=by omega
 have b4:decide (4<=J)=false:=yM b3;clear hj a6 hJl hJf;go_wp2;refine qR ?_
 repeat(go_big_quiet_step ((with_reducible first|refine cI (a2 _ (bel _ _))|refine cJ (a2 _ (bel _ _)))))
 refine QN λp=>?_;go_upto_region 18 with fail;refine aD (F:=λwz=>StOwn B wz (.slice bi S.ins.length cap) (.slice oa on oc) (.slice ma mn mc) S/\Blk wz b #[.slice bi S.ins.length cap,.slice oa on oc,.slice ma mn mc] 26/\Blk wz w.heap.size #[kd,core,f0,off,nu,path,p2,dt] 28/\Blk wz (w.heap.size+1) () 52/\Bl w wz) ⟨(HW.out.1.on hbw).on (bel wr _),aB (aB HW.out.2.1 hbw) (bel wr _),aB (aB HW.out.2.2.1 hbw) (bel wr _),aB (aB HW.out.2.2.2.1 hbw) (bel wr _),bel w _⟩ ?_;clear s0 s1 s2 q1 iL iC iB b1 hbw HW;rintro wz ⟨ho,hb,hc,hr,hbw⟩;have b5:B<=wz.heap.size:=zD hB hbw.size;have iC:=hc.lt;have q1:=hc.cell 1;simp at q1;have a8:Calls prog 123 #[.pointer b,core,J,num] wz λe w'=>e=.returned (.tuple #[])/\Below B wz w'/\Keep (λg=>g=b) wz w'/\∃ov',Blk w' b #[.slice bi S.ins.length cap,ov',.slice ma mn mc] 26/\StOwn B w' (.slice bi S.ins.length cap) ov' (.slice ma mn mc) { S with op:=cT (fN core J) ⟨core,J,num⟩ S.op false []}:=aWT B b S _ _ _ core J num wz hb ho b5 hBb b2;have HZ:=eH hc hr hbw;clear ho hb hc hr hbw;go_upto_region 19 with(go_at_call 123;(refine a8.mono ?_);rintro e w5 ⟨rfl,hb5,hk5,ov5,hb55,hs5⟩;have a5:=mJ hb5 hk5 hb55 hs5;clear hb5 hk5 hb55 hs5)
 have f3:=a5.out.2.1.blk HZ.out.2.1 (by omega);have l3:=f3.lt;have g0:=f3.cell 0;have g1:=f3.cell 1;have g2:=f3.cell 2;have g3:=f3.cell 3;have g4:=f3.cell 4;have b6:=f3.cell 5;have c2:=f3.frozen 0;have c3:=f3.frozen 1;have c4:=f3.frozen 2;have c5:=f3.frozen 3;have c6:=f3.frozen 4;have c7:=f3.frozen 5;simp at g0 g1 g2 g3 g4 b6;have b7:=aC f3;clear f3 q1 iC;go_wp2;exact xD (v:=.tuple #[aR 0 J 0,true]) (by unfold results;simp only[results94,aR];go_simp) rfl ⟨rfl,nJ (r:=w.heap.size+1) lF (by omega) a7 hB b7.out a5.out.2.2.1 a5.out.2.2.2 ((HZ.out.2.2.mono hB).trans a5.out.1) ((Spared.of_below HZ.out.2.2).trans (λg c t hb hn _=>a5.out.2.1.blk hb hn))⟩
end Go.Proofs.YtmkapobnfigedaaGreatDoor
namespace Go
section
variable {P:Program} {l:List Oper} {Q:Exit->Act->World->Prop}
theorem jV {id:Nat} (R:(Nat->Prop)->(Nat->Value)->World->Prop) {a0:Act} {w:World} (h0:∀σ,R (λj=>l.length<=j) σ w.drew)
 (hstep:EachOp (λi o=>∀(D:Nat->Prop) (σ:Nat->Value) (w:World) (a:Act),OB l a0 i o R D σ w a->o.eff P a w λv w'=>R (λj=>j=i\/D j) (jH σ i v) w') 0 l)
 (hend:∀σ w,R (λ_=>True) σ w->Q .normal (dM σ 0 l a0) w) (hm:P.follows .mixedOrders=true:=by kernel_rfl) (hB:(Region.invB l&&l.all λo=>o.guard==none)=true:=by kernel_rfl) (hsz:((eN l).all λd=>decide (d<a0.tmps.size))=true:=by kernel_rfl):(Code.region id l.toArray true).wp P Q a0 w:=by
 simp only[zE,yY,beq_iff_eq]at hB;refine lT R h0 (EachOp.imp (λj o ho hp D σ w a h _=>?_) hstep) hend hm hB.1 hsz;have hw:Region.wanted o (yielded l.toArray a.tmps)=true:=by unfold Region.wanted;rw[hB.2 o (mG ho)]
 exact⟨λ_=>Oper.wpW (hp D σ w a h),λe=>by rw[hw]at e;cases e⟩
end
end Go
namespace Go.Proofs.YtmkapobnfigedaaGreatDoor
open Go.Proofs.Tryz List Go.RowKit
section
structure RA (N:Nat) (V:Nat->Value) (A T:Nat) (z y:Array Value) (t:TypeId) (w0:World) (D:Nat->Prop) (σ:Nat->Value) (w:World):Prop where
 vals:∀i,i<N->i≠A->i≠T->D i->σ i=V i
 al:D A->∃b,σ A=.pointer (some ⟨b,0,none⟩)/\w0.heap.size<=b/\(Blk w b z t\/Blk w b y t)/\(D T->Blk w b y t)
 sd:D T->D A
 below:Bl w0 w
section
variable {N A T:Nat} {V:Nat->Value} {z y:Array Value} {t:TypeId} {w0 w w':World} {D:Nat->Prop} {σ:Nat->Value}
theorem RA.zero (hA:A<N) (hT:T<N) (hb:Bl w0 w):RA N V A T z y t w0 (λj=>N<=j) σ w:=
 ⟨λi hi _ _ h=>absurd h (by omega),λh=>absurd h (by omega),λh=>absurd h (by omega),hb⟩
theorem RA.on (h:RA N V A T z y t w0 D σ w) (hb:Bl w w'):RA N V A T z y t w0 D σ w':=
 ⟨h.vals,λhd=>by
  obtain⟨b,e,hl,hc,hs⟩:=h.al hd;exact⟨b,e,hl,hc.imp (λx=>aB x hb) (λx=>aB x hb),λh=>aB (hs h) hb⟩,h.sd,h.below.trans (hb.mono h.below.size)⟩
theorem RA.val (h:RA N V A T z y t w0 D σ w) (i:Nat) (hA:A≠i) (hT:T≠i):RA N V A T z y t w0 (λj=>j=i\/D j) (jH σ i (V i)) w:=
 ⟨λk hk h1 h2 hd=>by
  by_cases e:k=i
  .subst e;exact zB rfl
  .exact(zA e).trans (h.vals k hk h1 h2 (hd.resolve_left e)),
  λhd=>by
   obtain⟨b,e,hl,hc,hs⟩:=h.al (hd.resolve_left hA);exact⟨b,(zA hA).trans e,hl,hc,λh=>hs (h.resolve_left hT)⟩,
  λhd=>.inr (h.sd (hd.resolve_left hT)),h.below⟩
theorem RA.alloc (h:RA N V A T z y t w0 D σ w) (hAT:T≠A) (hn:¬D A):RA N V A T z y t w0 (λj=>j=A\/D j) (jH σ A (.pointer w.heap.size)) (w.alloc (.cells z t)):=
 ⟨λk hk h1 h2 hd=>(zA h1).trans (h.vals k hk h1 h2 (hd.resolve_left h1)),
  λ_=>⟨w.heap.size,zB rfl,h.below.size,.inl (Blk.new w z t),λhd=>absurd (h.sd (hd.resolve_left hAT)) hn⟩,
  λ_=>.inl rfl,h.below.trans ((bel w _).mono h.below.size)⟩
theorem RA.store (h:RA N V A T z y t w0 D σ w) (hAT:A≠T) (hd:D A) {b:Nat} (eb:σ A=.pointer b) (hl:w0.heap.size<=b) (hK:Keep (λg=>g=b) w w') (hn:Blk w' b y t):RA N V A T z y t w0 (λj=>j=T\/D j) (jH σ T undef) w':=
 ⟨λk hk h1 h2 hd=>(zA h2).trans (h.vals k hk h1 h2 (hd.resolve_left h2)),
  λ_=>⟨b,(zA hAT).trans eb,hl,.inr hn,λ_=>hn⟩,
  λ_=>.inr hd,h.below.trans (hK.below h.below.size (λi hi e=>by omega))⟩
end
section
variable {P:Program} {l:List Oper} {a0 a:Act} {i:Nat} {o:Oper} {D:Nat->Prop} {σ:Nat->Value} {N A T:Nat} {V:Nat->Value} {z y:Array Value} {t:TypeId} {w0 w:World}
theorem gK (h:OB l a0 i o (RA N V A T z y t w0) D σ w a) (j d:Nat) (hj:j<N:=by decide) (hA:j≠A:=by decide) (hT:j≠T:=by decide) (h1:o.waits.contains j=true:=by kernel_rfl) (h2:(l[j]?).bind Oper.dst=some d:=by kernel_rfl):(a.tmps[d]?).getD undef=V j:=aJB h j d (h.r.vals j hj hA hT (h.hw j h1)) h2
theorem jJ (h:OB l a0 i o (RA N V A T z y t w0) D σ w a) (hx:(execOp a.eval o).run P w=.ok (.value (V i)) w) (hA:A≠i:=by decide) (hT:T≠i:=by decide):o.eff P a w λv w'=>RA N V A T z y t w0 (λj=>j=i\/D j) (jH σ i v) w':=by unfold Oper.eff;rw[hx];exact h.r.val i hA hT
end
theorem aLW {P:Program} {o:Oper} {a:Act} {w w':World} {K:Value->World->Prop} (h:(execOp a.eval o).run P w=.ok .skip w') (hk:K undef w'):o.eff P a w K:=by unfold Oper.eff;rw[h];exact hk
def RefOut (B b:Nat) (w:World) (X:Except Int PSt) (e:Ending) (w':World):Prop:=
 match X with
 |.error k=>e=.returned (aR k 0 0)/\Bl w w'
 |.ok S'=>e=.returned (aR 0 0 0)/\Below B w w'/\Spared b w w'/\∃iv' ov' mv',Blk w' b #[iv',ov',mv'] 26/\StOwn B w' iv' ov' mv' S'
theorem RefOut.err {B b:Nat} {w w':World} {k:Int} (h:Bl w w'):RefOut B b w (.error k) (.returned (aR k 0 0)) w':=⟨rfl,h⟩
theorem RefOut.done {B b:Nat} {w w':World} {S':PSt} (h:Below B w w'/\Spared b w w'/\∃iv' ov' mv',Blk w' b #[iv',ov',mv'] 26/\StOwn B w' iv' ov' mv' S'):RefOut B b w (.ok S') (.returned (aR 0 0 0)) w':=⟨rfl,h⟩
def aEN (w:World) (b:Nat) (c0 c1 c2 c3:Value):World:=(((w.setCell b c0).setCell ⟨b,1,none⟩ c1).setCell ⟨b,2,none⟩ c2).setCell ⟨b,3,none⟩ c3
theorem tO (w:World) (b:Nat) (c0 c1 c2 c3:Value):Keep (λg=>g=b) w (aEN w b c0 c1 c2 c3):=
 ((((Keep.refl (λg=>g=b) w).setCell (p:=b) (.inl rfl) c0).setCell (p:=⟨b,1,none⟩) (.inl rfl) c1).setCell (p:=⟨b,2,none⟩) (.inl rfl) c2).setCell (p:=⟨b,3,none⟩) (.inl rfl) c3
theorem wW {w:World} {b:Nat} {t:TypeId} {d0 d1 d2 d3:Value} (h:Blk w b #[d0,d1,d2,d3] t) (c0 c1 c2 c3:Value):Blk (aEN w b c0 c1 c2 c3) b #[c0,c1,c2,c3] t:=by have h:=(((h.set_ 0 c0).set_ 1 c1).set_ 2 c2).set_ 3 c3;simpa only[aEN,sA,sZ,sS]using h
end
def aKW (S:PSt) (rec:Int->Option Bool):List PEnt->Option Bool
 |[]=>some false
 | e::r=>match S.ins[(bP S e.num).toNat]? with
   |none=>none
   |some z=>if z.dir=true then(match rec e.num with|none=>none|some true=>some true|some false=>aKW S rec r)else aKW S rec r
def iY (S:PSt) (dir:Int):Nat->Int->Option Bool
 |0,_=>none
 | n+1,top=>if dir=top then some true else match S.ins[(bP S top).toNat]? with
   |none=>none
   |some x=>aKW S (iY S dir n) x.ents
theorem aMU {S:PSt} {n:Int} (h:0<=bP S n):∃(k:Nat) (x:PIn),bP S n=k/\S.ins[k]? =some x:=by
 rcases fE S n with h'|⟨h1,h2⟩
 .omega
 refine⟨(bP S n).toNat,_,by omega,gE (by omega)⟩
theorem aQH (S:PSt) (iv ov mv:Value) (dir:Int) (hf:FineR S):∀(n:Nat) (top:Int) (B:Bool),0<=bP S top->iY S dir n top=some B->∀w,StRead w iv ov mv S->
 vR w 167 #[.agg #[iv,ov,mv],.int .i64 dir,.int .i64 top] (.bool B):=by
 intro n
 induction n with
 |zero=>intro top B _ h;cases h
 | succ n ih=>
   intro top B h0 hB w ho;obtain⟨K,x,hat,hx⟩:=aMU h0;unfold iY at hB;rw[hat]at hB;simp only[zJ]at hB;rw[hx]at hB;have a4:=vK ho hf.wf.1 hat;have b2:=(hf.wf.2.2.2.1 x (mG hx)).2.1;obtain⟨hxl,-⟩:=gI.1 hx;have a5:=λe he=>hf.found x (mG hx) e he;obtain⟨a1,n1',c1,ao,no,co,am,nm',cm,rfl,rfl,rfl⟩:=ho.slices;obtain⟨ai,ci,e1,hai⟩:=ho.ins_at2;cases e1;obtain⟨bi,oi,ev,he,iI0,hoi,her,hci⟩:=hai K x hx;subst he;obtain⟨ea,ec,rfl,hae⟩:=her.at_;rw[lM]at hci;have b3:(K:Int)<S.ins.length:=by omega
   have HO:=mJ ho hae hci hai;by_cases hdt:dir=top
   .rw[zB hdt]at hB;cases hB;clear ho hx hai hae hci her ih a5 a4
    unfold vR;go_in;go_wp2;go_ret;exact⟨rfl,bel w _⟩
   rw [zA hdt]at hB;have HB:=aC hB;clear ho hx hai hae hci her hB h0;unfold vR;go_in;go_upto_region 4 with(go_at_call 85;refine aE (a4 _ (bel _ _)) λp=>?_)
   refine aD (F:=λwa=>Blk wa w.heap.size #[.slice (some ⟨bi,oi,none⟩) S.ins.length c1,.slice ao no co,.slice am nm' cm] 26/\Bl w wa) ⟨aB (Blk.new w #[.slice (some ⟨bi,oi,none⟩) S.ins.length c1,.slice ao no co,.slice am nm' cm] 26) (bel _ _),bel w _⟩ ?_;rintro W ⟨hb,a2⟩;have HW:=bJ hb a2;clear hb a2 a4;go_wp2
   go_loopw[8] (λv8 wr=>∃q:Nat,v8=.int .i64 q/\q<=x.ents.length/\aKW S (iY S dir n) (x.ents.drop q)=some B/\Below W.heap.size W wr) (λv8 _=>(x.ents.length-intOf v8).toNat)
   case atStart=>exact⟨0,rfl,by omega,HB.out,bel W _⟩
   obtain⟨q,rfl,hq,hre,hbr⟩:=hrel;have b4:Bel W wr:=⟨hbr⟩;have a2:=HW.out.2.trans (hbr.mono HW.out.2.size);have iB:Bel w wr:=⟨a2⟩;have hb:=aB HW.out.1 hbr;obtain⟨iL,s0,s1,s2⟩:=gR hb;obtain⟨iI,y0,y1,y2,y3⟩:=HO.out.2.2.1 wr a2;clear y0 y1 y3;by_cases hlt:q<x.ents.length
   .have a9:(q:Int)<x.ents.length:=by omega
    obtain⟨z,hz⟩:=gAA hlt;have a7:=mG hz;obtain⟨K2,y,hat2,hy⟩:=aMU (a5 z a7);obtain⟨hyl,-⟩:=gI.1 hy;have b0:(K2:Int)<S.ins.length:=by omega
    obtain⟨be,oe,hea,iE0,iE,hce⟩:=HO.out.2.1 wr a2 q z.cells (by rw[gM,hz];rfl);subst hea;have b5:=hce 1 _ rfl;obtain⟨bi2,oi2,ev2,he2,iI02,hoi2,her2,hci2⟩:=HO.out.2.2.2 K2 y hy;cases he2;obtain⟨-,-,w1',-,-⟩:=hci2 wr a2;have a0:vB wr 85 #[.agg #[.slice (some ⟨bi,oi,none⟩) S.ins.length c1,.slice ao no co,.slice am nm' cm],.int .i64 z.num] (.int .i64 (K2:Int)):=λww hb=>by have:=aBK S _ _ _ z.num ww (HO.out.1.below (a2.trans (hb.mono a2.size)) (zC _)) hf.wf.1;rw[hat2]at this;exact this
    rw[yH hlt]at hre;have a8:x.ents[q]=z:=by have:=gE hlt;rw[hz]at this;exact(Option.some.inj this).symm
    rw[a8]at hre;unfold aKW at hre;rw[hat2]at hre;simp only[zJ]at hre;rw[hy]at hre;have b1:=a5 z a7;cases hyd:y.dir with
    | false=>
      simp only[hyd,zP,if_false]at hre;rw[hyd]at w1';have a6:=bJ hre hbr;clear hre hce hz a7 hy hci2 her2 a5 ih hbr hb a8;go_wp2;refine qR ?_
      repeat(go_big_quiet_step (first|(with_reducible first|refine cI (a0 _ (bel _ _))|refine cJ (a0 _ (bel _ _)))))
      refine QN λp=>?_;go_wp2;go_roundw
      case rel=>exact⟨q+1,by go_num,by omega,a6.out.1,a6.out.2.trans ((bel wr _).mono a6.out.2.size)⟩
      simp[intOf];omega
    | true=>
      simp only[hyd,if_true]at hre;rw[hyd]at w1';cases hr:iY S dir n z.num with
      |none=>rw[hr]at hre;cases hre
      | some B2=>
        have a3:vB wr 167 #[.agg #[.slice (some ⟨bi,oi,none⟩) S.ins.length c1,.slice ao no co,.slice am nm' cm],.int .i64 dir,.int .i64 z.num] (.bool B2):=λww hb=>ih z.num B2 b1 hr ww (HO.out.1.below (a2.trans (hb.mono a2.size)) (zC _));rw[hr]at hre;cases B2 with
        | true=>
          cases hre;clear hr hce hz a7 hy hci2 her2 a5 ih hb a8;go_wp2;refine qR ?_
          repeat(go_big_quiet_step (first|(with_reducible first|refine cI (a0 _ (bel _ _))|refine cJ (a0 _ (bel _ _)))|(with_reducible first|refine cI (a3 _ (bel _ _))|refine cJ (a3 _ (bel _ _)))))
          refine QN λp=>?_;go_wp2;go_ret;exact⟨rfl,bel w _⟩
        | false=>
          have a6:=bJ hre hbr;clear hre hr hce hz a7 hy hci2 her2 a5 ih hbr hb a8;go_wp2;refine qR ?_
          repeat(go_big_quiet_step (first|(with_reducible first|refine cI (a0 _ (bel _ _))|refine cJ (a0 _ (bel _ _)))|(with_reducible first|refine cI (a3 _ (bel _ _))|refine cJ (a3 _ (bel _ _)))))
          refine QN λp=>?_;go_wp2;go_roundw
          case rel=>exact⟨q+1,by go_num,by omega,a6.out.1,a6.out.2.trans ((bel wr _).mono a6.out.2.size)⟩
          simp[intOf];omega
   have a9:¬(q:Int)<x.ents.length:=by omega
   rw[zS (by omega)]at hre;cases hre;clear a5 ih hb hbr;go_wp2;go_ret;exact⟨rfl,bel w _⟩
def vLo (b bi oi K0:Nat) (A:Value) (C E:Array Value) (num:Int):Nat->Value
 |0=>.pointer (some ⟨b,0,none⟩)
 |1=>A
 |2=>.agg C
 |3=>.int .i64 num
 |4=>.int .i64 K0
 |5=>.pointer (some ⟨bi,oi+K0*4,none⟩)
 |6=>.agg E
 |_=>undef
def ResOut (w:World) (r:PRes) (e:Ending) (w':World):Prop:=
 ∃nv,e=.returned (.agg #[r.code,r.fd,r.num,r.dir,r.data,nv])/\Bl w w'/\OwnP w.heap.size w' 9 1 nv (r.names.map cL)/\(r.code≠0->nv=.slice none 0 0)
theorem ResOut.flat {w w':World} {c f n:Int} {d:Bool} {s:ByteArray} (h:Bl w w'):ResOut w ⟨c,f,n,d,s,[]⟩ (.returned (.agg #[c,f,n,d,s,.slice none 0 0])) w':=⟨_,rfl,h,.inl ⟨rfl,rfl⟩,λ_=>rfl⟩
def pL (S:PSt) (kd num:Int) (x:PIn):PRes:=
 if kd=12 then(if x.dir=false then⟨7,0,0,false,⟨#[]⟩,[]⟩else⟨0,0,0,false,⟨#[]⟩,x.ents.map λe=>e.name⟩)
 else if kd=13 then⟨0,0,x.data.size,x.dir,⟨#[]⟩,[]⟩else if x.dir=true then⟨8,0,0,false,⟨#[]⟩,[]⟩else⟨0,0,bX S num,false,⟨#[]⟩,[]⟩
theorem aUD (S:PSt) (iv ov mv:Value) (kd core f0 off nu:Int) (path p2 dt:ByteArray) (w:World) (ho:StRead w iv ov mv S) (hfR:FineR S) (num C:Int) (hfind:eY S path=(num,C)) (hC:C≠0):
 Calls prog 97 #[.agg #[iv,ov,mv],.agg #[kd,core,f0,off,nu,path,p2,dt]] w (ResOut w ⟨C,0,0,false,⟨#[]⟩,[]⟩):=by
 have a0:=c46 ho hfR hfind;have a2:=λk ww=>bE k ww;have a3:(C !=0)=true:=by simpa using hC
 obtain⟨a1,n1',c1,ao,no,co,am,nm',cm,rfl,rfl,rfl⟩:=ho.slices;clear ho hfR hfind;go_in;go_wp2_with(first|(go_at_call 46;refine aE (a0 _ (bel _ _)) λp=>?_)|(go_at_call 92;refine aE (a2 _ _) λp=>?_));exact xD (v:=.agg #[C,.int .i64 0,.int .i64 0,false,.string ⟨#[]⟩,.slice none 0 0]) (by unfold results;simp only[results97];go_simp) rfl (ResOut.flat (bel w _))
theorem aUE (S:PSt) (iv ov mv:Value) (kd core f0 off nu:Int) (path p2 dt:ByteArray) (w:World) (ho:StRead w iv ov mv S) (hfR:FineR S) (hk:kd=12\/kd=13\/kd=14) (num C:Int) (hfind:eY S path=(num,C)) (hC:C=0) (K0:Nat) (x:PIn) (hat:bP S num=K0) (hx:S.ins[K0]? =some x):
 Calls prog 97 #[.agg #[iv,ov,mv],.agg #[kd,core,f0,off,nu,path,p2,dt]] w (ResOut w (pL S kd num x)):=by
 have c4:=c46 ho hfR hfind;have a7:=vK ho hfR.wf.1 hat;have d4:vB w 62 #[.agg #[iv,ov,mv],.int .i64 num] (.int .i64 (bX S num)):=λww h=>aEZ S iv ov mv num ww (ho.below h (zC _)) hfR.wf;have c5:=λk ww=>bE k ww;have d8:=(hfR.wf.2.2.2.1 x (mG hx)).2.1;obtain⟨hxl,-⟩:=gI.1 hx;obtain⟨a1,n1',c1,ao,no,co,am,nm',cm,rfl,rfl,rfl⟩:=ho.slices;obtain⟨ai,ci,e1,hai⟩:=ho.ins_at2;cases e1;obtain⟨bi,oi,ev,he,iI0,hoi,her,hci⟩:=hai K0 x hx;subst he;obtain⟨ea,ec,rfl,hae⟩:=her.at_;rw[lM]at hci;obtain⟨iI,x0,x1,x2,x3⟩:=hci w (Below.refl _ _);have d9:(K0:Int)<S.ins.length:=by omega
 subst hC;have a9:bi<w.heap.size:=iI.lt;obtain⟨b,hbe⟩:=gAB w.heap.size;obtain⟨X,hX⟩:=gAB (pL S kd num x);rw[hX];have HX:=mJ hX hk hae hbe;clear ho hfR hfind hx hai her hci hoi hat hX hk hae hbe;go_in;go_upto_region 4 with(go_at_call 46;refine aE (c4 _ (bel _ _)) λp=>?_)
 refine aD (F:=λwa=>Blk wa w.heap.size #[.slice (some ⟨bi,oi,none⟩) S.ins.length c1,.slice ao no co,.slice am nm' cm] 26/\Blk wa (w.heap.size+1) #[kd,core,f0,off,nu,path,p2,dt] 28/\Blk wa (w.heap.size+1+1) () 52/\Below w.heap.size w wa) ⟨aB (Blk.new w #[.slice (some ⟨bi,oi,none⟩) S.ins.length c1,.slice ao no co,.slice am nm' cm] 26) (bel _ _),aB (Blk.new_i (w.alloc (.cells #[.slice (some ⟨bi,oi,none⟩) S.ins.length c1,.slice ao no co,.slice am nm' cm] 26)) #[kd,core,f0,off,nu,path,p2,dt] 28 (w.heap.size+1)) (bel _ _),aB (Blk.new_i ((w.alloc (.cells #[.slice (some ⟨bi,oi,none⟩) S.ins.length c1,.slice ao no co,.slice am nm' cm] 26)).alloc (.cells #[kd,core,f0,off,nu,path,p2,dt] 28)) #[.int .i64 0,.int .i64 0,.int .i64 0,.bool false,.string ⟨#[]⟩,.slice none 0 0] 52 (w.heap.size+1+1)) (bel _ _),bel w _⟩ ?_;rintro W ⟨hb,hc,hr,a8⟩;replace a7:=λww (hw:Below W.heap.size W ww)=>a7 ww (a8.trans (hw.mono a8.size));have u0:=(a8.cell (p:=⟨bi,oi+K0*4,none⟩) a9).trans x0;have u1:=(a8.cell (p:=⟨bi,oi+K0*4+1,none⟩) a9).trans x1;have u2:=(a8.cell (p:=⟨bi,oi+K0*4+2,none⟩) a9).trans x2;have u3:=(a8.cell (p:=⟨bi,oi+K0*4+3,none⟩) a9).trans x3;rw[HX.out.2.2.2]at hb hc hr |-;obtain⟨-,k0,k1,k2⟩:=gR hb;have jB:b<W.heap.size:=hb.lt.lt;have jI:bi<W.heap.size:=zR a9 a8.size;clear x0 x1 x2 x3 iI c4;have HW:=mJ hb hc hr a8;clear hb hc hr a8;go_cut [7] (λv9 wx=>∃g,v9=.pointer (some ⟨g,0,none⟩)/\Blk wx g #[x.num,x.dir,.slice ea x.ents.length ec,x.data] 68/\Below W.heap.size W wx)
 case first=>
  refine jV (RA 9 (vLo b bi oi K0 (.slice (some ⟨bi,oi,none⟩) S.ins.length c1) #[.slice (some ⟨bi,oi,none⟩) S.ins.length c1,.slice ao no co,.slice am nm' cm] #[.int .i64 x.num,.bool x.dir,.slice ea x.ents.length ec,.string x.data] num) 7 8 #[.int .i64 0,.bool false,.slice none 0 0,.string ⟨#[]⟩] #[.int .i64 x.num,.bool x.dir,.slice ea x.ents.length ec,.string x.data] 68 W) (λσ=>RA.zero (by decide) (by decide) (bel W _)) ?_ ?_
  .refine⟨?_,?_,?_,?_,?_,?_,?_,?_,?_,trivial⟩
   .intro D σ w1 a h;have e2:(a.tmps[2]?).getD undef=.pointer b:=mW h 2;refine jJ h ?_;clear h a7;go_simp
    first|done|rfl
   .intro D σ w1 a h;have e0:(a.tmps[21]?).getD undef=.pointer b:=gK h 0 21;have l0:=(h.r.below.cell (p:=b) jB).trans k0;have iX:BlockLt b w1:=⟨zR jB h.r.below.size⟩
    refine jJ h ?_;clear h a7;go_simp
    first|done|rfl
   .intro D σ w1 a h;have e2:(a.tmps[2]?).getD undef=.pointer b:=mW h 2;have l0:=(h.r.below.cell (p:=b) jB).trans k0;have l1:=(h.r.below.cell (p:=⟨b,1,none⟩) jB).trans k1;have l2:=(h.r.below.cell (p:=⟨b,2,none⟩) jB).trans k2;have iX:BlockLt b w1:=⟨zR jB h.r.below.size⟩
    refine jJ h ?_;clear h a7;go_simp
    first|done|rfl
   .intro D σ w1 a h;have e5:(a.tmps[5]?).getD undef=.int .i64 num:=mW h 5;refine jJ h ?_;clear h a7;go_simp
    first|done|rfl
   .intro D σ w1 a h;have e3:(a.tmps[23]?).getD undef=.agg #[.slice (some ⟨bi,oi,none⟩) S.ins.length c1,.slice ao no co,.slice am nm' cm]:=gK h 2 23;have e4:(a.tmps[24]?).getD undef=.int .i64 num:=gK h 3 24;refine aS 85 #[.agg #[.slice (some ⟨bi,oi,none⟩) S.ins.length c1,.slice ao no co,.slice am nm' cm],.int .i64 num] ?_ ((a7 w1 h.r.below).mono ?_)
    .clear h a7;go_simp
     first|done|rfl
    rintro e w' ⟨rfl,hqb⟩;exact⟨_,rfl,(h.r.on hqb).val 4 (by decide) (by decide)⟩
   .intro D σ w1 a h;have e6:(a.tmps[22]?).getD undef=.slice (some ⟨bi,oi,none⟩) S.ins.length c1:=gK h 1 22;have e7:(a.tmps[25]?).getD undef=.int .i64 K0:=gK h 4 25;refine jJ h ?_;clear h a7;go_simp
    first|done|rfl
   .intro D σ w1 a h;have e8:(a.tmps[26]?).getD undef=.pointer (some ⟨bi,oi+K0*4,none⟩):=gK h 5 26;have l0:=(h.r.below.cell (p:=⟨bi,oi+K0*4,none⟩) jI).trans u0;have l1:=(h.r.below.cell (p:=⟨bi,oi+K0*4+1,none⟩) jI).trans u1;have l2:=(h.r.below.cell (p:=⟨bi,oi+K0*4+2,none⟩) jI).trans u2;have l3:=(h.r.below.cell (p:=⟨bi,oi+K0*4+3,none⟩) jI).trans u3;have iX:BlockLt bi w1:=⟨zR jI h.r.below.size⟩
    refine jJ h ?_;clear h a7;go_simp
    first|done|rfl
   .intro D σ w1 a h;refine uK (v:=.pointer w1.heap.size) (w':=w1.alloc (.cells #[.int .i64 0,false,.slice none 0 0,.string ⟨#[]⟩] 68)) ?_ (h.r.alloc (by decide) h.nd);clear h a7;go_simp
    first|done|rfl
   intro D σ w1 a h;obtain⟨g,eg,hgl,hgc,-⟩:=h.r.al (nR h 7);have ep:(a.tmps[7]?).getD undef=.pointer g:=aJB h 7 7 eg;have ex:(a.tmps[27]?).getD undef=.agg #[x.num,x.dir,.slice ea x.ents.length ec,x.data]:=gK h 6 27;obtain⟨d0,d1,d2,d3,hblk⟩:∃d0 d1 d2 d3,Blk w1 g #[d0,d1,d2,d3] 68:=by
    rcases hgc with h|h
    .exact⟨_,_,_,_,h⟩
    exact⟨_,_,_,_,h⟩
   have b2:=wW hblk (.int .i64 x.num) (.bool x.dir) (.slice ea x.ents.length ec) (.string x.data);have q0:=hblk.cell 0;have q1:=hblk.cell 1;have q2:=hblk.cell 2;have q3:=hblk.cell 3;have b7:=hblk.frozen 0;have b8:=hblk.frozen 1;have b9:=hblk.frozen 2;have c2:=hblk.frozen 3;simp at q0 q1 q2 q3;have iG:=hblk.lt;refine aLW (w':=aEN w1 g (.int .i64 x.num) (.bool x.dir) (.slice ea x.ents.length ec) (.string x.data)) ?_ (h.r.store (by decide) (nR h 7) eg hgl (tO _ _ _ _ _ _) b2);clear h a7 b2 hblk;unfold aEN;go_simp
   first|done|rfl
  intro σ w3 hR;obtain⟨g,eg,-,-,hgs⟩:=hR.al trivial;have hg:=hgs trivial;have d5:=hR.below;simp only[dM,Act.put,sA,sZ,sS,Nat.reduceAdd];rw[eg];clear hR hgs eg a7;go_wp2_with fail;go_meet;exact⟨g,rfl,hg,d5⟩
 obtain⟨g,rfl,hg,hbx⟩:=hcut;have b1:=HW.out.2.2.2.trans (hbx.mono HW.out.2.2.2.size);have iG:=hg.lt;have q1:=hg.cell 1;have q2:=hg.cell 2;have q3:=hg.cell 3;simp at q1 q2 q3;have hS:=aB HW.out.1 hbx;obtain⟨iS,k0,k1,k2⟩:=gR hS;have hC:=aB HW.out.2.1 hbx;have iC:=hC.lt;have c0:=hC.cell 0;simp at c0;have hr:=aB HW.out.2.2.1 hbx;have iR:=hr.lt;have g0:=hr.cell 0;have g1:=hr.cell 1;have g2:=hr.cell 2;have g3:=hr.cell 3;have g4:=hr.cell 4;have g5:=hr.cell 5;have b7:=hr.frozen 0;have b8:=hr.frozen 1;have b9:=hr.frozen 2;have c2:=hr.frozen 3;have c6:=hr.frozen 4;have c7:=hr.frozen 5;simp at g0 g1 g2 g3 g4 g5;have e9:g≠b+1+1:=λe=>by subst e;exact hr.ne_ hg (by decide) rfl
 have HG:=eH hg hr b1;have d6:Bel w wc:=⟨b1⟩;have b3:=HX.out.2.2.2;clear hr hg hC hS hbx u0 u1 u2 u3 jB jI HW a7;obtain⟨-,hk,-,-⟩:=HX.out;rcases hk with rfl|rfl|rfl
 .cases hd:x.dir with
  | false=>
    have hX:X=⟨7,0,0,false,⟨#[]⟩,[]⟩:=by rw[<-HX.out.1];unfold pL;rw[zB rfl,zB hd]
    subst hX;rw[hd]at q1;subst b3;clear b1;go_wp2_with(go_at_call 92;refine aE (c5 _ _) λp=>?_);exact xD (v:=.agg #[.int .i64 7,.int .i64 0,.int .i64 0,false,.string ⟨#[]⟩,.slice none 0 0]) (by unfold results;simp only[results97];go_simp) rfl (ResOut.flat (bel w _))
  | true=>
    have hX:X=⟨0,0,0,false,⟨#[]⟩,x.ents.map λe=>e.name⟩:=by rw[<-HX.out.1];unfold pL;rw[zB rfl,zA (by rw[hd];decide)]
    subst hX;rw[hd]at q1;subst b3;clear b1;have f1:=HG.out.2.1.lt.lt;go_upto_region 10 with fail
    go_loopw[8,9] (λv8 v9 wr=>∃q:Nat,v9=.int .i64 q/\q<=x.ents.length/\OwnP wc.heap.size wr 9 1 v8 (((x.ents.take q).map λe=>e.name).map λs=>[Value.string s])/\Below wc.heap.size wc wr) (λ_ v9 _=>(x.ents.length-intOf v9).toNat)
    case atStart=>exact⟨0,rfl,by omega,.inl ⟨rfl,rfl⟩,bel wc _⟩
    obtain⟨q,rfl,hq,hO,hbr⟩:=hrel;have f2:Bel wc wr:=⟨hbr⟩;have a8:=HG.out.2.2.trans (hbr.mono HG.out.2.2.size);have iB:Bel w wr:=⟨a8⟩;have b6:=aB HG.out.1 hbr;have a6:=aB HG.out.2.1 hbr;have jG:=b6.lt;have y2:=b6.cell 2;simp at y2;obtain⟨va,vc,rfl⟩:=hO.formL;have b4:(((x.ents.take q).map λe=>e.name).map λs=>[Value.string s]).length=q:=by rw[lM,lM,zU];omega
    rw[b4]at hO |-;obtain⟨zs,hzs⟩:=gAB (((x.ents.take q).map λe=>e.name));rw[hzs]at hO b4;rw[lM]at b4;have HO:=mJ hO hzs b4 hbr;clear hO hzs b4;by_cases hlt:q<x.ents.length
    .have c3:(q:Int)<x.ents.length:=by omega
     obtain⟨z,hz⟩:=gAA hlt;obtain⟨be,oe,hea,iE0,iE,hce⟩:=HX.out.2.2.1 wr a8 q z.cells (by rw[gM,hz];rfl);subst hea;have d7:=hce 0 _ rfl;rw[zN]at d7;have b0:((x.ents.take (q+1)).map λe=>e.name)=zs++[z.name]:=by rw[take_add_one,hz,yS,HO.out.2.1];rfl
     have f3:=HO.out.2.2.1;have HN:=aC b0;clear b0 hce hz hbr b6 a6;go_wp2_with(at_builtin;refine aYY rfl (.tmp 49) (.tmp 56) rfl wc.heap.size _ _ zs [z.name] rfl (by go_simp) (HO.out.1.below (bel wr _)) (RowAt.single (Blk.new_i _ _ _ _) 1 1) (by simp;omega) (bel wc _).size ?_);intro v' w' hg;have c8:=hg.on (HO.out.1.below (bel wr _)) (bel wc _).size;have H2:=bJ hg.1 ((bel wc _).trans c8);have c9:=hg.1.one;clear hg c8;go_wp2;go_roundw
     case rel=>exact⟨q+1,by go_num,by omega,by rw[HN.out,yS];exact H2.out.1,H2.out.2⟩
     simp[intOf];omega
    have c3:¬(q:Int)<x.ents.length:=by omega
    have b5:zs=x.ents.map λe=>e.name:=by rw[<-HO.out.2.1,take_of_length_le (by omega)]
    have f4:=a6.lt;clear g0 g1 g2 g3 g4 g5 b7 b8 b9 c2 c6 c7 iR;have g0:=a6.cell 0;have g1:=a6.cell 1;have g2:=a6.cell 2;have g3:=a6.cell 3;have g4:=a6.cell 4;have g5:=a6.cell 5;have b7:=a6.frozen 0;have b8:=a6.frozen 1;have b9:=a6.frozen 2;have c2:=a6.frozen 3;have c6:=a6.frozen 4;have c7:=a6.frozen 5;simp at g0 g1 g2 g3 g4 g5;have HA:=aC b5;clear b5 b6 a6;go_wp2_with fail;refine xD (v:=.agg #[.int .i64 0,.int .i64 0,.int .i64 0,false,.string ⟨#[]⟩,.slice va q vc]) (by unfold results;simp only[results97];go_simp) rfl ⟨_,rfl,bel w _,?_,λh=>absurd rfl h⟩;have hk:=HO.out.1.keep (lF (wz:=wr) (r:=w.heap.size+1+1) (a0:=.int .i64 0) (a1:=.int .i64 0) (a2:=.int .i64 0) (a3:=.bool false) (a4:=.string ⟨#[]⟩) (a5:=.slice va q vc)) (λg hg e=>by have:=HO.out.1.ge hg;omega);rw[HA.out]at hk;exact hk.mono HG.out.2.2.size
 .have hX:X=⟨0,0,x.data.size,x.dir,⟨#[]⟩,[]⟩:=by
   rw[<-HX.out.1];unfold pL;rw[zA (by decide),zB rfl]
  subst hX;subst b3;clear b1;go_wp2;exact xD (v:=.agg #[.int .i64 0,.int .i64 0,x.data.size,x.dir,.string ⟨#[]⟩,.slice none 0 0]) (by unfold results;simp only[results97];go_simp) rfl (ResOut.flat (bel w _))
 cases hd:x.dir with
 | true=>
   have hX:X=⟨8,0,0,false,⟨#[]⟩,[]⟩:=by rw[<-HX.out.1];unfold pL;rw[zA (by decide),zA (by decide),zB hd]
   subst hX;rw[hd]at q1;subst b3;clear b1;go_wp2_with(go_at_call 92;refine aE (c5 _ _) λp=>?_);exact xD (v:=.agg #[.int .i64 8,.int .i64 0,.int .i64 0,false,.string ⟨#[]⟩,.slice none 0 0]) (by unfold results;simp only[results97];go_simp) rfl (ResOut.flat (bel w _))
 | false=>
   have hX:X=⟨0,0,bX S num,false,⟨#[]⟩,[]⟩:=by rw[<-HX.out.1];unfold pL;rw[zA (by decide),zA (by decide),zA (by rw[hd];decide)]
   subst hX;rw[hd]at q1;subst b3;clear b1;go_wp2_with(go_at_call 62;refine aE (d4 _ (bel _ _)) λp=>?_);exact xD (v:=.agg #[.int .i64 0,.int .i64 0,.int .i64 (bX S num),false,.string ⟨#[]⟩,.slice none 0 0]) (by unfold results;simp only[results97];go_simp) rfl (ResOut.flat (bel w _))
theorem aKB {s:ByteArray} {p:Nat} (hp:p<s.size) (h:jX (s.extract p s.size) ⟨#[239,191,189]⟩=true):(s.get! p).toNat=239/\p+1<s.size/\p+2<s.size/\(s.get! (p+1)).toNat=191/\(s.get! (p+2)).toNat=189:=by
 unfold jX at h;rw[zE,zI,beq_iff_eq]at h;obtain⟨h1,h2⟩:=h;have a0:(s.extract p s.size).size=s.size-p:=by simp
 have h3:(⟨#[239,191,189]⟩:ByteArray).size=3:=rfl;rw[h3,a0]at h1;rw[h3,zW,zW]at h2;have hd:((s.extract p s.size).extract 0 3).data=#[239,191,189]:=Array.toList_inj.1 h2;rw[ByteArray.data_extract,ByteArray.data_extract]at hd;have g:∀k (hk:k<3),(s.get! (p+k))=(#[239,191,189]:Array UInt8)[k]'hk:=by
  intro k hk;have a1:p+k<s.size:=by omega
  have e1:((s.data.extract p s.size).extract 0 3)[k]? =(#[239,191,189]:Array UInt8)[k]? :=by rw[hd]
  have a2:s.data.size=s.size:=rfl;rw[yA (by simp;omega),yA (by simpa using hk)]at e1;simp only[Array.getElem_extract,zM,zF]at e1;rw[dU s _ a1];exact e1
 have g0:=g 0 (by omega);have g1:=g 1 (by omega);have g2:=g 2 (by omega);rw[zN]at g0;exact⟨by rw[g0];rfl,by omega,by omega,by rw[g1];rfl,by rw[g2];rfl⟩
theorem xW (s:ByteArray):∀b p,bZ s b p=true->fK s b p=true
 |0,_,_=>rfl
 | b + 1,p,h=>by
   unfold bZ at h;unfold fK;by_cases hp:p<s.size
   .rw [zB hp]at h |-;obtain⟨h1,h2,h3⟩:=aFD hp;rw[zE,yL]at h;obtain⟨hb,hc⟩:=h;unfold fV at hb;simp only[yV,yW,yF]at hb;obtain⟨⟨⟨hb1,hb2⟩,hb3⟩,hb4⟩:=hb;have hk:(cD s p).2≠0:=by
     intro e;obtain⟨e1,e2⟩:=h3.1 e;rw[e1]at hb4;rw[Bool.and_eq_false_iff]at hb4;rcases hb4 with hb4|hb4
     .rw[yF]at hb4;exact hb4 (by kernel_rfl)
     rw[Bool.not_eq_false']at hb4;obtain⟨q0,q1,q2,q3,q4⟩:=aKB hp hb4;refine e2 ⟨q0,?_,?_,?_,?_⟩
     .rw[decide_eq_true q1,q3];decide
     .rw[decide_eq_true q2,q4];decide
     .rw[q3]
     rw[q4]
    have hw:(cD s p).2.toNat=(Utf8.decode s p).2:=by
     have:0<=(cD s p).2:=by
      unfold cD bS
      repeat' split
      all_goals simp
     omega
    rw[zA (by
     rintro(e|e|e|e)
     .exact hk e
     .omega
     .omega
     omega),hw]
    exact xW s b _ hc
   rw[zA hp]
theorem sK (s:ByteArray):bK s=cU s:=by
 unfold bK cU;split
 .rfl
 split
 .rfl
 by_cases h:bZ s s.size 0=true
 .rw[zB h,zB (xW s _ _ h)]
 rw[zA h,zA (λe=>h (rS s _ _ e))]
section
theorem aWN (b0 b1 b2 b3:Nat) (c1 c2 c3:Bool):(fU b0 b1 b2 b3 c1 c2 c3).1=47↔b0=47:=by
 unfold fU;constructor
 .intro h
  repeat' split at h
  all_goals simp at h
  all_goals first|exact h|omega|(simp only[zE,zI]at *;omega)
 rintro rfl;rfl
theorem aYW (b0 b1 b2 b3:Nat) (c1 c2 c3:Bool):1<=(fU b0 b1 b2 b3 c1 c2 c3).2/\(2<=(fU b0 b1 b2 b3 c1 c2 c3).2->c1=true)/\(3<=(fU b0 b1 b2 b3 c1 c2 c3).2->c2=true)/\(4<=(fU b0 b1 b2 b3 c1 c2 c3).2->c3=true)/\(fU b0 b1 b2 b3 c1 c2 c3).2<=4/\(b0=47->(fU b0 b1 b2 b3 c1 c2 c3).2=1):=by
 unfold fU
 repeat' split
 all_goals simp_all
 all_goals first|done|omega
variable {p:Nat} {t:ByteArray}
theorem aKC:(Utf8.decode t p).1=47↔(t.get! p).toNat=47:=by rw[lO];exact aWN _ _ _ _ _ _ _
theorem aTM:1<=(Utf8.decode t p).2/\((t.get! p).toNat=47->(Utf8.decode t p).2=1)/\∀j,1<=j->j<(Utf8.decode t p).2->p+j<t.size/\(t.get! (p+j)).toNat≠47:=by
 rw[lO];obtain⟨h1,h2,h3,h4,h5,h6⟩:=aYW (t.get! p).toNat (t.get! (p+1)).toNat (t.get! (p+2)).toNat (t.get! (p+3)).toNat (decide (p+1<t.size)&&(t.get! (p+1)).toNat/64==2) (decide (p+2<t.size)&&(t.get! (p+2)).toNat/64==2) (decide (p+3<t.size)&&(t.get! (p+3)).toNat/64==2);refine⟨h1,h6,λj hj1 hj2=>?_⟩;have key:∀k,(decide (p+k<t.size)&&(t.get! (p+k)).toNat/64==2)=true->p+k<t.size/\(t.get! (p+k)).toNat≠47:=by intro k hk;simp only[zE,zI,beq_iff_eq]at hk;exact⟨hk.1,by omega⟩
 have:j=1\/j=2\/j=3:=by omega
 rcases this with rfl|rfl|rfl
 .exact key 1 (h2 (by omega))
 .exact key 2 (h3 (by omega))
 exact key 3 (h4 (by omega))
theorem vS {s:ByteArray} {j:Nat} (h:j<s.size):(s++⟨#[47]⟩:ByteArray).get! j=s.get! j:=by
 have h2:j<(s++⟨#[47]⟩:ByteArray).size:=by rw[xA];omega
 rw[dU _ _ h2,dU _ _ h];exact ByteArray.getElem_append_left h
theorem aHH (s:ByteArray):((s++⟨#[47]⟩:ByteArray).get! s.size).toNat=47:=by
 have h2:s.size<(s++⟨#[47]⟩:ByteArray).size:=by rw[xA];exact Nat.lt_succ_self _
 rw[dU _ _ h2,ByteArray.getElem_append_right (zC _)];simp only[Nat.sub_self];rfl
theorem aEV (s:ByteArray):∀(w n fr i:Nat) (acc:List ByteArray),i+w<=s.size->(∀j,j<w->(s.get! (i+j)).toNat≠47)->aZ s (n+w) fr i acc=aZ s n fr (i+w) acc
 |0,_,_,_,_,_,_=>rfl
 | w+1,n,fr,i,acc,hw,h=>by
   have a0:i<s.size:=by omega
   have h0:=h 0 (by omega);rw[zN,dU s i a0]at h0;rw[<-Nat.add_assoc]
   conv=>lhs;unfold aZ
   rw[dif_pos a0,zA h0];rw[aEV s w n fr (i+1) acc (by omega) (λj hj=>by
    have:=h (j+1) (by omega)
    rwa [show i+(j+1)=i+1+j by omega]at this)]
   rw[show i+1+w=i+(w+1) by omega]
theorem uY (s:ByteArray):cU s=0\/cU s=800\/cU s=801:=by
 unfold cU
 repeat' split
 all_goals simp
theorem aTN (s:ByteArray):∀(m b pos fr:Nat) (acc:List ByteArray),s.size+1-pos<=m->s.size+1-pos<=b->1<=pos->pos<=s.size+1->cM s (s++⟨#[47]⟩) b pos fr acc=aZ s (s.size+1-pos) fr pos acc:=by
 intro m
 induction m with
 | zero=>
   intro b pos fr acc h1 h2 h3 h4;have e:pos=s.size+1:=by omega
   subst e;rw[Nat.sub_self];have ht:(s++⟨#[47]⟩:ByteArray).size=s.size+1:=by rw[xA];rfl
   rw[iH _ _ _ _ _ _ (by omega)];rfl
 | succ m ih=>
   intro b pos fr acc h1 h2 h3 h4;have ht:(s++⟨#[47]⟩:ByteArray).size=s.size+1:=by rw[xA];rfl
   by_cases he:pos=s.size+1
   .subst he;rw[Nat.sub_self,iH _ _ _ _ _ _ (by omega)];rfl
   have a4:pos<s.size+1:=by omega
   obtain⟨b,rfl⟩:∃b',b=b'+1:=⟨b-1,by omega⟩;obtain⟨w1,w2,w3⟩:=aTM (t:=s++⟨#[47]⟩) (p:=pos);unfold cM;rw[zB (by omega)];have a0:((pos:Int)==0)=false:=by rw[yF];omega
   rw[a0,Bool.false_or];obtain⟨n,hn⟩:∃n,s.size+1-pos=n+1:=⟨s.size-pos,by omega⟩;have a1:s.size+1-(pos+1)=n:=by omega
   by_cases h47:((s++⟨#[47]⟩:ByteArray).get! pos).toNat=47
   .have hd:=aKC.2 h47;have hw:=w2 h47;rw[hd,hw,zA (by decide)];have a2:aZ s (s.size+1-pos) fr pos acc=(if bK (s.extract fr pos)=801 then(1101,[])else if bK (s.extract fr pos)=800 then(1100,[])else aZ s n (pos+1) (pos+1) (acc++[s.extract fr pos])):=by
     rw[hn]
     conv=>lhs;unfold aZ
     by_cases hs:pos<s.size
     .rw[dif_pos hs,zB (by rw[<-dU s pos hs,<-vS hs];exact h47)]
     rw[dif_neg hs]
    rw[a2,sK];rcases uY (s.extract fr pos)with e|e|e
    .rw[e,zB rfl,zA (by decide),zA (by decide),ih b (pos+1) (pos+1) _ (by omega) (by omega) (by omega) (by omega),a1]
    .rw[e,zA (by decide),zA (by decide),zA (by decide),zB rfl]
    rw[e,zA (by decide),zB rfl,zB rfl]
   have hd:¬(Utf8.decode (s++⟨#[47]⟩) pos).1=47:=λe=>h47 (aKC.1 e);have hs:pos<s.size:=by
    rcases Nat.lt_or_ge pos s.size with h|h
    .exact h
    exfalso;have:pos=s.size:=by omega
    subst this;exact h47 (aHH s)
   obtain⟨w,hw⟩:∃w,(Utf8.decode (s++⟨#[47]⟩) pos).2=w:=⟨_,rfl⟩;rw[hw]at w1 w3 |-;have a3:pos+w<=s.size:=by
    rcases Nat.lt_or_ge s.size (pos+w)with h|h
    .exfalso;have:=(w3 (s.size-pos) (by omega) (by omega)).2;rw[show pos+(s.size-pos)=s.size by omega]at this;exact this (aHH s)
    exact h
   rw[zB (by rw[yL,yF];omega),ih b (pos+w) fr acc (by omega) (by omega) (by omega) (by omega)];rw[show s.size+1-pos=(s.size+1-(pos+w))+w by omega];refine(aEV s w _ fr pos acc a3 (λj hj=>?_)).symm;rcases Nat.eq_zero_or_pos j with rfl|hj0
   .rw[zN,<-vS hs];exact h47
   have:=(w3 j hj0 hj).2
   rwa [vS (by omega)]at this
theorem qB (s:ByteArray):∀(n fr i:Nat) (acc:List ByteArray),(aZ s n fr i acc).1≠0->(aZ s n fr i acc).2=[]
 |0,_,_,_,h=>absurd rfl h
 | n + 1,fr,i,acc,h=>by
   unfold aZ at h |-;by_cases h1:i<s.size
   .simp only[dif_pos h1]at h |-;by_cases h2:(s[i]'h1).toNat=47
    .simp only[zB h2]at h |-;by_cases h3:bK (s.extract fr i)=801
     .rw[zB h3]
     simp only[zA h3]at h |-;by_cases h4:bK (s.extract fr i)=800
     .rw[zB h4]
     simp only[zA h4]at h |-;exact qB s n _ _ _ h
    simp only[zA h2]at h |-;exact qB s n _ _ _ h
   simp only[dif_neg h1]at h |-;by_cases h3:bK (s.extract fr i)=801
   .rw[zB h3]
   simp only[zA h3]at h |-;by_cases h4:bK (s.extract fr i)=800
   .rw[zB h4]
   simp only[zA h4]at h |-;exact qB s n _ _ _ h
theorem eX (s:ByteArray):bU s=aA s:=by
 unfold bU aA;by_cases h1:64<s.size
 .rw[zB h1,zB h1]
 rw[zA h1,zA h1];by_cases h2:0<s.size
 .rw [dif_pos h2,dif_pos h2];by_cases h47:(s[0]'h2).toNat=47
  .have hb:¬((((s[0]'h2).toNat:Int)==47)=false):=by
    rw[h47];decide
   rw[zB h47,zA hb];by_cases h3:s.size=1
   .rw[zB h3,zB h3]
   rw[zA h3,zA h3];have ht:(s++⟨#[47]⟩:ByteArray).size=s.size+1:=by rw[xA];rfl
   have h0:((s++⟨#[47]⟩:ByteArray).get! 0).toNat=47:=by rw[vS h2,dU s 0 h2];exact h47
   have hw:=(aTM (t:=s++⟨#[47]⟩) (p:=0)).2.1 h0;have hr:cM s (s++⟨#[47]⟩) (s++⟨#[47]⟩:ByteArray).size 0 1 []=aZ s s.size 1 1 []:=by
    rw[ht]
    conv=>lhs;unfold cM
    rw[zB (by omega)];have hc:(((0:Nat):Int)==0||!(((Utf8.decode (s++⟨#[47]⟩:ByteArray) 0).1:Int)==47))=true:=by simp
    rw[zB hc,hw,zM,aTN s s.size s.size 1 1 [] (by omega) (by omega) (by omega) (by omega),Nat.add_sub_cancel]
   rw[hr];obtain⟨G,hG⟩:=gAB (aZ s s.size 1 1 []);have he:=qB s s.size 1 1 [];rw[hG]at he |-;obtain⟨c,ns⟩:=G;simp only at he |-;by_cases hc:c=0
   .subst hc;by_cases hl:4<ns.length
    .simp[hl]
    simp[hl]
   have:=he hc;subst this;simp[hc]
  have hb:(((s[0]'h2).toNat:Int)==47)=false:=by rw[yF];omega
  rw[zA h47,zB hb]
 rw[dif_neg h2,dif_neg h2]
theorem aMG (c:Int):qV c=eE c:=by
 unfold qV eE
 repeat' split
 all_goals first|rfl|omega
end
end Go.Proofs.YtmkapobnfigedaaGreatDoor
