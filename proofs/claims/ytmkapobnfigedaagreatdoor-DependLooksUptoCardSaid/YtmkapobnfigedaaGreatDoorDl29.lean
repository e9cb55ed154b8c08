/- Part of the proof of a law of chapter 15. Conditions: none. -/
import Derived.Test.YtmkapobnfigedaaGreatDoorDl23
import Derived.Test.YtmkapobnfigedaaGreatDoorDl28
import Derived.Laws.StructEq
set_option linter.unusedVariables false
set_option linter.unusedSimpArgs false
set_option maxRecDepth 100000
set_option maxHeartbeats 8000000
namespace Go.Proofs.YtmkapobnfigedaaGreatDoor
open Go.RowKit
def bR (s:ByteArray):Nat->Nat->Nat->List ByteArray->Int × List ByteArray
 |0,_,_,acc=>(0,acc)
 | n+1,fr,i,acc=>if h:i<s.size then
  (if(s[i]'h).toNat=47 then
   (if bT (s.extract fr i)=801 then(1101,[])else if bT (s.extract fr i)=800 then(1100,[])else bR s n (i+1) (i+1) (acc++[s.extract fr i]))
  else bR s n fr (i+1) acc)
   else(if bT (s.extract fr i)=801 then(1101,[])else if bT (s.extract fr i)=800 then(1100,[])else bR s n (i+1) (i+1) (acc++[s.extract fr i]))
def bZ (s:ByteArray):Int × List ByteArray:=
 if 64<s.size then(1101,[])else
 if h:0<s.size then
  (if(s[0]'h).toNat=47 then(if s.size=1 then(0,[])else
   (if (bR s s.size 1 1 []).1≠0 then((bR s s.size 1 1 []).1,[])else if 4<(bR s s.size 1 1 []).2.length then(1102,[])else(0,(bR s s.size 1 1 []).2)))
  else(1100,[]))
 else(1100,[])
def ParsedR (w:World) (F:Int × List ByteArray) (e:Ending) (w':World):Prop:=∃v,e=.returned (.tuple #[v,.int .i64 F.1])/\Below w.heap.size w w'/\OwnP w.heap.size w' 9 1 v (F.2.map λn=>[.string n])
theorem ParsedR.nil {w w':World} {c:Int} (hb:Below w.heap.size w w'):ParsedR w (c,[]) (.returned (.tuple #[.slice none 0 0,.int .i64 c])) w':=⟨_,rfl,hb,.inl ⟨rfl,rfl⟩⟩
theorem uG {s:ByteArray} (h1:0<s.size) (h47:(s[0]'h1).toNat=47):(s.toList==[47])=decide (s.size=1):=by
 rw[zW];rcases s with⟨⟨l⟩⟩
 rcases l with _|⟨a,l⟩
 .exact absurd h1 (by decide)
 have ha:a=47:=by rw[<-UInt8.toNat_inj];exact h47
 subst ha;rcases l with _|⟨b,l⟩
 .rfl
 show((47::b::l)==[47])=decide ((47::b::l).length=1);simp
theorem xH (s:ByteArray) (w:World):Calls Tryz.prog 82 #[.string s] w (ParsedR w (bZ s)):=by
 unfold bZ;by_cases h64:64<s.size
 .rw[zB h64];have b3:(64:Int)<s.size:=by omega
  go_enter Tryz.func82,Tryz.ntmps82;go_wp2_with fail
  go_ret2;exact(ParsedR.nil (bel _ _))
 rw[zA h64];have b3:¬(64:Int)<s.size:=by omega
 by_cases h0:0<s.size;rotate_left
 .rw[dif_neg h0];have b4:s.toList.isEmpty=true:=by
   rw[zW];rcases s with⟨⟨l⟩⟩
   rcases l with _|⟨a,l⟩
   .rfl
   exact absurd (show 0<(a::l).length by simp) h0
  go_enter Tryz.func82,Tryz.ntmps82;go_wp2_with fail
  go_ret2;exact(ParsedR.nil (bel _ _))
 rw[dif_pos h0];have b4:s.toList.isEmpty=false:=by
  rw[zW];rcases s with⟨⟨l⟩⟩
  rcases l with _|⟨a,l⟩
  .exact absurd h0 (by decide)
  rfl
 by_cases h47:(s[0]'h0).toNat=47;rotate_left
 .rw[zA h47];have hI:¬(((s[0]'h0).toNat:Int)=47):=by omega
  go_enter Tryz.func82,Tryz.ntmps82;go_wp2_with fail
  go_ret2;exact(ParsedR.nil (bel _ _))
 rw[zB h47];have h1:=uG h0 h47;by_cases hs1:s.size=1
 .rw[zB hs1];rw[decide_eq_true hs1]at h1
  go_enter Tryz.func82,Tryz.ntmps82;go_wp2_with fail
  go_ret2;exact(ParsedR.nil (bel _ _))
 rw[zA hs1];rw[yM hs1]at h1;obtain⟨G,hG⟩:∃G,bR s s.size 1 1 []=G:=⟨_,rfl⟩;rw[hG];obtain⟨V,hV⟩:∃V:Int × List ByteArray,(if G.1≠0 then(G.1,[])else if 4<G.2.length then(1102,[])else(0,G.2))=V:=⟨_,rfl⟩;rw[hV];have HV:=aG hV;have HG:=aG hG;clear hG hV;go_enter Tryz.func82,Tryz.ntmps82;go_wp2_with fail
 go_loopw[4,5,6] (λv4 v5 v6 wr=>∃(fr i:Nat) (acc:List ByteArray),v5=.int .i64 fr/\v6=.int .i64 i/\1<=fr/\fr<=i/\i<=s.size+1/\acc.length<=i/\bR s (s.size+1-i) fr i acc=G/\Below w.heap.size w wr/\OwnP w.heap.size wr 9 1 v4 (acc.map λn=>[Value.string n])) (λ_ _ i _=>(s.size+1-intOf i).toNat)
 case atStart=>exact⟨1,1,[],rfl,rfl,by omega,by omega,by omega,by simp,by rw[Nat.add_sub_cancel];exact HG.out,bel _ _,.inl ⟨rfl,rfl⟩⟩
 obtain⟨fr,i,acc,rfl,rfl,hfr,hfi,his,hal,hgo,hb,hO⟩:=hrel;have iB:Bel w wr:=⟨hb⟩;have c0:IntKind.i64.wrap ((i:Int)+1)=(i:Int)+1:=I64.wrap ⟨by omega,by omega⟩;have c1:=hO.one;by_cases hle:i<=s.size
 .have a7:(i:Int)<=s.size:=by omega
  obtain⟨n,hn⟩:∃n,s.size+1-i=n+1:=⟨s.size-i,by omega⟩;have a8:s.size+1-(i+1)=n:=by omega
  rw[hn]at hgo;unfold bR at hgo;have a2:=λww=>aHQ (s.extract fr i) ww;have b5:(fr:Int)<=i:=by omega
  have b6:(0:Int)<=fr:=by omega
  by_cases hlt:i<s.size
  .have a9:(i:Int)<s.size:=by omega
   rw[dif_pos hlt]at hgo;by_cases hc:(s[i]'hlt).toNat=47
   .rw[zB hc]at hgo;have b7:((s[i]'hlt).toNat:Int)=47:=by omega
    have HO:=aG hO;clear hO;generalize hck:bT (s.extract fr i)=ck at a2 hgo;by_cases e1:ck=801
    .subst e1;rw[zB rfl]at hgo;have a0:=HV.out;rw[<-hgo]at a0;have a1:(1101,[])=V:=by simpa using a0
     subst a1;clear a0 hgo hck;go_wp2_with(first|(go_at_call 90;with_reducible refine aE (a2 _) λp=>?_))
     go_ret2;exact(ParsedR.nil (bel _ _))
    rw[zA e1]at hgo;by_cases e2:ck=800
    .subst e2;rw[zB rfl]at hgo;have a0:=HV.out;rw[<-hgo]at a0;have a1:(1100,[])=V:=by simpa using a0
     subst a1;clear a0 hgo hck;go_wp2_with(first|(go_at_call 90;with_reducible refine aE (a2 _) λp=>?_))
     go_ret2;exact(ParsedR.nil (bel _ _))
    rw[zA e2]at hgo;have b1:(ck==801)=false:=by simpa using e1
    have b2:(ck==800)=false:=by simpa using e2
    have b0:=aG hgo;clear hgo hck;go_wp2_with(first|(go_at_call 90;with_reducible refine aE (a2 _) λp=>?_)|(at_builtin;refine aSI rfl (.tmp 44) (.tmp 49) rfl w.heap.size _ _ acc [s.extract fr i] rfl (by go_simp) (HO.out.below (bel wr _)) (RowAt.single (Blk.new_i _ _ _ _) 1 1) (by simp;omega) (bel w _).size ?_));intro v' w' hg;have a3:=hg.on (HO.out.below (bel wr _)) (bel w _).size;have H2:=bB hg.1 ((bel w _).trans a3);have a5:=hg.1.one;clear hg a3;go_wp2_with fail;go_roundw
    case rel=>exact⟨i+1,i+1,acc++[s.extract fr i],by go_num,by go_num,by omega,by omega,by omega,by simp;omega,by rw[a8];exact b0.out,H2.out.2.trans ((bel w' _).mono H2.out.2.size),by rw[yR];exact H2.out.1⟩
    simp[intOf];omega
   rw[zA hc]at hgo;have b7:¬((s[i]'hlt).toNat:Int)=47:=by omega
   have HO:=bB hO hgo;clear hO hgo;go_wp2_with fail;go_roundw
   case rel=>exact⟨fr,i+1,acc,rfl,by go_num,by omega,by omega,by omega,by omega,by rw[a8];exact HO.out.2,bel _ _,HO.out.1.below (bel wr _)⟩
   simp[intOf];omega
  have a9:¬(i:Int)<s.size:=by omega
  rw[dif_neg hlt]at hgo;have HO:=aG hO;clear hO;generalize hck:bT (s.extract fr i)=ck at a2 hgo;by_cases e1:ck=801
  .subst e1;rw[zB rfl]at hgo;have a0:=HV.out;rw[<-hgo]at a0;have a1:(1101,[])=V:=by simpa using a0
   subst a1;clear a0 hgo hck;go_wp2_with(first|(go_at_call 90;with_reducible refine aE (a2 _) λp=>?_))
   go_ret2;exact(ParsedR.nil (bel _ _))
  rw[zA e1]at hgo;by_cases e2:ck=800
  .subst e2;rw[zB rfl]at hgo;have a0:=HV.out;rw[<-hgo]at a0;have a1:(1100,[])=V:=by simpa using a0
   subst a1;clear a0 hgo hck;go_wp2_with(first|(go_at_call 90;with_reducible refine aE (a2 _) λp=>?_))
   go_ret2;exact(ParsedR.nil (bel _ _))
  rw[zA e2]at hgo;have b1:(ck==801)=false:=by simpa using e1
  have b2:(ck==800)=false:=by simpa using e2
  have b0:=aG hgo;clear hgo hck;go_wp2_with(first|(go_at_call 90;with_reducible refine aE (a2 _) λp=>?_)|(at_builtin;refine aSI rfl (.tmp 44) (.tmp 49) rfl w.heap.size _ _ acc [s.extract fr i] rfl (by go_simp) (HO.out.below (bel wr _)) (RowAt.single (Blk.new_i _ _ _ _) 1 1) (by simp;omega) (bel w _).size ?_));intro v' w' hg;have a3:=hg.on (HO.out.below (bel wr _)) (bel w _).size;have H2:=bB hg.1 ((bel w _).trans a3);have a5:=hg.1.one;clear hg a3;go_wp2_with fail;go_roundw
  case rel=>exact⟨i+1,i+1,acc++[s.extract fr i],by go_num,by go_num,by omega,by omega,by omega,by simp;omega,by rw[a8];exact b0.out,H2.out.2.trans ((bel w' _).mono H2.out.2.size),by rw[yR];exact H2.out.1⟩
  simp[intOf];omega
 have a7:¬(i:Int)<=s.size:=by omega
 have b8:i=s.size+1:=by omega
 have a6:(0,acc)=G:=by rw[<-hgo,b8,Nat.sub_self];rfl
 have a0:=HV.out;rw[<-a6]at a0;simp only[ne_eq,not_true,if_false]at a0;have a1:(if 4<acc.length then(1102,[])else(0,acc))=V:=a0;have HO:=aG hO;obtain⟨a4,c4,rfl⟩:=hO.formL;rw[lM]at *;clear hO hgo a6 a0;by_cases h4:4<acc.length
 .rw[zB h4]at a1;subst a1;have b9:(4:Int)<acc.length:=by omega
  go_wp2_with fail
  go_ret2;exact(ParsedR.nil (bel _ _))
 rw[zA h4]at a1;subst a1;have b9:¬(4:Int)<acc.length:=by omega
 go_wp2_with fail
 go_ret2;exact⟨_,rfl,bel _ _,HO.out.below (bel wr _)⟩
section
structure FineR (S:PSt):Prop where
 wf:S.wf
 root:0<=bH S 1
 found:∀x∈S.ins,∀e∈x.ents,0<=bH S e.num
theorem aCY (n:ByteArray):∀es:List PEnt,pA n es=0\/∃e∈es,pA n es=e.num
 |[]=>.inl rfl
 | e ::es=>by
   unfold pA;split
   .exact .inr ⟨e,zQ,rfl⟩
   rcases aCY n es with h|⟨e',h1,h2⟩
   .exact .inl h
   exact .inr ⟨e',zL _ h1,h2⟩
variable {S:PSt} {n:ByteArray}
theorem FineR.next (h:FineR S) {at_:Int} (hn:bI S at_ n≠0):0<=bH S (bI S at_ n):=by
 unfold bI at hn |-;split at hn
 .exact absurd rfl hn
 rename_i h0;rw[zA h0];split at hn
 .rename_i x hx
  rcases aCY n x.ents with e|⟨e,he,hq⟩
  .exact absurd e hn
  rw[hq];exact h.found x (mG hx) e he
 exact absurd rfl hn
def eB (S:PSt):List ByteArray->Int->List Int->Int × Int × List Int
 |[],at_,th=>(at_,0,th)
 | n::r,at_,th=>match S.ins[(bH S at_).toNat]? with
   |none=>(0,7,th)
   |some x=>if x.dir=true then(if bI S at_ n=0 then(0,1,th++[at_])else eB S r (bI S at_ n) (th++[at_]))else(0,7,th)
theorem aCZ (S:PSt) (iv ov mv v:Value) (ns:List ByteArray) (w:World) (h:StRead w iv ov mv S) (hf:FineR S) (hv:RowAt w 1 v (ns.map λn=>[.string n])) (hl:ns.length<=1000000000):
 Calls Tryz.prog 83 #[.agg #[iv,ov,mv],v] w λe w'=>∃tv,e=.returned (.tuple #[.int .i64 (eB S ns 1 []).1,.int .i64 (eB S ns 1 []).2.1,tv])/\Below w.heap.size w w'/\OwnP w.heap.size w' 3 1 tv ((eB S ns 1 []).2.2.map aK):=by
 have a1:∀(n:Int) ww,Below w.heap.size w ww->Calls Tryz.prog 85 #[.agg #[iv,ov,mv],.int .i64 n] ww _:=λn ww hb=>vH S iv ov mv n ww (h.below hb (zC _)) hf.wf.1;have a0:∀(n:Int) (nm:ByteArray) ww,Below w.heap.size w ww->Calls Tryz.prog 118 #[.agg #[iv,ov,mv],.int .i64 n,.string nm] ww _:=λn nm ww hb=>gJ S iv ov mv n nm ww (h.below hb (zC _)) hf.wf;obtain⟨ai,ni,ci,ao,no,co,am,nm',cm,rfl,rfl,rfl⟩:=h.slices;obtain⟨a,cap',e1,hai⟩:=h.ins_at2;cases e1;obtain⟨aN,cN,rfl,hatN⟩:=hv.at_;rw[lM];generalize hR:eB S ns 1 []=R;have HF:=aG hf;have HI:=aG hai;have HN:=aG hatN;have HR:=aG hR;have a3:=aG a1;have a4:=aG a0;clear h hai hatN hR hf hv a1 a0;go_enter Tryz.func83,Tryz.ntmps83;go_wp2_with fail
 go_loopw[7,8,9] (λv7 v8 v9 wr=>∃(q:Nat) (at_:Int) (th:List Int),v7=.int .i64 at_/\v9=.int .i64 q/\q<=ns.length/\th.length=q/\0<=bH S at_/\eB S (ns.drop q) at_ th=R/\Below w.heap.size w wr/\Blk wr w.heap.size #[.slice ai S.ins.length ci,.slice ao no co,.slice am nm' cm] 26/\OwnP (w.heap.size+1) wr 3 1 v8 (th.map aK)) (λ_ _ i _=>(ns.length-intOf i).toNat)
 case atStart=>exact⟨0,1,[],rfl,rfl,by omega,rfl,HF.out.root,HR.out,bel _ _,Blk.new w _ 26,.inl ⟨rfl,rfl⟩⟩
 obtain⟨q,at_,th,rfl,rfl,hq,hth,hat,hrel',hb,hbk,hO⟩:=hrel;have iB:Bel w wr:=⟨hb⟩;have b7:=hO.one;by_cases hlt:q<ns.length
 .have a5:(q:Int)<ns.length:=by omega
  obtain⟨nm,hnm⟩:∃nm,ns[q]? =some nm:=⟨_,gE hlt⟩;rw[bY hnm]at hrel';obtain⟨k,hk⟩:∃k:Nat,bH S at_=k:=⟨(bH S at_).toNat,by omega⟩;have b2:k<S.ins.length:=by
   rcases fC S at_ with h|h<;>omega
  have b3:(k:Int)<S.ins.length:=by omega
  obtain⟨x,hx⟩:∃x,S.ins[k]? =some x:=⟨_,gE b2⟩;unfold eB at hrel';rw[hk,zJ,hx]at hrel';simp only at hrel';have a1:vB w 85 #[.agg #[.slice ai S.ins.length ci,.slice ao no co,.slice am nm' cm],.int .i64 at_] (.int .i64 k):=λww hb=>by have:=a3.out at_ ww hb;rw[hk]at this;exact this
  have a0:=λww hb=>a4.out at_ nm ww hb;obtain⟨bi,oi,ev,rfl,iI0,hoi,her,hci⟩:=HI.out k x hx;obtain⟨iI,x0,x1,x2,x3⟩:=hci wr hb;obtain⟨bN,oN,rfl,-,iN,hcN⟩:=HN.out wr hb q [.string nm] (by rw[gM,hnm];rfl);have c0:=hcN 0 _ rfl;rw[zN,Nat.mul_one]at c0;obtain⟨iL,s0,s1,s2⟩:=lV hbk;have HB:=bB hbk hO;clear hbk hO hci hcN her x0 x2 x3;rcases hd:x.dir with _|_
  .rw[hd]at x1 hrel';simp only[zP,if_false]at hrel';subst hrel';clear hx hd;go_wp2_with(first|(go_at_call 85;with_reducible refine aE (a1 _ (bel _ _)) λp=>?_))
   go_ret3;exact⟨_,rfl,bel _ _,(HB.out.2.below (bel wr _)).mono (Nat.le_succ _)⟩
  rw[hd]at x1 hrel';simp only[if_true]at hrel';have a6:=aG hrel';have a9:=aG (λh=>HF.out.next (at_:=at_) (n:=nm) h);clear hx hd hrel';generalize bI S at_ nm=num at a0 a6 a9;go_wp2_with(first|(go_at_call 85;with_reducible refine aE (a1 _ (bel _ _)) λp=>?_)|(at_builtin;refine aUF rfl (.tmp 28) (.tmp 30) rfl (w.heap.size+1) _ _ th [at_] rfl (by go_simp) (HB.out.2.below (bel wr _)) (RowAt.single (Blk.new_i _ _ _ _) 1 1) (by simp;omega) (zD HB.out.1.lt.lt (bel wr _).size) ?_));intro v' w' hg;have b4:w.heap.size+1<=wr.heap.size:=HB.out.1.lt.lt;have b0:=hg.on (HB.out.2.below (bel wr _)) (zD b4 (bel wr _).size);have a7:Below w.heap.size w w':=(bel w _).trans (b0.mono (Nat.le_succ _));have a8:Blk w' w.heap.size #[.slice (some ⟨bi,oi,none⟩) S.ins.length ci,.slice ao no co,.slice am nm' cm] 26:=hg.2.1.blk (by first|exact HB.out.1.alloc _|exact(HB.out.1.junk _).alloc _) (λh=>by have:=HB.out.2.ge h;omega);have i2:Bel w w':=⟨a7⟩;obtain⟨iL2,t0,t1,t2⟩:=lV a8;have b1:=hg.1.one;obtain⟨bN',oN',hfN,-,iN2,hcN2⟩:=HN.out w' a7 q [.string nm] (by rw[gM,hnm];rfl);cases hfN;have c2:=hcN2 0 _ rfl;rw[zN,Nat.mul_one]at c2;have a2:=hg.1;have a2:OwnP (w.heap.size+1) w' 3 1 v' ((th++[at_]).map aK):=by rw[yR];exact a2
  have H2:=bB a8 a2;clear hg b0 a7 a8 s0 s1 s2 x1 c0 iI iN iL hcN2 a2;go_upto_region 10 with fail;refine qR ?_
  repeat(go_big_quiet_step ((with_reducible first|refine cI (a0 _ (bel _ _))|refine cJ (a0 _ (bel _ _)))))
  refine QN λp=>?_;by_cases hn0:num=0
  .have hr:=a6.out;rw[zB hn0]at hr;subst hr;have b5:(num==0)=true:=by simpa using hn0
   go_wp2_with fail
   go_ret3;exact⟨_,rfl,bel _ _,by have:=(H2.out.2.below (bel w' (w'.junk p))).mono (Nat.le_succ _);rw[yR]at this;exact this⟩
  have hr:=a6.out;rw[zA hn0]at hr;have b5:(num==0)=false:=by simpa using hn0
  have b6:=aG hr;clear hr;go_wp2_with fail;go_roundw
  case rel=>exact⟨q+1,num,th++[at_],rfl,by go_num,by omega,by simp;omega,a9.out hn0,b6.out,bel _ _,H2.out.1.below (bel w' _) (by first|exact iL2.lt|omega),H2.out.2.below (bel w' _)⟩
  simp[intOf];omega
 have a5:¬(q:Int)<ns.length:=by omega
 rw[zS (by omega)]at hrel';have hr:(at_,0,th)=R:=hrel';subst hr;have HO:=aG hO;clear hO hrel' hbk;go_wp2_with fail
 go_ret3;exact⟨_,rfl,bel _ _,(HO.out.below (bel wr _)).mono (Nat.le_succ _)⟩
theorem aDA (c:Int) (w:World):vR w 84 #[.int .i64 c] (.int .i64 (oH c)):=aQR c w
def fN (S:PSt) (p:ByteArray):Int × Int:=if(bZ p).1≠0 then(0,oH (bZ p).1)else((eB S (bZ p).2 1 []).1,(eB S (bZ p).2 1 []).2.1)
theorem rZ (s:ByteArray):(bZ s).2.length<=4:=by
 unfold bZ;split
 .simp
 split
 .split
  .split
   .simp
   split
   .simp
   split
   .simp
   rename_i h;show(bR s s.size 1 1 []).2.length<=4;omega
  simp
 simp
theorem aQS (S:PSt) (iv ov mv:Value) (p:ByteArray) (w:World) (h:StRead w iv ov mv S) (hf:FineR S):
 vR w 46 #[.agg #[iv,ov,mv],.string p] (.tuple #[.int .i64 (fN S p).1,.int .i64 (fN S p).2]):=by
 have a1:∀ww,Calls Tryz.prog 82 #[.string p] ww _:=λww=>xH p ww;have a2:=rZ p;have a0:∀v ww,Below w.heap.size w ww->RowAt ww 1 v ((bZ p).2.map λn=>[.string n])->Calls Tryz.prog 83 #[.agg #[iv,ov,mv],v] ww _:=λv ww hb hv=>aCZ S iv ov mv v (bZ p).2 ww (h.below hb (zC _)) hf hv (by omega);obtain⟨ai,ni,ci,ao,no,co,am,nm',cm,rfl,rfl,rfl⟩:=h.slices;unfold fN;generalize bZ p=F at a1 a0 a2 |-;obtain⟨c,ns⟩:=F;simp only at a1 a0 a2 |-;clear h;by_cases hc:c=0
 .subst hc;rw[zA (by simp)];simp only;generalize eB S ns 1 []=W at a0 |-;have H3:=aG a0;clear a0
  go_enter Tryz.func46,Tryz.ntmps46;go_wp2_with(first|(go_at_call 82;refine(a1 _).mono ?_;rintro e w1 ⟨v,rfl,hb1,hO1⟩;have a5:=hO1.one;have iB:Bel w w1:=⟨(bel w _).trans (hb1.mono (bel w _).size)⟩;have a3:=hb1;have H1:=bB hO1 hb1;have q0:w1.cell? ⟨w.heap.size,0,none⟩=some (.slice ai ni ci):=(a3.cell (by simp)).trans (by go_simp);have q1:w1.cell? ⟨w.heap.size,1,none⟩=some (.slice ao no co):=(a3.cell (by simp)).trans (by go_simp);have q2:w1.cell? ⟨w.heap.size,2,none⟩=some (.slice am nm' cm):=(a3.cell (by simp)).trans (by go_simp);have iL:BlockLt w.heap.size w1:=⟨by have:=a3.size;simp at this;omega⟩;clear hO1 hb1 a3)|(go_at_call 83;refine(H3.out _ _ (bel _ _) (H1.out.1.row.below (bel w1 _) (zC _))).mono ?_;rintro e w2 ⟨tv,rfl,hb2,hO2⟩;have a6:=hO2.one;obtain⟨p2,rfl⟩:=hb2.rest;clear hb2 hO2))
  go_ret2;exact⟨rfl,bel _ _⟩
 rw[zB hc];simp only;have a7:(c !=0)=true:=by simpa using hc
 have a4:=λww=>aDA c ww;generalize oH c=C at a4 |-;clear a0;go_enter Tryz.func46,Tryz.ntmps46;go_wp2_with(first|(go_at_call 82;refine(a1 _).mono ?_;rintro e w1 ⟨v,rfl,hb1,hO1⟩;have a5:=hO1.one;have iB:Bel w w1:=⟨(bel w _).trans (hb1.mono (bel w _).size)⟩;clear hO1 hb1)|(go_at_call 84;refine aE (a4 _) λp=>?_))
 go_ret2;exact⟨rfl,bel _ _⟩
theorem c46 {iv ov mv:Value} {w:World} {p:ByteArray} {n C:Int} (h:StRead w iv ov mv S) (hf:FineR S) (he:fN S p=(n,C)):vB w 46 #[.agg #[iv,ov,mv],.string p] (.tuple #[.int .i64 n,.int .i64 C]):=λww hb=>by have:=aQS S iv ov mv p ww (h.below hb (zC _)) hf;rw[he]at this;exact this
end
section
theorem wK (S:PSt) (iv ov mv:Value) (n:Int) (w:World) (h:StRead w iv ov mv S) (hlen:S.op.length<=1000000000):
 vR w 63 #[.agg #[iv,ov,mv],.int .i64 n] (.bool (eP S n)):=by
 obtain⟨ai,ni,ci,ao,no,co,am,nm,cm,rfl,rfl,rfl⟩:=h.slices;obtain⟨a,cap,e1,hat⟩:=h.1.at_;rw[lM]at e1;cases e1;have HA:=aG hat;clear hat h;obtain⟨R,hR⟩:∃R,eP S n=R:=⟨_,rfl⟩;rw[hR];unfold eP at hR;have HR:=aG hR;clear hR;go_enter Tryz.func63,Tryz.ntmps63;go_wp2_with fail
 go_loopw[5] (λi wr=>∃(q:Nat),i=.int .i64 q/\q<=S.op.length/\((S.op.drop q).any λd=>d.num==n)=R/\Below w.heap.size w wr/\Blk wr w.heap.size #[.slice ai ni ci,.slice ao S.op.length co,.slice am nm cm] 26) (λi _=>(S.op.length-intOf i).toNat)
 case atStart=>exact⟨0,rfl,by omega,HR.out,bel _ _,Blk.new w _ 26⟩
 case round=>
  obtain⟨q,rfl,hq,hre,hb,hblk⟩:=hrel;have iB:Bel w wr:=⟨hb⟩;have iL:=hblk.lt;have s1:=hblk.cell 1;simp at s1;have HB:=aG hblk;clear hblk;by_cases hlt:q<S.op.length
  .obtain⟨z,hz⟩:∃z,S.op[q]? =some z:=⟨_,gE hlt⟩
   obtain⟨b,off,rfl,iG0,iG,hc⟩:=HA.out wr hb q z.cells (by rw[gM,hz];rfl);have c2:=hc 2 _ rfl;rw[bY hz,List.any_cons]at hre;clear hz hc;rcases hpz:(z.num==n)with _|_
   .rw[hpz,Bool.false_or]at hre;have HZ:=aG hre;clear hre;go_wp2_with fail
    go_roundw
    case rel=>exact⟨q+1,by go_num,by omega,HZ.out,bel _ _,HB.out⟩
    simp[intOf];omega
   rw[hpz,Bool.true_or]at hre;subst hre;go_wp2_with fail;go_ret;exact⟨rfl,bel _ _⟩
  .rw[zS (by omega)]at hre;obtain rfl:R=false:=by rw[<-hre];rfl
   go_wp2_with fail;go_ret;exact⟨rfl,bel _ _⟩

theorem jK (S:PSt):∀g st fd,(fD S g st fd).length=fd.length
 |0,_,fd=>rfl
 |_+1,[],fd=>rfl
 | g + 1,n::st,fd=>by
   unfold fD;split
   .exact jK S g st fd
   split
   .exact jK S g st fd
   split
   .rw[jK,yB]
   rfl
variable {S:PSt} {q:Nat} {x:PIn}
theorem pS (h:¬(1<=S.made.length/\S.made.length<=8/\1<=S.ins.length/\S.ins.length<=257)):kZ S=false:=by unfold kZ;rw[yM h];rfl
theorem aCB (hx:S.ins[0]? =some x) (h:(x.num==1&&x.dir)=false):kZ S=false:=by unfold kZ;rw[hx];simp only[h,yJ,Bool.and_false]
theorem aNB (h:rX S=false):kZ S=false:=by unfold kZ;rw[h];simp only[yJ,Bool.and_false]
theorem aCC {m:Int} (hm:S.made[q]? =some m) (h:¬(0<=m/\m<=32)):kZ S=false:=by
 unfold kZ
 have:(S.made.all λm=>decide (0<=m/\m<=32))=false:=by rw[List.all_eq_false];exact⟨m,mG hm,by simpa using h⟩
 rw[this];simp only[yJ,Bool.and_false]
theorem aNC (hx:S.ins[q]? =some x) (h:inR S q x=false):kZ S=false:=by
 rcases e:kZ S with _|_
 .rfl
 unfold kZ at e;simp only[zE]at e;have:=sG e.2.2.2.2 hx;rw[h]at this;cases this
theorem aND (h1:1<=S.made.length/\S.made.length<=8/\1<=S.ins.length/\S.ins.length<=257) (hx:S.ins[0]? =some x) (h2:(x.num==1&&x.dir)=true) (h3:rX S=true) (h4:∀(q:Nat) (m:Int),S.made[q]? =some m->0<=m/\m<=32) (h5:∀(q:Nat) (x:PIn),S.ins[q]? =some x->inR S q x=true):kZ S=true:=by
 unfold kZ;rw[decide_eq_true h1,hx,h3];simp only[h2,xA,zE,yX,zI];refine⟨λm hm=>?_,?_⟩
 .obtain⟨q,hq⟩:=List.mem_iff_getElem?.1 hm;exact h4 q m hq
 unfold aEN;rw[yX];intro q hq;have hl:=List.mem_range.1 hq;rw[gE hl];exact h5 q _ (gE hl)
theorem aSD (S : PSt) (iv ov mv:Value) (w:World) (h:StRead w iv ov mv S) (hwf:S.wf):
 vR w 30 #[.agg #[iv,ov,mv]] (.bool (kZ S)):=by
 have b8:vB w 58 #[.agg #[iv,ov,mv]] (.bool (rX S)):=λww hb=>by have:=aSZ S iv ov mv ww (h.below hb (zC _)) hwf;exact this
 have b9:S.ins.length<=257->∀ww,Below w.heap.size w ww->Calls Tryz.prog 59 #[.agg #[iv,ov,mv]] ww λe w'=>∃F:Nat,e=.returned (.slice (some ⟨F,0,none⟩) S.ins.length S.ins.length)/\Below ww.heap.size ww w'/\RowAt w' 1 (.slice (some ⟨F,0,none⟩) S.ins.length S.ins.length) ((eM S).map bK):=λh257 ww hb=>aKS S iv ov mv ww (h.below hb (zC _)) hwf (by omega);have c2:∀n ww,I64 n->Below w.heap.size w ww->vR ww 60 #[.agg #[iv,ov,mv],.int .i64 n] (.bool (pB S n)):=λn ww hn hb=>aQQ S iv ov mv n hn ww (h.below hb (zC _)) hwf;have c3:∀n ww,Below w.heap.size w ww->vR ww 62 #[.agg #[iv,ov,mv],.int .i64 n] (.int .i64 (cQ S n)):=λn ww hb=>aAU S iv ov mv n ww (h.below hb (zC _)) hwf;have c4:∀xn xd xs ev es ww,Below w.heap.size w ww->RowAt w 2 ev (es.map PEnt.cells)->es.length<=1000000000->vR ww 61 #[.agg #[iv,ov,mv],.agg #[.int .i64 xn,.bool xd,ev,.string xs]] (.bool (uI S es)):=λxn xd xs ev es ww hb he hl=>aKR S iv ov mv xn xd xs ev es ww (h.below hb (zC _)) hwf (he.below hb (zC _)) hl;have c5:∀n ww,Below w.heap.size w ww->vR ww 63 #[.agg #[iv,ov,mv],.int .i64 n] (.bool (eP S n)):=λn ww hb=>wK S iv ov mv n ww (h.below hb (zC _)) hwf.2.1;obtain⟨ai,ni,ci,ao,no,co,am,nm,cm,rfl,rfl,rfl⟩:=h.slices;obtain⟨a,cap,e1,hai⟩:=h.ins_at2;cases e1;obtain⟨a,cap,e1,ham⟩:=h.2.1.at_;rw[lM]at e1;cases e1;generalize hM:kZ S=M;have HI:=aG hai;have HM:=aG ham;have d8:=aG hwf;by_cases a1:S.made.length<1
 .obtain rfl:M=false:=by rw[<-hM];exact pS (by omega)
  have g1:(S.made.length:Int)<1:=by omega
  clear hai ham hwf h b8 b9 c2 c4 c3 c5 hM;go_enter Tryz.func30,Tryz.ntmps30;go_wp2_with fail;go_ret;exact⟨rfl,bel _ _⟩
 have g1:¬(S.made.length:Int)<1:=by omega
 by_cases a2:8<S.made.length
 .obtain rfl:M=false:=by rw[<-hM];exact pS (by omega)
  have g2:(8:Int)<S.made.length:=by omega
  clear hai ham hwf h b8 b9 c2 c4 c3 c5 hM;go_enter Tryz.func30,Tryz.ntmps30;go_wp2_with fail;go_ret;exact⟨rfl,bel _ _⟩
 have g2:¬(8:Int)<S.made.length:=by omega
 by_cases a3:S.ins.length<1
 .obtain rfl:M=false:=by rw[<-hM];exact pS (by omega)
  have g3:(S.ins.length:Int)<1:=by omega
  clear hai ham hwf h b8 b9 c2 c4 c3 c5 hM;go_enter Tryz.func30,Tryz.ntmps30;go_wp2_with fail;go_ret;exact⟨rfl,bel _ _⟩
 have g3:¬(S.ins.length:Int)<1:=by omega
 have g5:0<S.ins.length:=by omega
 have g6:(0:Int)<S.ins.length:=by omega
 obtain⟨x0,hx0⟩:∃x,S.ins[0]? =some x:=⟨_,gE (by omega)⟩;obtain⟨bi,oi,ev0,rfl,iI0,hoi,her0,hci0⟩:=hai 0 x0 hx0;obtain⟨iI,y0,y1,y2,y3⟩:=hci0 w (Below.refl _ _);simp only[Nat.zero_mul,zN]at y0 y1;by_cases hn0:x0.num=1;rotate_left
 .obtain rfl:M=false:=by rw[<-hM];exact aCB hx0 (by simp[hn0])
  have e7:(x0.num !=1)=true:=by simpa using hn0
  clear hai ham hwf h b8 b9 c2 c4 c3 c5 hM y2 y3 her0 hci0 hoi hx0;go_enter Tryz.func30,Tryz.ntmps30;go_wp2_with fail;go_ret;exact⟨rfl,bel _ _⟩
 rcases hd0:x0.dir with _|_
 .obtain rfl:M=false:=by rw[<-hM];exact aCB hx0 (by simp[hd0])
  rw[hn0]at y0;rw[hd0]at y1;clear hai ham hwf h b8 b9 c2 c4 c3 c5 hM y2 y3 her0 hci0 hoi hx0;go_enter Tryz.func30,Tryz.ntmps30;go_wp2_with fail;go_ret;exact⟨rfl,bel _ _⟩
 rw[hn0]at y0;rw[hd0]at y1;have c8:=dR hx0 hn0 hd0;rcases hop:rX S with _|_
 .obtain rfl:M=false:=by rw[<-hM];exact aNB hop
  rw[hop]at b8;clear hai ham hwf h b9 c2 c4 c3 c5 hM y2 y3 her0 hci0 hoi hx0 hop hn0 hd0;go_enter Tryz.func30,Tryz.ntmps30;go_wp2_with((go_at_call 58;with_reducible refine aE (b8 _ (bel _ _)) λp=>?_));go_ret;exact⟨rfl,bel _ _⟩
 rw[hop]at b8;have d9:=aG hop;have c9:=aG hM;clear hai ham hwf h hM y2 y3 her0 hci0 hoi hx0 hop hn0 hd0;go_enter Tryz.func30,Tryz.ntmps30;go_wp2_with((go_at_call 58;with_reducible refine aE (b8 _ (bel _ _)) λp=>?_))
 go_loopw[3] (λi wr=>∃(q:Nat),i=.int .i64 q/\q<=S.made.length/\(∀(j:Nat) (m:Int),j<q->S.made[j]? =some m->0<=m/\m<=32)/\Below w.heap.size w wr/\Blk wr w.heap.size #[.slice (some ⟨bi,oi,none⟩) S.ins.length ci,.slice ao no co,.slice am S.made.length cm] 26) (λi _=>(S.made.length-intOf i).toNat)
 case atStart=>exact⟨0,rfl,by omega,λj m hj=>by omega,bel _ _,(Blk.new w _ 26).junk _⟩
 clear y0 y1 iI
 rename World=>wq
 obtain⟨q,rfl,hq,hpre,hb,hblk⟩:=hrel;have iB:Bel w wq:=⟨hb⟩;obtain⟨iL,s0,s1,s2⟩:=lV hblk;have HB:=aG hblk;have b1:=aG hpre;clear hblk hpre;by_cases hlt:q<S.made.length
 .obtain⟨z,hz⟩:∃z,S.made[q]? =some z:=⟨_,gE hlt⟩
  obtain⟨b,off,rfl,iG0,iG,hc⟩:=HM.out wq hb q (aK z) (by rw[gM,hz];rfl);have c0:=hc 0 _ rfl;rw[Nat.mul_one,zN]at c0;have c6:(q:Int)<S.made.length:=by omega
  by_cases z0:z<0
  .obtain rfl:M=false:=by rw[<-c9.out];exact aCC hz (by omega)
   clear hc hz;go_wp2_with fail;go_ret;exact⟨rfl,bel _ _⟩
  by_cases z1:32<z
  .obtain rfl:M=false:=by rw[<-c9.out];exact aCC hz (by omega)
   clear hc hz;go_wp2_with fail;go_ret;exact⟨rfl,bel _ _⟩
  have HZ:=aG hz;have e0:=aG (show 0<=z/\z<=32 by omega);clear hc hz;go_wp2_with fail;go_roundw
  case rel=>
   refine⟨q+1,by go_num,by omega,λj m hj hm=>?_,bel _ _,HB.out⟩;by_cases e:j=q
   .subst e;rw[HZ.out]at hm;cases hm;exact e0.out
   exact b1.out j m (by omega) hm
  simp[intOf];omega
 have c6 : ¬ (q : Int) <S.made.length:=by omega
 by_cases a4:257<S.ins.length
 .obtain rfl:M=false:=by rw[<-c9.out];exact pS (by omega)
  have g4:(257:Int)<S.ins.length:=by omega
  go_wp2_with fail;go_ret;exact⟨rfl,bel _ _⟩
 have g4:¬(257:Int)<S.ins.length:=by omega
 have d0:=aG (show ∀(j:Nat) (m:Int),S.made[j]? =some m->0<=m/\m<=32 from λj m hm=>b1.out j m (by obtain⟨h,_⟩:=gI.1 hm;omega) hm);clear b1;go_wp2_with(go_at_call 59;with_reducible refine(b9 (by omega) _ (bel _ _)).mono ?_;rintro e w8 ⟨F,rfl,hb8,hF⟩;have i8:Bel w w8:=⟨(bel w _).trans (hb8.mono (bel w _).size)⟩;have d6:=(Keep.of_below hb8 (λ_=>False)).blk HB.out (λh=>h);have HF:=dR hF d6 i8.below;clear hF d6 hb8)
 go_loopw[5] (λi wr=>∃(q:Nat),i=.int .i64 q/\q<=S.ins.length/\(∀(j:Nat) (x:PIn),j<q->S.ins[j]? =some x->inR S j x=true)/\Below w.heap.size w wr/\Blk wr w.heap.size #[.slice (some ⟨bi,oi,none⟩) S.ins.length ci,.slice ao no co,.slice am S.made.length cm] 26/\RowAt wr 1 (.slice (some ⟨F,0,none⟩) S.ins.length S.ins.length) ((eM S).map bK)) (λi _=>(S.ins.length-intOf i).toNat)
 case atStart=>exact⟨0,rfl,by omega,λj m hj=>by omega,HF.out.2.2,HF.out.2.1,HF.out.1⟩
 clear s0 s1 s2 iB iL;obtain⟨q,rfl,hq,hpre,hb,hblk,hF⟩:=hrel;have iB:Bel w wr:=⟨hb⟩;obtain⟨iL,s0,s1,s2⟩:=lV hblk;have HB:=bB hblk hF;have b1:=aG hpre;clear hblk hpre;by_cases hlt:q<S.ins.length
 .obtain ⟨x, hx⟩ : ∃ x,S.ins[q]? =some x:=⟨_,gE hlt⟩
  have b5:inR S q x=false->M=false:=λhi=>by rw[<-c9.out];exact aNC hx hi
  have b3:q=0->x.num=1/\x.dir=true:=λe=>by subst e;have:=c8.out.1;rw[hx]at this;cases this;exact c8.out.2
  have a6:inR S q x=true->∀(j:Nat) (y:PIn),j<q+1->S.ins[j]? =some y->inR S j y=true:=λhi j y hj hy=>by
   by_cases e:j=q
   .subst e;rw[hx]at hy;cases hy;exact hi
   exact b1.out j y (by omega) hy
  clear b1;unfold inR at b5;unfold inR at a6;obtain⟨bi',oi',ev,he,-,hoi,her,hci⟩:=HI.out q x hx;cases he;obtain⟨iI,x0,x1,x2,x3⟩:=hci wr hb;obtain⟨aF,cF,eF,hatF⟩:=hF.at_;simp only[zO]at eF;obtain⟨rfl,-,rfl⟩:=eF;have e2:(eM S).length=S.ins.length:=by unfold eM;rw[jK];simp
  obtain⟨f,hre⟩:∃f,(eM S)[q]? =some f:=⟨_,gE (by omega)⟩;have d3:(eM S).getD q false=f:=by rw[zG,hre];rfl
  rw[d3]at b5;obtain⟨bF,oF,hf,-,iF,hcf⟩:=hatF wr (Below.refl _ _) q (bK f) (by rw[gM,hre];rfl);cases hf;have f0:=hcf 0 _ rfl;rw[Nat.mul_one,zN,zM]at f0;have d2:=d8.out.2.2.2.1 x (mG hx);have a0:vB w 61 #[.agg #[.slice (some ⟨bi,oi,none⟩) S.ins.length ci,.slice ao no co,.slice am S.made.length cm],.agg #[.int .i64 x.num,.bool x.dir,ev,.string x.data]] (.bool (uI S x.ents)):=λww hb=>c4 x.num x.dir x.data ev x.ents ww hb her d2.2.1;have a5:=λww hb=>c2 x.num ww d2.1 hb;have a9:=λww hb=>c3 x.num ww hb;have b0:=λww hb=>c5 x.num ww hb;obtain⟨ae,ce,rfl,-⟩:=her.at_;rw[lM]at x2 a0;have c6:(q:Int)<S.ins.length:=by omega
  have e3:=d2.2.1;have b6:∀k,q=k+1->∃m,wr.cell? ⟨bi,oi+k*4,none⟩=some (.int .i64 m)/\m=jQ S k:=by intro k hk;obtain⟨y,hy⟩:∃y,S.ins[k]? =some y:=⟨_,gE (by omega)⟩;obtain⟨_,_,_,he2,-,_,_,hci2⟩:=HI.out k y hy;cases he2;exact⟨y.num,(hci2 wr hb).2.1,by simp[jQ,hy]⟩
  obtain⟨xn,xd,xe,xs⟩:=x;simp only at x0 x1 x2 x3 a0 a5 a9 b0 e3 b5 b3;have c7:(∀(j:Nat) (y:PIn),j<q+1->S.ins[j]? =some y->inR S j y=true)\/True:=.inr trivial;rw[d3]at a6;simp only at a6;generalize cQ S xn=ln at a9 b5 a6;generalize eP S xn=io at b0 b5 a6;generalize pB S xn=gv at a5 b5 a6;generalize uI S xe=en at a0 b5 a6;clear hcf hatF her hoi hci hx hre hF d2 c2 c4 c3 c5 b8 b9 d3 c7 e2;have d4:(256<xs.size/\decide (xs.size<=256)=false)\/(xs.size<=256/\decide (xs.size<=256)=true):=by
   by_cases e:xs.size<=256
   .exact .inr ⟨e,decide_eq_true e⟩
   exact .inl ⟨by omega,yM e⟩
  have d7:(xs={ data:=#[]}/\(xs.size==0)=true)\/(xs.toList≠[]/\(xs.size==0)=false):=by
   obtain⟨dd⟩:=xs;by_cases e:dd.size=0
   .left;rw[Array.eq_empty_of_size_eq_zero e];exact⟨rfl,rfl⟩
   right;refine⟨λhn=>?_,by rw[yF];exact e⟩;rw[zW]at hn;exact e (by have:=congrArg List.length hn;simpa using this)
  have e4:(xe=[]/\xe.isEmpty=true)\/(0<xe.length/\xe.isEmpty=false):=by
   rcases xe with _|⟨e,r⟩
   .exact .inl ⟨rfl,rfl⟩
   exact .inr ⟨by simp,rfl⟩
  have e5:(ln=1/\(ln==1)=true)\/(ln≠1/\(ln==1)=false):=by
   by_cases e:ln=1
   .exact .inl ⟨e,by simpa using e⟩
   exact .inr ⟨e,by simpa using e⟩
  rcases q with _|k
  .obtain ⟨hr1,hr2⟩:=b3 rfl;subst hr1 hr2;clear b3 b6;have a7:=aG b5;have b4:=aG a6;clear b5 a6;simp only[Nat.zero_mul,zN]at x0 x1 x2 x3 f0;rcases d4 with⟨s1,hs⟩|⟨s1,hs⟩
   .have a8:(256:Int)<xs.size:=by omega
    have b7:decide ((256:Int)<xs.size)=true:=decide_eq_true a8;have HE:=aG (a7.out (by simp[hs]));clear a7 b4
    as_aux_lemma=>
     go_wp2_with fail;refine qR ?_
     repeat(go_big_quiet_step (first|(with_reducible first|refine cI (a5 _ (bel _ _))|refine cJ (a5 _ (bel _ _)))|(with_reducible first|refine cI (a0 _ (bel _ _))|refine cJ (a0 _ (bel _ _)))))
     refine QN λp=>?_;go_wp2_with fail;obtain rfl:M=false:=HE.out;go_ret;exact⟨rfl,bel _ _⟩
   have a8:¬(256:Int)<xs.size:=by omega
   have b7:decide ((256:Int)<xs.size)=false:=yM a8;rcases d7 with⟨rfl,hd⟩|⟨d1,hd⟩
   .as_aux_lemma=>
     go_wp2_with fail;refine qR ?_
     repeat(go_big_quiet_step (first|(with_reducible first|refine cI (a5 _ (bel _ _))|refine cJ (a5 _ (bel _ _)))|(with_reducible first|refine cI (a0 _ (bel _ _))|refine cJ (a0 _ (bel _ _)))))
     refine QN λp=>?_;rcases en with _|_
     .have HE:=aG (a7.out (by simp[hs,hd]));go_wp2_with fail;obtain rfl:M=false:=HE.out;go_ret;exact⟨rfl,bel _ _⟩
     have HE:=aG (b4.out (by simp[hs,hd]));go_wp2_with(first|(go_at_call 62;with_reducible refine aE (a9 _ (bel _ _)) λp31=>?_)|(go_at_call 63;with_reducible refine aE (b0 _ (bel _ _)) λp32=>?_));go_roundw
     case rel=>exact⟨0+1,by go_num,by omega,HE.out,bel _ _,(Keep.of_below (bel wr _) (λ_=>False)).blk HB.out.1 (λh=>h),HB.out.2.below (bel wr _) (zC _)⟩
     simp[intOf];omega
   have dE:(xs.toList==[])=false:=by simpa using d1
   have HE:=aG (a7.out (by simp[hs,hd]));clear a7 b4
   as_aux_lemma=>
    go_wp2_with fail;refine qR ?_
    repeat(go_big_quiet_step (first|(with_reducible first|refine cI (a5 _ (bel _ _))|refine cJ (a5 _ (bel _ _)))|(with_reducible first|refine cI (a0 _ (bel _ _))|refine cJ (a0 _ (bel _ _)))))
    refine QN λp=>?_;go_wp2_with fail;obtain rfl:M=false:=HE.out;go_ret;exact⟨rfl,bel _ _⟩
  obtain ⟨m, y0, hm⟩:=b6 k rfl;clear b3 b6;have kI:((k+1:Nat):Int)-1=k:=by omega
  have kW:IntKind.i64.wrap (k:Int)=k:=I64.wrap ⟨by omega,by omega⟩;have kl:k<S.ins.length:=by omega
  have e8:(k:Int)<S.ins.length:=by omega
  have k0:(0:Int)<((k+1:Nat):Int):=by omega
  have e9:decide ((0:Int)<((k+1:Nat):Int))=true:=decide_eq_true k0;rw[Nat.add_sub_cancel]at b5 a6;have a7:=aG b5;have b4:=aG a6;clear b5 a6;by_cases c1:jQ S k<xn
  .have b2 :decide (jQ S k<xn)=true:=decide_eq_true c1;have d5:¬xn<=m:=by omega
   have e6:decide (xn<=m)=false:=yM d5;clear hm c1;rcases gv with _|_
   .have HE:=aG (a7.out (by simp[b2]));clear a7 b4
    as_aux_lemma=>
     go_wp2_with fail;refine qR ?_
     repeat(go_big_quiet_step (first|(with_reducible first|refine cI (a5 _ (bel _ _))|refine cJ (a5 _ (bel _ _)))|(with_reducible first|refine cI (a0 _ (bel _ _))|refine cJ (a0 _ (bel _ _)))))
     refine QN λp=>?_;go_wp2_with fail;obtain rfl:M=false:=HE.out;go_ret;exact⟨rfl,bel _ _⟩
   rcases xd with _|_
   .rcases d4 with⟨s1,hs⟩|⟨s1,hs⟩
    .have a8:(256:Int)<xs.size:=by omega
     have b7:decide ((256:Int)<xs.size)=true:=decide_eq_true a8;have HE:=aG (a7.out (by simp[b2,hs]));clear a7 b4
     as_aux_lemma=>
      go_wp2_with fail;refine qR ?_
      repeat(go_big_quiet_step (first|(with_reducible first|refine cI (a5 _ (bel _ _))|refine cJ (a5 _ (bel _ _)))|(with_reducible first|refine cI (a0 _ (bel _ _))|refine cJ (a0 _ (bel _ _)))))
      refine QN λp=>?_;go_wp2_with fail;obtain rfl:M=false:=HE.out;go_ret;exact⟨rfl,bel _ _⟩
    have a8:¬(256:Int)<xs.size:=by omega
    have b7:decide ((256:Int)<xs.size)=false:=yM a8;rcases e4 with⟨rfl,hd⟩|⟨d1,hd⟩
    .as_aux_lemma=>
      go_wp2_with fail;refine qR ?_
      repeat(go_big_quiet_step (first|(with_reducible first|refine cI (a5 _ (bel _ _))|refine cJ (a5 _ (bel _ _)))|(with_reducible first|refine cI (a0 _ (bel _ _))|refine cJ (a0 _ (bel _ _)))))
      refine QN λp=>?_;rcases en with _|_
      .have HE:=aG (a7.out (by simp[b2,hs,hd]));go_wp2_with fail;obtain rfl:M=false:=HE.out;go_ret;exact⟨rfl,bel _ _⟩
      rcases f with _|_
      .rcases io with _|_
       .have HE:=aG (a7.out (by simp[b2,hs,hd]));go_wp2_with(first|(go_at_call 62;with_reducible refine aE (a9 _ (bel _ _)) λp31=>?_)|(go_at_call 63;with_reducible refine aE (b0 _ (bel _ _)) λp32=>?_))
        obtain rfl:M=false:=HE.out;go_ret;exact⟨rfl,bel _ _⟩
       have HE:=aG (b4.out (by simp[b2,hs,hd]));go_wp2_with(first|(go_at_call 62;with_reducible refine aE (a9 _ (bel _ _)) λp31=>?_)|(go_at_call 63;with_reducible refine aE (b0 _ (bel _ _)) λp32=>?_));go_roundw
       case rel=>exact⟨k+1+1,by go_num,by omega,HE.out,bel _ _,(Keep.of_below (bel wr _) (λ_=>False)).blk HB.out.1 (λh=>h),HB.out.2.below (bel wr _) (zC _)⟩
       simp[intOf];omega
      have HE:=aG (b4.out (by simp[b2,hs,hd]));go_wp2_with(first|(go_at_call 62;with_reducible refine aE (a9 _ (bel _ _)) λp31=>?_)|(go_at_call 63;with_reducible refine aE (b0 _ (bel _ _)) λp32=>?_));go_roundw
      case rel=>exact⟨k+1+1,by go_num,by omega,HE.out,bel _ _,(Keep.of_below (bel wr _) (λ_=>False)).blk HB.out.1 (λh=>h),HB.out.2.below (bel wr _) (zC _)⟩
      simp[intOf];omega
    have dI:(0:Int)<xe.length:=by omega
    have f1:decide ((0:Int)<xe.length)=true:=decide_eq_true dI;have HE:=aG (a7.out (by simp[b2,hs,hd]));clear a7 b4
    as_aux_lemma=>
     go_wp2_with fail;refine qR ?_
     repeat(go_big_quiet_step (first|(with_reducible first|refine cI (a5 _ (bel _ _))|refine cJ (a5 _ (bel _ _)))|(with_reducible first|refine cI (a0 _ (bel _ _))|refine cJ (a0 _ (bel _ _)))))
     refine QN λp=>?_;go_wp2_with fail;obtain rfl:M=false:=HE.out;go_ret;exact⟨rfl,bel _ _⟩
   rcases d4 with⟨s1,hs⟩|⟨s1,hs⟩
   .have a8:(256:Int)<xs.size:=by omega
    have b7:decide ((256:Int)<xs.size)=true:=decide_eq_true a8;have HE:=aG (a7.out (by simp[b2,hs]));clear a7 b4
    as_aux_lemma=>
     go_wp2_with fail;refine qR ?_
     repeat(go_big_quiet_step (first|(with_reducible first|refine cI (a5 _ (bel _ _))|refine cJ (a5 _ (bel _ _)))|(with_reducible first|refine cI (a0 _ (bel _ _))|refine cJ (a0 _ (bel _ _)))))
     refine QN λp=>?_;go_wp2_with fail;obtain rfl:M=false:=HE.out;go_ret;exact⟨rfl,bel _ _⟩
   have a8:¬(256:Int)<xs.size:=by omega
   have b7:decide ((256:Int)<xs.size)=false:=yM a8;rcases d7 with⟨rfl,hd⟩|⟨d1,hd⟩
   .as_aux_lemma=>
     go_wp2_with fail;refine qR ?_
     repeat(go_big_quiet_step (first|(with_reducible first|refine cI (a5 _ (bel _ _))|refine cJ (a5 _ (bel _ _)))|(with_reducible first|refine cI (a0 _ (bel _ _))|refine cJ (a0 _ (bel _ _)))))
     refine QN λp=>?_;rcases en with _|_
     .have HE:=aG (a7.out (by simp[b2,hs,hd]));go_wp2_with fail;obtain rfl:M=false:=HE.out;go_ret;exact⟨rfl,bel _ _⟩
     rcases e5 with⟨rfl,l2⟩|⟨l1,l2⟩
     .rcases f with _|_
      .have HE:=aG (a7.out (by simp[b2,hs,hd,l2]));go_wp2_with(first|(go_at_call 62;with_reducible refine aE (a9 _ (bel _ _)) λp31=>?_)|(go_at_call 63;with_reducible refine aE (b0 _ (bel _ _)) λp32=>?_))
       obtain rfl:M=false:=HE.out;go_ret;exact⟨rfl,bel _ _⟩
      have HE:=aG (b4.out (by simp[b2,hs,hd,l2]));go_wp2_with(first|(go_at_call 62;with_reducible refine aE (a9 _ (bel _ _)) λp31=>?_)|(go_at_call 63;with_reducible refine aE (b0 _ (bel _ _)) λp32=>?_));go_roundw
      case rel=>exact⟨k+1+1,by go_num,by omega,HE.out,bel _ _,(Keep.of_below (bel wr _) (λ_=>False)).blk HB.out.1 (λh=>h),HB.out.2.below (bel wr _) (zC _)⟩
      simp[intOf];omega
     have lb:(ln !=1)=true:=by simpa using l1
     have HE:=aG (a7.out (by simp[b2,hs,hd,l2]));go_wp2_with(first|(go_at_call 62;with_reducible refine aE (a9 _ (bel _ _)) λp31=>?_)|(go_at_call 63;with_reducible refine aE (b0 _ (bel _ _)) λp32=>?_));obtain rfl:M=false:=HE.out;go_ret;exact⟨rfl,bel _ _⟩
   have dE:(xs.toList==[])=false:=by simpa using d1
   have HE:=aG (a7.out (by simp[b2,hs,hd]));clear a7 b4
   as_aux_lemma=>
    go_wp2_with fail;refine qR ?_
    repeat(go_big_quiet_step (first|(with_reducible first|refine cI (a5 _ (bel _ _))|refine cJ (a5 _ (bel _ _)))|(with_reducible first|refine cI (a0 _ (bel _ _))|refine cJ (a0 _ (bel _ _)))))
    refine QN λp=>?_;go_wp2_with fail;obtain rfl:M=false:=HE.out;go_ret;exact⟨rfl,bel _ _⟩
  have b2:decide (jQ S k<xn)=false:=yM c1;have d5:xn<=m:=by omega
  have e6:decide (xn<=m)=true:=decide_eq_true d5;clear hm c1;have HE:=aG (a7.out (by simp[b2]));clear a7 b4
  as_aux_lemma=>
   go_wp2_with fail;refine qR ?_
   repeat(go_big_quiet_step (first|(with_reducible first|refine cI (a5 _ (bel _ _))|refine cJ (a5 _ (bel _ _)))|(with_reducible first|refine cI (a0 _ (bel _ _))|refine cJ (a0 _ (bel _ _)))))
   refine QN λp=>?_;go_wp2_with fail;obtain rfl:M=false:=HE.out;go_ret;exact⟨rfl,bel _ _⟩
 have c6:¬(q:Int)<S.ins.length:=by omega
 have hy:M=true:=by rw[<-c9.out];refine aND ⟨by omega,by omega,by omega,by omega⟩ c8.out.1 (by rw[c8.out.2.1,c8.out.2.2];rfl) d9.out d0.out (λj x hx=>b1.out j x (by obtain⟨h,_⟩:=gI.1 hx;omega) hx)
 subst hy;go_wp2_with fail;go_ret;exact⟨rfl,bel _ _⟩
end
theorem aLQ:(Tryz.prog.fieldsOf 61).toList.map (λf=>(f.name,f.type,f.offset))=[("Num",3,0),("Name",9,1)]:=by kernel_rfl
theorem aRO:Tryz.prog.stoodInHeld 61=false:=by kernel_rfl
theorem aGK:Tryz.prog.eqGuardType Tryz.prog.depth 61=false:=by kernel_rfl
theorem aPM:Tryz.prog.underlying 61=some (.struct (Tryz.prog.fieldsOf 61)):=by kernel_rfl
theorem aRP (x y:PKey):decide (x=y)=((x.num==y.num)&&(x.name.toList==y.name.toList)):=by
 rw[Bool.eq_iff_iff,decide_eq_true_iff,zE,beq_iff_eq,beq_iff_eq,zW,zW];constructor
 .intro h;subst h;exact⟨rfl,rfl⟩
 intro⟨h1,h2⟩;rcases x with⟨xn,⟨⟨xs⟩⟩⟩
 rcases y with⟨yn,⟨⟨ys⟩⟩⟩
 simp only at h1 h2;subst h1;have h3:xs=ys:=h2;rw[h3]
theorem aGL (x y:PKey) (w:World):(Op.equalIn 10000 61 (.agg #[.int .i64 x.num,.string x.name]) (.agg #[.int .i64 y.num,.string y.name])).run Tryz.prog w=.ok (decide (x=y)) w:=by
 rw[run_equalIn_agg w 9999 61 _ _ aPM aRO,aRP];have hf:=aLQ;rcases hl:(Tryz.prog.fieldsOf 61).toList with _|⟨f1,_|⟨f2,_|⟨f3,r⟩⟩⟩
 .rw[hl]at hf;simp at hf
 .rw[hl]at hf;simp at hf
 .rw[hl]at hf;simp only[yZ,List.map_nil,List.cons.injEq,Prod.mk.injEq,and_true]at hf;obtain⟨⟨n1,t1,o1⟩,n2,t2,o2⟩:=hf;simp only[Op.eqFields];rw[zB (by rw[n1];decide),zB (by rw[n2];decide),t1,t2,o1,o2];have p1:∀(k:PKey) w,(part 3 #[.int .i64 k.num,.string k.name] 0).run Tryz.prog w=.ok (.int .i64 k.num) w:=λk w=>by
   have h3:=Tryz.sizeOf3 w;have h4:=Tryz.isAgg3 w;simp[part,go_sem,h3,h4]
  have p2:∀(k:PKey) w,(part 9 #[.int .i64 k.num,.string k.name] 1).run Tryz.prog w=.ok (.string k.name) w:=λk w=>by have h3:=Tryz.sizeOf9 w;have h4:=Tryz.isAgg9 w;simp[part,go_sem,h3,h4]
  simp only[Sem.run_bind,p1,p2,Result.andThen_ok,run_equalIn_int w 9998 3 .i64 .i64 _ _ Tryz.underlying3];rcases h1:(x.num==y.num)with _|_
  .simp
  simp only[Bool.not_true,zP,if_false,Sem.run_bind,p1,p2,Result.andThen_ok,run_equalIn_string w 9998 9 _ _ Tryz.underlying9];rcases h2:(x.name.toList==y.name.toList)with _|_
  .simp
  simp
 rw[hl]at hf;simp at hf
theorem aGM (x y:PKey) (w:World):(binOp .eql 61 (.agg #[.int .i64 x.num,.string x.name]) (.agg #[.int .i64 y.num,.string y.name])).run Tryz.prog w=.ok (.bool (decide (x=y))) w:=by rw[run_eql_struct,aGL];rfl
theorem aTP (x y:PKey) (w:World):(binOp .neq 61 (.agg #[.int .i64 x.num,.string x.name]) (.agg #[.int .i64 y.num,.string y.name])).run Tryz.prog w=.ok (.bool (!decide (x=y))) w:=by rw[run_neq_struct,aGL];rfl
def lR (p:PKey):List PKey->List PKey
 |[]=>[]
 |y::r=>if y=p then lR p r else y::lR y r
def cO:List PKey->List PKey
 |[]=>[]
 |x::r=>x::lR x r
theorem mJ:∀(r:List PKey) (p z:PKey),lR p (r++[z])=lR p r++(if z=(p::r).getLast (by simp)then[]else[z])
 | [],p,z=>by simp only[List.nil_append,lR,List.getLast_singleton];rfl
 | y::r,p,z=>by
   simp only[List.cons_append,lR];rw[mJ r p z,mJ r y z];have e1:(p::y::r).getLast (by simp)=(y::r).getLast (by simp):=List.getLast_cons _;by_cases h:y=p
   .subst h;rw[zB rfl,zB rfl,e1]
   rw[zA h,zA h,e1];rfl
theorem rO (l:List PKey) (m:Nat) (x y:PKey) (hx:l[m]? =some x) (hy:l[m+1]? =some y):cO (l.take (m+2))=cO (l.take (m+1))++(if y=x then[]else[y]):=by
 obtain⟨hl,rfl⟩:=gI.1 hy;obtain⟨hl2,rfl⟩:=gI.1 hx;rw[List.take_succ_eq_append_getElem (by omega)];rcases l with _|⟨a,r⟩
 .simp at hl
 rw[List.take_succ_cons,List.cons_append];simp only[cO];rw[mJ,List.cons_append];congr 3
 have:(a::r.take m).getLast (by simp)=(a::r)[m]:=by
  rw[List.getLast_eq_getElem];simp only[zK,zU];have e:min m r.length=m:=by simp at hl;omega
  rcases m with _|m
  .simp
  simp[e]
 rw[this]
theorem aPN (w:World):(zeroValue 61).run Tryz.prog w=.ok (.agg #[.int .i64 0,.string { data:=#[]}]) w:=by kernel_rfl
theorem aIJ (B g cap:Nat) (ks:List PKey) (w:World) (h:OwnP B w 61 2 (.slice (some ⟨g,0,none⟩) ks.length cap) (ks.map PKey.cells)) (hlen:ks.length<=1000000):
 Calls Tryz.prog 80 #[.slice (some ⟨g,0,none⟩) ks.length cap] w λe w'=>e=.returned (.slice (some ⟨g,0,none⟩) (cO ks).length cap)/\OwnP B w' 61 2 (.slice (some ⟨g,0,none⟩) (cO ks).length cap) ((cO ks).map PKey.cells)/\Keep (λb=>b=g) w w':=by
 have HO:=aG h;rcases h with⟨h1,h2⟩|⟨g',cap',arr,he,hB,a0,hn,hcm,hsz,hrows⟩
 .simp at h1
 rw[lM]at hn;simp only[zO,zF,yG,and_true,lM]at he;obtain⟨rfl,-,rfl⟩:=he;have iG:=a0.lt;have b2:∀(wr:World) (q:Nat) (x:PKey),Below w.heap.size w wr->ks[q]? =some x->wr.cell? ⟨g,q*2,none⟩=some (.int .i64 x.num)/\wr.cell? ⟨g,q*2+1,none⟩=some (.string x.name):=λwr q x hb hx=>by have a0:=a0.below hb a0.lt.lt;rw[a0.cell,a0.cell];have h1:=hrows q x.cells (by rw[gM,hx];rfl);exact⟨h1 0 _ rfl,h1 1 _ rfl⟩
 have HA:=aG b2;have HB:=dR a0 hsz hrows;have d7:(ks.length:Int)<=cap:=by omega
 have HC:=aG hcm;clear b2 a0 hsz hrows hcm;by_cases h2:ks.length<2
 .have e:cO ks=ks:=by
   rcases ks with _|⟨a,_|⟨b,r⟩⟩
   .rfl
   .rfl
   simp at h2;omega
  rw[e];have c8:(ks.length:Int)<2:=by omega
  go_enter Tryz.func80,Tryz.ntmps80;go_wp2_with fail;go_ret;exact⟨rfl,HO.out,Keep.refl _ _⟩
 have c8:¬(ks.length:Int)<2:=by omega
 go_enter Tryz.func80,Tryz.ntmps80;go_wp2_with fail
 go_loopw[3] (λvi wr=>Below w.heap.size w wr/\∃k:Nat,vi=.int .i64 k/\1<=k/\k<=ks.length/\cO (ks.take k)=ks.take k) (λvi _=>(ks.length-intOf vi).toNat)
 case atStart=>exact⟨bel _ _,1,rfl,by omega,by omega,by
  rcases ks with _|⟨a,r⟩
  .rfl
  rfl⟩
 obtain⟨hbr,k,rfl,hk1,hkn,hdd⟩:=hrel;have iB:Bel w wr:=⟨hbr⟩;have c9:BlockLt g wr:=⟨by have:=iG.lt;have:=hbr.size;omega⟩;obtain⟨m,rfl⟩:∃m,k=m+1:=⟨k-1,by omega⟩;have HD:=aG hdd;clear hdd;by_cases hlt:m+1<ks.length
 .obtain ⟨y, hy⟩:∃y,ks[m+1]? =some y:=⟨_,gE hlt⟩
  obtain⟨x,hx⟩:∃x,ks[m]? =some x:=⟨_,gE (by omega)⟩;obtain⟨y0,y1⟩:=HA.out wr _ _ hbr hy;obtain⟨x0,x1⟩:=HA.out wr _ _ hbr hx;have HS:=aG (rO ks m x y hx hy);have eI:((m+1:Nat):Int)=(m:Int)+1:=by omega
  have a7:(m:Int)+1<ks.length:=by omega
  have eb:(m:Int)+1-1=m:=by omega
  have g0:(0:Int)<=(m:Int)+1:=by omega
  have g1:(m:Int)<ks.length:=by omega
  have ew:IntKind.i64.wrap (m:Int)=m:=I64.wrap (by unfold I64;omega);have HY:=aG hy;clear hx hy;rw[eI];have q0:=aGK;have q1:=λw=>aGM y x w;rcases hyx:decide (y=x)with _|_
  .rw[hyx]at q1;have a1:¬y=x:=of_decide_eq_false hyx;have HN:=aG a1;clear hyx a1;go_wp2_with fail;refine qR ?_
   repeat(go_big_quiet_step (fail))
   refine QN λp=>?_;go_wp2_with fail;go_roundw
   case rel=>exact⟨(bel w wr).trans (bel wr _ |>.mono hbr.size),m+2,by go_num,by omega,by omega,by
    have h1:=HS.out;rw[zA HN.out,HD.out]at h1;rw[h1,show m+1+1=m+2 by omega,List.take_succ_eq_append_getElem (show m+1<ks.length by omega)];congr 2;have:=HY.out;rw[gE (show m+1<ks.length by omega)]at this;exact(Option.some.inj this).symm⟩
   simp[intOf];omega
  rw [hyx] at q1;have a1:y=x:=of_decide_eq_true hyx;have HN:=aG a1;clear hyx a1;go_wp2_with fail;refine qR ?_
  repeat(go_big_quiet_step (fail))
  refine QN λp=>?_;have d2:¬cap=m+1:=by omega
  have b3:m+1<=ks.length:=by omega
  have b4:(m:Int)+1<=ks.length:=by omega
  have b5:(m:Int)+1<=cap:=by omega
  have b6:m+1<=cap:=by omega
  have b7:Keep (λb=>b=g) w (wr.junk p):=Keep.of_below ((bel w (wr.junk p))) _;have b8:Blk (wr.junk p) g arr 61:=(HB.out.1.below hbr iG.lt).junk p;have b9:cO (ks.take (m+2))=ks.take (m+1):=by have h1:=HS.out;rw[zB HN.out,HD.out,List.append_nil]at h1;exact h1
  have H0:=dR b7 b8 b9;clear b7 b8 b9;go_upto_region 8 with fail;refine aI (F:=λwA=>Keep (λb=>b=g) w wA/\Blk wA g arr 61) ⟨H0.out.1,H0.out.2.1⟩ ?_;rintro wA ⟨hkA,hbA⟩;have c3:=bB hkA hbA;clear hkA hbA y0 y1 x0 x1;go_wp2_with fail
  go_loopw[3,5] (λvk vj wr=>Keep (λb=>b=g) w wr/\∃(i kk:Nat) (arr':Array Value),vk=.int .i64 kk/\vj=.int .i64 ((i+1:Nat):Int)/\m+1+(i+1)<=ks.length/\kk<=m+(i+1)/\(cO (ks.take (m+1+(i+1)))).length=kk/\Blk wr g arr' 61/\arr'.size=cap*2/\RowsIn arr' 2 ((cO (ks.take (m+1+(i+1)))).map PKey.cells)/\∀(q:Nat) (x:PKey),m+1+i<=q->ks[q]? =some x->arr'[q*2]? =some (.int .i64 x.num)/\arr'[q*2+1]? =some (.string x.name)) (λ_ vj _=>(ks.length-intOf vj).toNat)
  case atStart=>
   have d3:∀(q:Nat) (x:PKey),ks[q]? =some x->arr[q*2]? =some (.int .i64 x.num)/\arr[q*2+1]? =some (.string x.name):=λq x hx=>by have h1:=HB.out.2.2 q x.cells (by rw[gM,hx];rfl);exact⟨h1 0 _ rfl,h1 1 _ rfl⟩
   refine⟨c3.out.1,0,m+1,arr,by rfl,rfl,by omega,by omega,?_,c3.out.2,HB.out.2.1,?_,λq x _ hx=>d3 q x hx⟩
   .rw[H0.out.2.2,zU];omega
   rw[H0.out.2.2];intro q cs hq t u hc;refine HB.out.2.2 q cs ?_ t u hc;rw[gM,yO]at hq;split at hq
   .rw[gM];exact hq
   cases hq
  obtain⟨hkr,i,kk,arr',rfl,rfl,hin,hkk,hdl,hbr',hsr,hrr,hfr⟩:=hrel;have c9:=hbr'.lt;obtain⟨D,hD⟩:∃D,cO (ks.take (m+1+(i+1)))=D:=⟨_,rfl⟩;rw[hD]at hdl hrr;have d8:kk<=ks.length:=by omega
  have d9:kk<=cap:=by omega
  have e2:(kk:Int)<=ks.length:=by omega
  have e3:(kk:Int)<=cap:=by omega
  have e4:¬cap=kk:=by omega
  have e5:(kk:Int)<ks.length:=by omega
  have e6:kk<ks.length:=by omega
  have e7:IntKind.i64.wrap (i:Int)=i:=I64.wrap (by unfold I64;omega);have e8:IntKind.i64.wrap ((kk:Int)+1)=(kk:Int)+1:=I64.wrap (by unfold I64;omega);have e9:IntKind.i64.wrap ((i:Int)+1+1)=(i:Int)+1+1:=I64.wrap (by unfold I64;omega);have HK:=jj7 hkr hbr' hsr hrr hfr hdl hD;by_cases hlj:m+1+(i+1)<ks.length
  .obtain ⟨y2,hy2⟩:∃y,ks[m+1+(i+1)]? =some y:=⟨_,gE hlj⟩
   obtain⟨x2,hx2⟩:∃x,ks[m+1+i]? =some x:=⟨_,gE (by omega)⟩;have c0:wr.cell? ⟨g,(m+1)*2+(i+1)*2,none⟩=some (.int .i64 y2.num):=by rw[hbr'.cell,<-(hfr _ _ (by omega) hy2).1];congr 1;omega
   have c1:wr.cell? ⟨g,(m+1)*2+(i+1)*2+1,none⟩=some (.string y2.name):=by rw[hbr'.cell,<-(hfr _ _ (by omega) hy2).2];congr 1;omega
   have d0:wr.cell? ⟨g,(m+1)*2+i*2,none⟩=some (.int .i64 x2.num):=by rw[hbr'.cell,<-(hfr _ _ (by omega) hx2).1];congr 1;omega
   have d1:wr.cell? ⟨g,(m+1)*2+i*2+1,none⟩=some (.string x2.name):=by rw[hbr'.cell,<-(hfr _ _ (by omega) hx2).2];congr 1;omega
   obtain⟨u0,e0⟩:∃u,wr.cell? ⟨g,kk*2,none⟩=some u:=⟨_,by rw[hbr'.cell];exact yA (by omega)⟩;obtain⟨u1,e1⟩:∃u,wr.cell? ⟨g,kk*2+1,none⟩=some u:=⟨_,by rw[hbr'.cell];exact yA (by omega)⟩;have c4:=aG (rO ks (m+1+i) x2 y2 hx2 (by rw[<-hy2];rfl));have a8:(i:Int)+1<((ks.length-(m+1):Nat):Int):=by omega
   have c5:(i:Int)<((ks.length-(m+1):Nat):Int):=by omega
   have g3:(0:Int)<=(i:Int)+1:=by omega
   have q2:=λw=>aTP y2 x2 w;have fz:wr.frozen? ⟨g,kk*2,none⟩=false:=hbr'.frozen _;have f0:wr.frozen? ⟨g,kk*2+1,none⟩=false:=hbr'.frozen _;have f1:=bB hy2 hx2;clear hkr hbr' hsr hrr hfr hdl hD hy2 hx2;rcases hyx2:decide (y2=x2)with _|_
   .rw [hyx2]at q2;have a9:=aG (of_decide_eq_false hyx2);clear hyx2;go_wp2_with fail;refine qR ?_
    repeat(go_big_quiet_step (fail))
    refine QN λp=>?_;go_wp2_with fail;have a2:=((HK.out.1.setCell (p:=⟨g,kk*2,none⟩) (.inl rfl) (.int .i64 y2.num)).setCell (p:=⟨g,kk*2+1,none⟩) (.inl rfl) (.string y2.name)).junk p;have a3:=((HK.out.2.1.set_ (kk*2) (.int .i64 y2.num)).set_ (kk*2+1) (.string y2.name)).junk p;have HE:=bB a2 a3;clear a2 a3;go_roundw
    case rel=>
     obtain⟨-,-,hsr,hrr,hfr,hdl,hD⟩:=HK.out;have a4:cO (ks.take (m+1+(i+1+1)))=D++[y2]:=by have h1:=c4.out;rw[zA a9.out,show m+1+i+1=m+1+(i+1) by omega,hD]at h1;exact h1
     refine⟨HE.out.1,i+1,kk+1,_,by go_num,by go_num,by omega,by omega,?_,HE.out.2,by rw[Array.size_setIfInBounds,Array.size_setIfInBounds];exact hsr,?_,?_⟩
     .rw[a4,lP,hdl];rfl
     .rw [a4];intro q cs hq t u hc;have ht:t<2:=by
       rw[gM]at hq;obtain⟨z,_,rfl⟩:=Option.map_eq_some_iff.1 hq;obtain⟨h,_⟩:=gI.1 hc;exact h
      rw[yR]at hq;by_cases hql:q<kk
      .rw[zZ (by rw[lM];omega)]at hq;rw[yE,zA (by omega),yE,zA (by omega)];exact hrr q cs hq t u hc
      have d4:q=kk:=by obtain⟨h,_⟩:=gI.1 hq;simp at h;omega
      subst d4;rw[yC (by rw[lM];omega),lM,hdl,Nat.sub_self]at hq;cases hq;rcases t with _|_|t
      .cases hc;rw[yE,zA (by omega),yE,zB (by omega),zB (by omega)]
      .cases hc;rw[yE,zB rfl,zB (by simp;omega)]
      omega
     intro q z hq hz;rw[yE,zA (by omega),yE,zA (by omega),yE,zA (by omega),yE,zA (by omega)];exact hfr q z (by omega) hz
    simp[intOf];omega
   rw[hyx2]at q2;have a9:=aG (of_decide_eq_true hyx2);clear hyx2;go_wp2_with fail;refine qR ?_
   repeat(go_big_quiet_step (fail))
   refine QN λp=>?_;go_wp2_with fail;have a2:=HK.out.1.junk p;have a3:=HK.out.2.1.junk p;have HE:=bB a2 a3;clear a2 a3;go_roundw
   case rel=>
    obtain⟨-,-,hsr,hrr,hfr,hdl,hD⟩:=HK.out;have a4:cO (ks.take (m+1+(i+1+1)))=D:=by have h1:=c4.out;rw[zB a9.out,show m+1+i+1=m+1+(i+1) by omega,hD,List.append_nil]at h1;exact h1
    exact⟨HE.out.1,i+1,kk,arr',by go_num,by go_num,by omega,by omega,by rw[a4];exact hdl,HE.out.2,hsr,by rw[a4];exact hrr,λq z hq hz=>hfr q z (by omega) hz⟩
   simp[intOf];omega
  have f2:m+1+(i+1)=ks.length:=by omega
  have a6:D=cO ks:=by rw[<-hD,List.take_of_length_le (by omega)]
  have a8:¬(i:Int)+1<((ks.length-(m+1):Nat):Int):=by omega
  obtain⟨zs,hzs⟩:∃zs,(Builtin.zeroCells (.agg #[.int .i64 0,.string { data:=#[]}]:Value).cells (ks.length-kk)).toList=zs:=⟨_,rfl⟩;have c6:zs.length=(ks.length-kk)*2:=by rw[<-hzs];simp[Builtin.zeroCells];rfl
  have b0:∀c2 ty,(Builtin.clear_ #[29] ty #[.slice (some ⟨g,kk*2,none⟩) (ks.length-kk) c2]).run Tryz.prog wr=.ok (.tuple #[]) (wr.setCells g (kk*2) zs):=λc2 ty=>by rw[<-hzs];refine fG wr 29 61 ty (.agg #[.int .i64 0,.string { data:=#[]}]) Tryz.underlying29 aPN (by decide) g (kk*2) (ks.length-kk) c2 (by omega) (λj hj=>?_) (λj hj=>hbr'.frozen _);rw[hzs,c6]at hj;rw[hbr'.cell];simp;omega
  obtain⟨arr3,hb3,hs3,hout3,-⟩:=Blk.setCells_at g 61 zs (kk*2) wr arr' hbr' (by omega);have b1:Keep (λk=>k=g) w (wr.setCells g (kk*2) zs):=Keep.setCells (S:=λk=>k=g) rfl zs _ hkr;obtain⟨w3,hw3⟩:∃w3,wr.setCells g (kk*2) zs=w3:=⟨_,rfl⟩;simp only[hw3]at b0 hb3 b1;have a5:OwnP B w3 61 2 (.slice (some ⟨g,0,none⟩) (cO ks).length cap) ((cO ks).map PKey.cells):=by
   refine .inr ⟨g,cap,arr3,by rw[lM],hB,hb3,by rw[lM,<-a6,hdl];omega,HC.out,by omega,?_⟩;rw[<-a6];intro q cs hq t u hc;have d5:=hq;rw[gM]at hq;obtain⟨z,hz,rfl⟩:=Option.map_eq_some_iff.1 hq;obtain⟨hql,_⟩:=gI.1 hz;have ht:t<2:=by obtain⟨h,_⟩:=gI.1 hc;exact h
   rw[hout3 _ (.inl (by omega))];exact hrr q _ d5 t u hc
  have c7:kk=(cO ks).length:=by rw[<-a6,hdl]
  have HF:=dR a5 b1 c7;clear hkr hbr' hsr hrr hfr hdl hD a5 b1 hout3 hb3 hs3 hw3 c6 hzs c7 a6;go_wp2_with fail;go_ret;refine⟨?_,HF.out.1,HF.out.2.1⟩;rw[HF.out.2.2];rfl
 have hR:cO ks=ks:=by have:=HD.out;rw[List.take_of_length_le (by omega)]at this;exact this
 have a7:¬(m:Int)+1<ks.length:=by omega
 have eI:((m+1:Nat):Int)=(m:Int)+1:=by omega
 rw[eI];have d6:=aG hR;clear hR;go_wp2_with fail;go_ret;rw[d6.out];exact⟨rfl,OwnP.keep HO.out (Keep.of_below hbr (λb=>False)) (λ_ _ h=>h),Keep.of_below hbr _⟩
section
def bW (S:PSt) (p:ByteArray):Int × ByteArray × Int:=
 if (bZ p).1≠0 then(0,{ data:=#[]},oH (bZ p).1)else match(bZ p).2.getLast? with
  |none=>(0,{ data:=#[]},9)
  | some l=>if(eB S (bZ p).2.dropLast 1 []).2.1≠0 then(0,{ data:=#[]},(eB S (bZ p).2.dropLast 1 []).2.1)else match S.ins[(bH S (eB S (bZ p).2.dropLast 1 []).1).toNat]? with
    |some x=>if x.dir=true then((eB S (bZ p).2.dropLast 1 []).1,l,0)else(0,{ data:=#[]},7)
    |none=>(0,{ data:=#[]},7)
variable {S:PSt}
theorem rW (hf:FineR S):∀(ns:List ByteArray) (at_:Int) (th:List Int),0<=bH S at_->(eB S ns at_ th).2.1=0->0<=bH S (eB S ns at_ th).1
 |[],at_,th,h0,_=>h0
 | n ::r,at_,th,h0,h=>by
   unfold eB at h |-;split at h
   .simp at h
   split at h
   .rename_i hd
    rw[zB hd];split at h
    .simp at h
    rename_i hn;rw[zA hn];exact rW hf r _ _ (hf.next hn) h
   simp at h
theorem aKQ (S:PSt) (iv ov mv:Value) (p:ByteArray) (w:World) (h:StRead w iv ov mv S) (hf:FineR S):
 vR w 45 #[.agg #[iv,ov,mv],.string p] (.tuple #[.int .i64 (bW S p).1,.string (bW S p).2.1,.int .i64 (bW S p).2.2]):=by
 have a3:∀ww,Calls Tryz.prog 82 #[.string p] ww _:=λww=>xH p ww;have a5:=rZ p;have b3:∀v ww (ns:List ByteArray),ns.length<=4->Below w.heap.size w ww->RowAt ww 1 v (ns.map λn=>[.string n])->Calls Tryz.prog 83 #[.agg #[iv,ov,mv],v] ww _:=λv ww ns hl hb hv=>aCZ S iv ov mv v ns ww (h.below hb (zC _)) hf hv (by omega);unfold bW;generalize bZ p=F at a3 a5 |-;obtain⟨c,ns⟩:=F;simp only at a3 a5 |-;by_cases hc:c=0;rotate_left
 .rw[zB hc];obtain⟨ai,ni,ci,ao,no,co,am,nm',cm,rfl,rfl,rfl⟩:=h.slices;have c1:(c !=0)=true:=by simpa using hc
  have a8:=λww=>aDA c ww;simp only;generalize oH c=C at a8 |-;clear b3 h;go_enter Tryz.func45,Tryz.ntmps45;go_wp2_with(first|(go_at_call 82;refine(a3 _).mono ?_;rintro e w1 ⟨v,rfl,hb1,hO1⟩;have a7:=hO1.one;have iB:Bel w w1:=⟨(bel w _).trans (hb1.mono (bel w _).size)⟩;clear hO1 hb1)|(go_at_call 84;refine aE (a8 _) λp=>?_))
  go_ret3;exact⟨rfl,bel _ _⟩
 subst hc;rw[zA (by simp)];rcases hgl:ns.getLast? with _|l
 .have c2:ns=[]:=List.getLast?_eq_none_iff.1 hgl;subst c2;obtain⟨ai,ni,ci,ao,no,co,am,nm',cm,rfl,rfl,rfl⟩:=h.slices;simp only;clear b3 h hgl
  go_enter Tryz.func45,Tryz.ntmps45;go_wp2_with(go_at_call 82;refine(a3 _).mono ?_;rintro e w1 ⟨v,rfl,hb1,hO1⟩;obtain⟨a,cap,rfl,-⟩:=hO1.cap;have iB:Bel w w1:=⟨(bel w _).trans (hb1.mono (bel w _).size)⟩;clear hO1 hb1)
  go_ret3;exact⟨rfl,bel _ _⟩
 have b5:ns≠[]:=λe=>by rw[e]at hgl;simp at hgl
 have c3:0<ns.length:=List.length_pos_iff.2 b5;have a9:ns[ns.length-1]? =some l:=by rw[<-hgl,List.getLast?_eq_getElem?]
 have a1:=rW hf ns.dropLast 1 [] hf.root;have a6:∀v ww,Below w.heap.size w ww->RowAt ww 1 v (ns.dropLast.map λn=>[.string n])->Calls Tryz.prog 83 #[.agg #[iv,ov,mv],v] ww _:=λv ww hb hv=>b3 v ww ns.dropLast (by rw[List.length_dropLast];omega) hb hv;simp only;generalize eB S ns.dropLast 1 []=W at a6 a1 |-;obtain⟨num,C,th⟩:=W;simp only at a6 a1 |-;obtain⟨m,hm⟩:∃m,ns.length=m+1:=⟨ns.length-1,by omega⟩;have b6:ns.dropLast=ns.take m:=by rw[List.dropLast_eq_take,hm];rfl
 rw[hm]at a9;replace a9:ns[m]? =some l:=a9;obtain⟨L,hLn⟩:∃L,ns.length=L:=⟨_,rfl⟩;obtain⟨ai,ni,ci,ao,no,co,am,nm',cm,rfl,rfl,rfl⟩:=h.slices;obtain⟨ai,ci,e1,hai⟩:=h.ins_at2;cases e1;have b0:∀ww,Below w.heap.size w ww->Calls Tryz.prog 85 #[.agg #[.slice ai S.ins.length ci,.slice ao no co,.slice am nm' cm],.int .i64 num] ww _:=λww hb=>vH S _ _ _ num ww (h.below hb (zC _)) hf.wf.1;have hw:∀ww a cap,Below w.heap.size w ww->RowAt ww 1 (.slice a L cap) (ns.map λn=>[.string n])->Calls Tryz.prog 83 #[.agg #[.slice ai S.ins.length ci,.slice ao no co,.slice am nm' cm],.slice a m cap] ww λe w'=>∃tv,e=.returned (.tuple #[.int .i64 num,.int .i64 C,tv])/\tv.oneCell'=true/\Below ww.heap.size ww w':=λww a cap hb hv=>(a6 _ ww hb (by rw[b6,List.map_take];subst hLn;exact hv.take m (by rw[lM];omega))).mono λe w' ⟨tv,he,hb',ho⟩=>⟨tv,he,ho.one,hb'⟩;have b7:=fC S num;have HP:=kL a3 hw hai a9;have HM:=dR hm a5 hLn;clear a3 hw b3 a6 hai a9 h hgl b6 a5 hf b5 c3;have c4:((L:Int)==0)=false:=by simp;omega
 have c5:¬((L:Int)=0):=by omega
 have c6:(L:Int)-1=m:=by omega
 clear hm hLn;by_cases hC:C=0
 .subst hC;rw[zA (by simp)];have hK:=a1 rfl;clear a1;generalize bH S num=A at b0 hK b7 |-;obtain⟨K,rfl⟩:∃K:Nat,A=K:=⟨A.toNat,by omega⟩
  have c7:(K:Int)<S.ins.length:=by omega
  obtain⟨x,hx⟩:∃x,S.ins[K]? =some x:=⟨_,gE (by omega)⟩;obtain⟨bi,oi,ev,rfl,iI0,hoi,her,hci⟩:=HP.out.2.2.1 K x hx;have e0:((K:Int)).toNat=K:=by omega
  rw[e0,hx];simp only;have b4:∀wr,Below w.heap.size w wr->wr.cell? ⟨bi,oi+K*4+1,none⟩=some (.bool x.dir):=λwr hb=>(hci wr hb).2.2.1;generalize x.dir=dd at b4 hci |-;have b1:=aG b4;have b8:=aG hci;clear b4 hci her hx iI0 e0 b7 hK;rcases dd with _|_
  .simp only[zP,if_false]
   go_enter Tryz.func45,Tryz.ntmps45;go_upto_region 6 with(go_at_call 82;refine(HP.out.1 _).mono ?_;rintro e w1 ⟨v,rfl,hb1,ho1⟩;have a2:=ho1.row;obtain⟨gn,cap,hv,hc1,hc2⟩:=ho1.some_ (by rw[lM];show 0<ns.length;have:=HM.out;omega);rw[lM]at hv hc1;rw[show List.length ((0:Int),ns).2=L from HM.out.2.2]at hv hc1;subst hv;have a0:=a2.at_;have a4:Bel w w1:=⟨(bel w _).trans (hb1.mono (bel w _).size)⟩;have b2:∀ww,Below w1.heap.size w1 ww->Calls Tryz.prog 83 #[.agg #[.slice (some ⟨bi,oi,none⟩) S.ins.length ci,.slice ao no co,.slice am nm' cm],.slice (some ⟨gn,0,none⟩) m cap] ww _:=λww hb=>HP.out.2.1 ww _ cap (a4.below.trans (hb.mono a4.below.size)) (a2.below hb (zC _));have q0:w1.cell? ⟨w.heap.size,0,none⟩=some (.slice (some ⟨bi,oi,none⟩) S.ins.length ci):=(hb1.cell (by simp)).trans (by go_simp);have q1:w1.cell? ⟨w.heap.size,1,none⟩=some (.slice ao no co):=(hb1.cell (by simp)).trans (by go_simp);have q2:w1.cell? ⟨w.heap.size,2,none⟩=some (.slice am nm' cm):=(hb1.cell (by simp)).trans (by go_simp);have iL:BlockLt w.heap.size w1:=⟨by have:=hb1.size;simp at this;omega⟩;have b9:IntKind.i64.wrap (m:Int)=m:=I64.wrap ⟨by omega,by have:=HM.out;omega⟩;have c0:m<=cap:=(by have:=HM.out;omega);have H1:=dR a4.below a2 a0;clear hb1 a2 a0 ho1)
   refine aC [6] true (λw'=>w'.cell? ⟨w.heap.size,0,none⟩=some (.slice (some ⟨bi,oi,none⟩) S.ins.length ci)/\w'.cell? ⟨w.heap.size,1,none⟩=some (.slice ao no co)/\w'.cell? ⟨w.heap.size,2,none⟩=some (.slice am nm' cm)) (by kernel_rfl) (by kernel_rfl) ?_ ?_
   · (try dsimp only);(repeat' apply And.intro)<;>go_simp
   repeat
    refine aH rfl rfl ?_;apply Exists.intro;refine⟨?_,?_⟩
    focus
     rintro w' ⟨s0,s1,s2⟩;go_simp
     first|done|rfl
    simp only[Act.put,sA,sZ,sS]
   refine aZ rfl rfl ?_;refine aS 83 #[.agg #[.slice (some ⟨bi,oi,none⟩) S.ins.length ci,.slice ao no co,.slice am nm' cm],.slice (some ⟨gn,0,none⟩) m cap] ?_ ((b2 w1.drew (bel w1 _)).mono ?_)
   focus
    go_simp
    first|done|rfl
   rintro e w2 ⟨tv,rfl,a7,hb2⟩;obtain⟨p2,rfl⟩:=hb2.rest;clear hb2;refine⟨_,rfl,.inl ?_,?_⟩
   · (try dsimp only);(repeat' apply And.intro)<;>go_simp
   simp only[Act.put,sA,sZ,sS]
   repeat
    refine aH rfl rfl ?_;apply Exists.intro;refine⟨?_,?_⟩
    focus
     rintro w' ⟨s0,s1,s2⟩;go_simp
     first|done|rfl
    simp only[Act.put,sA,sZ,sS]
   refine aQ ?_;obtain⟨iI1,-,-,-,-⟩:=b8.out w1 H1.out.1;have z1:=b1.out w1 H1.out.1;go_upto_region 9 with fail;refine qR ?_
   repeat(go_big_quiet_step ((with_reducible first|refine cI (b0 _ (bel _ _))|refine cJ (b0 _ (bel _ _)))))
   refine QN λp=>?_;go_wp2_with fail
   go_ret3;exact⟨rfl,bel _ _⟩
  simp only[if_true];go_enter Tryz.func45,Tryz.ntmps45;go_upto_region 6 with(go_at_call 82;refine(HP.out.1 _).mono ?_;rintro e w1 ⟨v,rfl,hb1,ho1⟩;have a2:=ho1.row;obtain⟨gn,cap,hv,hc1,hc2⟩:=ho1.some_ (by rw[lM];show 0<ns.length;have:=HM.out;omega);rw[lM]at hv hc1;rw[show List.length ((0:Int),ns).2=L from HM.out.2.2]at hv hc1;subst hv;have a0:=a2.at_;have a4:Bel w w1:=⟨(bel w _).trans (hb1.mono (bel w _).size)⟩;have b2:∀ww,Below w1.heap.size w1 ww->Calls Tryz.prog 83 #[.agg #[.slice (some ⟨bi,oi,none⟩) S.ins.length ci,.slice ao no co,.slice am nm' cm],.slice (some ⟨gn,0,none⟩) m cap] ww _:=λww hb=>HP.out.2.1 ww _ cap (a4.below.trans (hb.mono a4.below.size)) (a2.below hb (zC _));have q0:w1.cell? ⟨w.heap.size,0,none⟩=some (.slice (some ⟨bi,oi,none⟩) S.ins.length ci):=(hb1.cell (by simp)).trans (by go_simp);have q1:w1.cell? ⟨w.heap.size,1,none⟩=some (.slice ao no co):=(hb1.cell (by simp)).trans (by go_simp);have q2:w1.cell? ⟨w.heap.size,2,none⟩=some (.slice am nm' cm):=(hb1.cell (by simp)).trans (by go_simp);have iL:BlockLt w.heap.size w1:=⟨by have:=hb1.size;simp at this;omega⟩;have b9:IntKind.i64.wrap (m:Int)=m:=I64.wrap ⟨by omega,by have:=HM.out;omega⟩;have c0:m<=cap:=(by have:=HM.out;omega);have H1:=dR a4.below a2 a0;clear hb1 a2 a0 ho1)
  refine aC [6] true (λw'=>w'.cell? ⟨w.heap.size,0,none⟩=some (.slice (some ⟨bi,oi,none⟩) S.ins.length ci)/\w'.cell? ⟨w.heap.size,1,none⟩=some (.slice ao no co)/\w'.cell? ⟨w.heap.size,2,none⟩=some (.slice am nm' cm)) (by kernel_rfl) (by kernel_rfl) ?_ ?_
  · (try dsimp only);(repeat' apply And.intro)<;>go_simp
  repeat
   refine aH rfl rfl ?_;apply Exists.intro;refine⟨?_,?_⟩
   focus
    rintro w' ⟨s0,s1,s2⟩;go_simp
    first|done|rfl
   simp only[Act.put,sA,sZ,sS]
  refine aZ rfl rfl ?_;refine aS 83 #[.agg #[.slice (some ⟨bi,oi,none⟩) S.ins.length ci,.slice ao no co,.slice am nm' cm],.slice (some ⟨gn,0,none⟩) m cap] ?_ ((b2 w1.drew (bel w1 _)).mono ?_)
  focus
   go_simp
   first|done|rfl
  rintro e w2 ⟨tv,rfl,a7,hb2⟩;obtain⟨p2,rfl⟩:=hb2.rest;clear hb2;refine⟨_,rfl,.inl ?_,?_⟩
  · (try dsimp only);(repeat' apply And.intro)<;>go_simp
  simp only[Act.put,sA,sZ,sS]
  repeat
   refine aH rfl rfl ?_;apply Exists.intro;refine⟨?_,?_⟩
   focus
    rintro w' ⟨s0,s1,s2⟩;go_simp
    first|done|rfl
   simp only[Act.put,sA,sZ,sS]
  refine aQ ?_;obtain⟨iI1,-,-,-,-⟩:=b8.out w1 H1.out.1;have z1:=b1.out w1 H1.out.1;go_upto_region 9 with fail;refine qR ?_
  repeat(go_big_quiet_step ((with_reducible first|refine cI (b0 _ (bel _ _))|refine cJ (b0 _ (bel _ _)))))
  refine QN λp=>?_;obtain⟨a',cap',hv',a0⟩:=H1.out.2.2;obtain⟨bn,offn,he,iN0,iN1,hcn⟩:=a0 w1 (Below.refl _ _) m [.string l] (by rw[gM];show Option.map _ ns[m]? =_;rw[HP.out.2.2.2];rfl);simp only[zO]at hv';obtain⟨rfl,-,rfl⟩:=hv';simp only[zF,yG]at he;obtain⟨rfl,rfl,-⟩:=he;have n0:=hcn 0 _ rfl;rw[Nat.mul_one,zN,zM]at n0;have c8:(m:Int)<L:=by omega
  clear hcn a0;go_upto_region 11 with fail;refine qR ?_
  repeat(go_big_quiet_step (fail))
  refine QN λp=>?_;go_wp2_with fail
  go_ret3;exact⟨rfl,bel _ _⟩
 rw[zB hC];have c1:(C !=0)=true:=by simpa using hC
 go_enter Tryz.func45,Tryz.ntmps45;go_upto_region 6 with(go_at_call 82;refine(HP.out.1 _).mono ?_;rintro e w1 ⟨v,rfl,hb1,ho1⟩;have a2:=ho1.row;obtain⟨gn,cap,hv,hc1,hc2⟩:=ho1.some_ (by rw[lM];show 0<ns.length;have:=HM.out;omega);rw[lM]at hv hc1;rw[show List.length ((0:Int),ns).2=L from HM.out.2.2]at hv hc1;subst hv;have a0:=a2.at_;have a4:Bel w w1:=⟨(bel w _).trans (hb1.mono (bel w _).size)⟩;have b2:∀ww,Below w1.heap.size w1 ww->Calls Tryz.prog 83 #[.agg #[.slice ai S.ins.length ci,.slice ao no co,.slice am nm' cm],.slice (some ⟨gn,0,none⟩) m cap] ww _:=λww hb=>HP.out.2.1 ww _ cap (a4.below.trans (hb.mono a4.below.size)) (a2.below hb (zC _));have q0:w1.cell? ⟨w.heap.size,0,none⟩=some (.slice ai S.ins.length ci):=(hb1.cell (by simp)).trans (by go_simp);have q1:w1.cell? ⟨w.heap.size,1,none⟩=some (.slice ao no co):=(hb1.cell (by simp)).trans (by go_simp);have q2:w1.cell? ⟨w.heap.size,2,none⟩=some (.slice am nm' cm):=(hb1.cell (by simp)).trans (by go_simp);have iL:BlockLt w.heap.size w1:=⟨by have:=hb1.size;simp at this;omega⟩;have b9:IntKind.i64.wrap (m:Int)=m:=I64.wrap ⟨by omega,by have:=HM.out;omega⟩;have c0:m<=cap:=(by have:=HM.out;omega);have H1:=dR a4.below a2 a0;clear hb1 a2 a0 ho1)
 refine aC [6] true (λw'=>w'.cell? ⟨w.heap.size,0,none⟩=some (.slice ai S.ins.length ci)/\w'.cell? ⟨w.heap.size,1,none⟩=some (.slice ao no co)/\w'.cell? ⟨w.heap.size,2,none⟩=some (.slice am nm' cm)) (by kernel_rfl) (by kernel_rfl) ?_ ?_
 · (try dsimp only);(repeat' apply And.intro)<;>go_simp
 repeat
  refine aH rfl rfl ?_;apply Exists.intro;refine⟨?_,?_⟩
  focus
   rintro w' ⟨s0,s1,s2⟩;go_simp
   first|done|rfl
  simp only[Act.put,sA,sZ,sS]
 refine aZ rfl rfl ?_;refine aS 83 #[.agg #[.slice ai S.ins.length ci,.slice ao no co,.slice am nm' cm],.slice (some ⟨gn,0,none⟩) m cap] ?_ ((b2 w1.drew (bel w1 _)).mono ?_)
 focus
  go_simp
  first|done|rfl
 rintro e w2 ⟨tv,rfl,a7,hb2⟩;obtain⟨p2,rfl⟩:=hb2.rest;clear hb2;refine⟨_,rfl,.inl ?_,?_⟩
 · (try dsimp only);(repeat' apply And.intro)<;>go_simp
 simp only[Act.put,sA,sZ,sS]
 repeat
  refine aH rfl rfl ?_;apply Exists.intro;refine⟨?_,?_⟩
  focus
   rintro w' ⟨s0,s1,s2⟩;go_simp
   first|done|rfl
  simp only[Act.put,sA,sZ,sS]
 refine aQ ?_;go_wp2_with fail
 go_ret3;exact⟨rfl,bel _ _⟩
theorem c45 {iv ov mv:Value} {w:World} {p n:ByteArray} {D C:Int} (h:StRead w iv ov mv S) (hf:FineR S) (he:bW S p=(D,n,C)):vB w 45 #[.agg #[iv,ov,mv],.string p] (.tuple #[.int .i64 D,.string n,.int .i64 C]):=λww hb=>by have:=aKQ S iv ov mv p ww (h.below hb (zC _)) hf;rw[he]at this;exact this
end
def dC (nm:ByteArray) (es:List PEnt):List PEnt:=es.filter λe=>!(e.name.toList==nm.toList)
theorem aFI {nm:ByteArray} {es:List PEnt} {q:Nat} {z:PEnt} (h:es[q]? =some z):dC nm (es.take (q+1))=dC nm (es.take q)++(if (z.name.toList==nm.toList)=true then[]else[z]):=by
 unfold dC;rw[List.take_add_one,h,List.filter_append];congr 1;by_cases hb:(z.name.toList==nm.toList)=true
 .simp[hb]
 simp only[Bool.not_eq_true]at hb;simp[hb]
theorem sJ (B b:Nat) (S:PSt) (iv ov mv:Value) (dir:Int) (name:ByteArray) (K:Nat) (x:PIn) (w:World) (hb:Blk w b #[iv,ov,mv] 26) (ho:StOwn B w iv ov mv S) (hB:B<=w.heap.size) (hwf:S.wf) (hat:bH S dir=K) (hx:S.ins[K]? =some x):
 Calls Tryz.prog 128 #[.pointer (some ⟨b,0,none⟩),.int .i64 dir,.string name] w λe w'=>e=.returned (.tuple #[])/\Below B w w'/\Keep (rA w) w w'/\StOwn B w' iv ov mv (S.ents K x (dC name x.ents)):=by
 obtain⟨hKl,-⟩:=gI.1 hx;obtain⟨bi,cap,rfl⟩:=ho.ins_form (by omega);have a2:vB w 85 #[.agg #[.slice (some ⟨bi,0,none⟩) S.ins.length cap,ov,mv],.int .i64 dir] (.int .i64 (K:Int)):=λww hb=>by have:=vH S _ ov mv dir ww (ho.read.below hb (zC _)) hwf.1;rw[hat]at this;exact this
 obtain⟨a,cap',e1,hai⟩:=ho.read.ins_at2;cases e1;obtain⟨bi',oi,ev,he,iI0,hoi,her,hci⟩:=hai K x hx;cases he;obtain⟨iI,-,-,x2,-⟩:=hci w (Below.refl _ _);rw[zM]at x2;have b0:=aG x2;have b1:=(hwf.2.2.2.1 x (mG hx)).2.1;obtain⟨ae,ce,rfl,hae⟩:=her.at_;rw[lM]at x2;obtain⟨iL,s0,s1,s2⟩:=lV hb;have a3:=ho.1.one;have a1:=ho.2.1.one;obtain⟨ao,co,rfl⟩:=ho.1.formL;obtain⟨am,cm,rfl⟩:=ho.2.1.formL;simp only[lM]at a2 s1 s2;have b4:(K:Int)<S.ins.length:=by omega
 have H:=dR ho hx hb;obtain⟨xn,xd,xe,xs⟩:=x;simp only at x2 hae b1 |-;have HA:=aG hae;have a5:∀w2,Below w.heap.size w w2->BlockLt bi w2/\w2.cell? ⟨bi,K*4+2,none⟩=some (.slice ae xe.length ce):=by intro w2 h2;obtain⟨i2,-,-,y2,-⟩:=hci w2 h2;rw[zM,lM]at y2;exact⟨i2,y2⟩
 have b2:=aG a5;clear a5;clear ho hx hb her hai hoi hci hae a3 a1 hat;go_enter Tryz.func128,Tryz.ntmps128;go_upto_region 0 with fail;refine qR ?_
 repeat(go_big_quiet_step ((with_reducible first|refine cI (a2 _ (bel _ _))|refine cJ (a2 _ (bel _ _)))))
 refine QN λp=>?_;go_wp2_with fail
 go_loopw[7,8] (λv7 i wr=>∃(q:Nat) (zs:List PEnt),i=.int .i64 q/\q<=xe.length/\zs.length<=q/\OwnP w.heap.size wr 97 2 v7 (zs.map PEnt.cells)/\zs=dC name (xe.take q)/\Below w.heap.size w wr) (λ_ i _=>(xe.length-intOf i).toNat)
 case atStart=>exact⟨0,[],rfl,by omega,by simp,.inl ⟨rfl,rfl⟩,rfl,bel _ _⟩
 obtain⟨q,zs,rfl,hq,hzl,hO,hre,hbw⟩:=hrel;have iB:Bel w wr:=⟨hbw⟩;obtain⟨iI2,y2⟩:=b2.out wr hbw;obtain⟨va,vc,rfl⟩:=hO.formL;generalize hzn:(zs.map PEnt.cells).length=zn at hO |-;have HO:=bB hO hzn;clear hO hzn;by_cases hlt:q<xe.length
 .obtain⟨z,hz⟩:∃z,xe[q]? =some z:=⟨_,gE hlt⟩
  have a0:=aFI (nm:=name) hz;rw[<-hre]at a0;obtain⟨be,oe,rfl,iE0,iE,hce⟩:=HA.out wr hbw q z.cells (by rw[gM,hz];rfl);have c0:=hce 0 _ rfl;have c1:=hce 1 _ rfl;rw[zN]at c0;have a4:(q:Int)<xe.length:=by omega
  have a6:=aG a0;clear hce hz hre;by_cases ht:(z.name.toList==name.toList)=true
  .have hs:=a6.out;rw[zB ht,List.append_nil]at hs;have HS:=aG hs;clear hs a0;go_wp2_with fail
   go_roundw
   case rel=>exact⟨q+1,zs,by go_num,by omega,by omega,by have h:=HO.out;first|exact h.1|(rw [<-h.2]at h;exact h.1),HS.out.symm,hbw⟩
   simp[intOf];omega
  have hs:=a6.out;rw[zA ht]at hs;have b5:(z.name.toList==name.toList)=false:=by simpa using ht
  have HS:=aG hs;clear hs a0 ht;go_wp2_with(at_builtin;refine uB rfl (.tmp 38) (.tmp 46) rfl w.heap.size _ _ zs [z] rfl (by go_simp) (HO.out.1.below (bel wr _)) (RowAt.single (Blk.new_i _ _ _ _) 2 1) (by simp;omega) (bel w _).size ?_);intro v' w' hg;have a7:=hg.on (HO.out.1.below (bel wr _)) (bel w _).size;have a8:=(bel w _).trans a7;have a9:OwnP w.heap.size w' 97 2 v' ((zs++[z]).map PEnt.cells):=by have:=hg.1;simpa using this
  have H2:=bB a9 a8;clear hg a7 a9 a8;go_wp2_with fail;go_roundw
  case rel=>exact⟨q+1,_,by go_num,by omega,by simp;omega,H2.out.1,HS.out.symm,H2.out.2⟩
  simp[intOf];omega
 have a4:¬(q:Int)<xe.length:=by omega
 have b3:zs=dC name xe:=by rw[hre,List.take_of_length_le (by omega)]
 subst b3;have hf:Below B w (wr.setCell ⟨bi,K*4+2,none⟩ (.slice va zn vc))/\Keep (rA w) w (wr.setCell ⟨bi,K*4+2,none⟩ (.slice va zn vc))/\StOwn B (wr.setCell ⟨bi,K*4+2,none⟩ (.slice va zn vc)) (.slice (some ⟨bi,0,none⟩) S.ins.length cap) (.slice ao (S.op.map PDesc.cells).length co) (.slice am (S.made.map aK).length cm) (S.ents K ⟨xn,xd,xe,xs⟩ (dC name xe)):=by obtain⟨ho,hx,hb⟩:=H.out;have h1:=HO.out.1;obtain⟨r1,r2,r3⟩:=ho.setEnts hx b0.out (h1.mono hB) (Keep.of_below hbw _) (λk hk=>.inr (h1.ge hk)) hB;exact⟨r2,r3,r1⟩
 have HF:=aG hf;have b6:=H.out.1.ins_thaw hKl hbw;clear hf hre;go_wp2_with fail;exact xC (v:=.tuple #[]) (by simp[results,go_sem]) rfl ⟨rfl,by have:=HF.out;first|exact this|(simp only[lM]at this;exact this)⟩
theorem aFA {s:ByteArray} {p:Nat} (hp:p<s.size) (h:gV (s.extract p s.size) ⟨#[239,191,189]⟩=true):(s.get! p).toNat=239/\p+1<s.size/\p+2<s.size/\(s.get! (p+1)).toNat=191/\(s.get! (p+2)).toNat=189:=by
 unfold gV at h;rw[zE,zI,beq_iff_eq]at h;obtain⟨h1,h2⟩:=h;have a0:(s.extract p s.size).size=s.size-p:=by simp
 have h3:(⟨#[239,191,189]⟩:ByteArray).size=3:=rfl;rw[h3,a0]at h1;rw[h3,zW,zW]at h2;have hd:((s.extract p s.size).extract 0 3).data=#[239,191,189]:=Array.toList_inj.1 h2;rw[ByteArray.data_extract,ByteArray.data_extract]at hd;have g:∀k (hk:k<3),(s.get! (p+k))=(#[239,191,189]:Array UInt8)[k]'hk:=by
  intro k hk;have a1:p+k<s.size:=by omega
  have e1:((s.data.extract p s.size).extract 0 3)[k]? =(#[239,191,189]:Array UInt8)[k]? :=by rw[hd]
  have a2:s.data.size=s.size:=rfl;rw[yA (by simp;omega),yA (by simpa using hk)]at e1;simp only[Array.getElem_extract,zM,zF]at e1;rw[fP s _ a1];exact e1
 have g0:=g 0 (by omega);have g1:=g 1 (by omega);have g2:=g 2 (by omega);rw[zN]at g0;exact⟨by rw[g0];rfl,by omega,by omega,by rw[g1];rfl,by rw[g2];rfl⟩
theorem tU (s:ByteArray):∀b p,cC s b p=true->eR s b p=true
 |0,_,_=>rfl
 | b + 1,p,h=>by
   unfold cC at h;unfold eR;by_cases hp:p<s.size
   .rw [zB hp]at h |-;obtain⟨h1,h2,h3⟩:=aAY hp;rw[zE,yL]at h;obtain⟨hb,hc⟩:=h;unfold fL at hb;simp only[yU,yV,yF]at hb;obtain⟨⟨⟨hb1,hb2⟩,hb3⟩,hb4⟩:=hb;have hk:(bV s p).2≠0:=by
     intro e;obtain⟨e1,e2⟩:=h3.1 e;rw[e1]at hb4;rw[Bool.and_eq_false_iff]at hb4;rcases hb4 with hb4|hb4
     .rw[yF]at hb4;exact hb4 (by kernel_rfl)
     rw[Bool.not_eq_false']at hb4;obtain⟨q0,q1,q2,q3,q4⟩:=aFA hp hb4;refine e2 ⟨q0,?_,?_,?_,?_⟩
     .rw[decide_eq_true q1,q3];decide
     .rw[decide_eq_true q2,q4];decide
     .rw[q3]
     rw[q4]
    have hw:(bV s p).2.toNat=(Utf8.decode s p).2:=by
     have:0<=(bV s p).2:=by
      unfold bV bE
      repeat' split
      all_goals simp
     omega
    rw[zA (by
     rintro(e|e|e|e)
     .exact hk e
     .omega
     .omega
     omega),hw]
    exact tU s b _ hc
   rw[zA hp]
theorem aCK (s:ByteArray):bT s=cR s:=by
 unfold bT cR;split
 .rfl
 split
 .rfl
 by_cases h:cC s s.size 0=true
 .rw[zB h,zB (tU s _ _ h)]
 rw[zA h,zA (λe=>h (pF s _ _ e))]
section
theorem aQL (b0 b1 b2 b3:Nat) (c1 c2 c3:Bool):(eW b0 b1 b2 b3 c1 c2 c3).1=47↔b0=47:=by
 unfold eW;constructor
 .intro h
  repeat' split at h
  all_goals simp at h
  all_goals first|exact h|omega|(simp only[zE,zI]at *;omega)
 rintro rfl;rfl
theorem aSH (b0 b1 b2 b3:Nat) (c1 c2 c3:Bool):1<=(eW b0 b1 b2 b3 c1 c2 c3).2/\(2<=(eW b0 b1 b2 b3 c1 c2 c3).2->c1=true)/\(3<=(eW b0 b1 b2 b3 c1 c2 c3).2->c2=true)/\(4<=(eW b0 b1 b2 b3 c1 c2 c3).2->c3=true)/\(eW b0 b1 b2 b3 c1 c2 c3).2<=4/\(b0=47->(eW b0 b1 b2 b3 c1 c2 c3).2=1):=by
 unfold eW
 repeat' split
 all_goals simp_all
 all_goals first|done|omega
variable {p:Nat} {t:ByteArray}
theorem aNP:(Utf8.decode t p).1=47↔(t.get! p).toNat=47:=by rw[jW];exact aQL _ _ _ _ _ _ _
theorem aRB:1<=(Utf8.decode t p).2/\((t.get! p).toNat=47->(Utf8.decode t p).2=1)/\∀j,1<=j->j<(Utf8.decode t p).2->p+j<t.size/\(t.get! (p+j)).toNat≠47:=by
 rw[jW];obtain⟨h1,h2,h3,h4,h5,h6⟩:=aSH (t.get! p).toNat (t.get! (p+1)).toNat (t.get! (p+2)).toNat (t.get! (p+3)).toNat (decide (p+1<t.size)&&(t.get! (p+1)).toNat/64==2) (decide (p+2<t.size)&&(t.get! (p+2)).toNat/64==2) (decide (p+3<t.size)&&(t.get! (p+3)).toNat/64==2);refine⟨h1,h6,λj hj1 hj2=>?_⟩;have key:∀k,(decide (p+k<t.size)&&(t.get! (p+k)).toNat/64==2)=true->p+k<t.size/\(t.get! (p+k)).toNat≠47:=by intro k hk;simp only[zE,zI,beq_iff_eq]at hk;exact⟨hk.1,by omega⟩
 have:j=1\/j=2\/j=3:=by omega
 rcases this with rfl|rfl|rfl
 .exact key 1 (h2 (by omega))
 .exact key 2 (h3 (by omega))
 exact key 3 (h4 (by omega))
theorem sI {s:ByteArray} {j:Nat} (h:j<s.size):(s++⟨#[47]⟩:ByteArray).get! j=s.get! j:=by
 have h2:j<(s++⟨#[47]⟩:ByteArray).size:=by rw[yY];omega
 rw[fP _ _ h2,fP _ _ h];exact ByteArray.getElem_append_left h
theorem aCL (s:ByteArray):((s++⟨#[47]⟩:ByteArray).get! s.size).toNat=47:=by
 have h2:s.size<(s++⟨#[47]⟩:ByteArray).size:=by rw[yY];exact Nat.lt_succ_self _
 rw[fP _ _ h2,ByteArray.getElem_append_right (zC _)];simp only[Nat.sub_self];rfl
theorem aHD (s:ByteArray):∀(w n fr i:Nat) (acc:List ByteArray),i+w<=s.size->(∀j,j<w->(s.get! (i+j)).toNat≠47)->bR s (n+w) fr i acc=bR s n fr (i+w) acc
 |0,_,_,_,_,_,_=>rfl
 | w+1,n,fr,i,acc,hw,h=>by
   have a0:i<s.size:=by omega
   have h0:=h 0 (by omega);rw[zN,fP s i a0]at h0;rw[<-Nat.add_assoc]
   conv=>lhs;unfold bR
   rw[dif_pos a0,zA h0];rw[aHD s w n fr (i+1) acc (by omega) (λj hj=>by
    have:=h (j+1) (by omega)
    rwa [show i+(j+1)=i+1+j by omega]at this)]
   rw[show i+1+w=i+(w+1) by omega]
theorem aCM (s:ByteArray):cR s=0\/cR s=800\/cR s=801:=by
 unfold cR
 repeat' split
 all_goals simp
theorem aNQ (s:ByteArray):∀(m b pos fr:Nat) (acc:List ByteArray),s.size+1-pos<=m->s.size+1-pos<=b->1<=pos->pos<=s.size+1->bX s (s++⟨#[47]⟩) b pos fr acc=bR s (s.size+1-pos) fr pos acc:=by
 intro m
 induction m with
 | zero=>
   intro b pos fr acc h1 h2 h3 h4;have e:pos=s.size+1:=by omega
   subst e;rw[Nat.sub_self];have ht:(s++⟨#[47]⟩:ByteArray).size=s.size+1:=by rw[yY];rfl
   rw[gG _ _ _ _ _ _ (by omega)];rfl
 | succ m ih=>
   intro b pos fr acc h1 h2 h3 h4;have ht:(s++⟨#[47]⟩:ByteArray).size=s.size+1:=by rw[yY];rfl
   by_cases he:pos=s.size+1
   .subst he;rw[Nat.sub_self,gG _ _ _ _ _ _ (by omega)];rfl
   have a4:pos<s.size+1:=by omega
   obtain⟨b,rfl⟩:∃b',b=b'+1:=⟨b-1,by omega⟩;obtain⟨w1,w2,w3⟩:=aRB (t:=s++⟨#[47]⟩) (p:=pos);unfold bX;rw[zB (by omega)];have a0:((pos:Int)==0)=false:=by rw[yF];omega
   rw[a0,Bool.false_or];obtain⟨n,hn⟩:∃n,s.size+1-pos=n+1:=⟨s.size-pos,by omega⟩;have a1:s.size+1-(pos+1)=n:=by omega
   by_cases h47:((s++⟨#[47]⟩:ByteArray).get! pos).toNat=47
   .have hd:=aNP.2 h47;have hw:=w2 h47;rw[hd,hw,zA (by decide)];have a2:bR s (s.size+1-pos) fr pos acc=(if bT (s.extract fr pos)=801 then(1101,[])else if bT (s.extract fr pos)=800 then(1100,[])else bR s n (pos+1) (pos+1) (acc++[s.extract fr pos])):=by
     rw[hn]
     conv=>lhs;unfold bR
     by_cases hs:pos<s.size
     .rw[dif_pos hs,zB (by rw[<-fP s pos hs,<-sI hs];exact h47)]
     rw[dif_neg hs]
    rw[a2,aCK];rcases aCM (s.extract fr pos)with e|e|e
    .rw[e,zB rfl,zA (by decide),zA (by decide),ih b (pos+1) (pos+1) _ (by omega) (by omega) (by omega) (by omega),a1]
    .rw[e,zA (by decide),zA (by decide),zA (by decide),zB rfl]
    rw[e,zA (by decide),zB rfl,zB rfl]
   have hd:¬(Utf8.decode (s++⟨#[47]⟩) pos).1=47:=λe=>h47 (aNP.1 e);have hs:pos<s.size:=by
    rcases Nat.lt_or_ge pos s.size with h|h
    .exact h
    exfalso;have:pos=s.size:=by omega
    subst this;exact h47 (aCL s)
   obtain⟨w,hw⟩:∃w,(Utf8.decode (s++⟨#[47]⟩) pos).2=w:=⟨_,rfl⟩;rw[hw]at w1 w3 |-;have a3:pos+w<=s.size:=by
    rcases Nat.lt_or_ge s.size (pos+w)with h|h
    .exfalso;have:=(w3 (s.size-pos) (by omega) (by omega)).2;rw[show pos+(s.size-pos)=s.size by omega]at this;exact this (aCL s)
    exact h
   rw[zB (by rw[yL,yF];omega),ih b (pos+w) fr acc (by omega) (by omega) (by omega) (by omega)];rw[show s.size+1-pos=(s.size+1-(pos+w))+w by omega];refine(aHD s w _ fr pos acc a3 (λj hj=>?_)).symm;rcases Nat.eq_zero_or_pos j with rfl|hj0
   .rw[zN,<-sI hs];exact h47
   have:=(w3 j hj0 hj).2
   rwa [sI (by omega)]at this
theorem nQ (s:ByteArray):∀(n fr i:Nat) (acc:List ByteArray),(bR s n fr i acc).1≠0->(bR s n fr i acc).2=[]
 |0,_,_,_,h=>absurd rfl h
 | n + 1,fr,i,acc,h=>by
   unfold bR at h |-;by_cases h1:i<s.size
   .simp only[dif_pos h1]at h |-;by_cases h2:(s[i]'h1).toNat=47
    .simp only[zB h2]at h |-;by_cases h3:bT (s.extract fr i)=801
     .rw[zB h3]
     simp only[zA h3]at h |-;by_cases h4:bT (s.extract fr i)=800
     .rw[zB h4]
     simp only[zA h4]at h |-;exact nQ s n _ _ _ h
    simp only[zA h2]at h |-;exact nQ s n _ _ _ h
   simp only[dif_neg h1]at h |-;by_cases h3:bT (s.extract fr i)=801
   .rw[zB h3]
   simp only[zA h3]at h |-;by_cases h4:bT (s.extract fr i)=800
   .rw[zB h4]
   simp only[zA h4]at h |-;exact nQ s n _ _ _ h
theorem tV (s:ByteArray):bZ s=aA s:=by
 unfold bZ aA;by_cases h1:64<s.size
 .rw[zB h1,zB h1]
 rw[zA h1,zA h1];by_cases h2:0<s.size
 .rw [dif_pos h2,dif_pos h2];by_cases h47:(s[0]'h2).toNat=47
  .have hb:¬((((s[0]'h2).toNat:Int)==47)=false):=by
    rw[h47];decide
   rw[zB h47,zA hb];by_cases h3:s.size=1
   .rw[zB h3,zB h3]
   rw[zA h3,zA h3];have ht:(s++⟨#[47]⟩:ByteArray).size=s.size+1:=by rw[yY];rfl
   have h0:((s++⟨#[47]⟩:ByteArray).get! 0).toNat=47:=by rw[sI h2,fP s 0 h2];exact h47
   have hw:=(aRB (t:=s++⟨#[47]⟩) (p:=0)).2.1 h0;have hr:bX s (s++⟨#[47]⟩) (s++⟨#[47]⟩:ByteArray).size 0 1 []=bR s s.size 1 1 []:=by
    rw[ht]
    conv=>lhs;unfold bX
    rw[zB (by omega)];have hc:(((0:Nat):Int)==0||!(((Utf8.decode (s++⟨#[47]⟩:ByteArray) 0).1:Int)==47))=true:=by simp
    rw[zB hc,hw,zM,aNQ s s.size s.size 1 1 [] (by omega) (by omega) (by omega) (by omega),Nat.add_sub_cancel]
   rw[hr];obtain⟨G,hG⟩:∃G,bR s s.size 1 1 []=G:=⟨_,rfl⟩;have he:=nQ s s.size 1 1 [];rw[hG]at he |-;obtain⟨c,ns⟩:=G;simp only at he |-;by_cases hc:c=0
   .subst hc;by_cases hl:4<ns.length
    .simp[hl]
    simp[hl]
   have:=he hc;subst this;simp[hc]
  have hb:(((s[0]'h2).toNat:Int)==47)=false:=by rw[yF];omega
  rw[zA h47,zB hb]
 rw[dif_neg h2,dif_neg h2]
theorem aHE (c:Int):oH c=dN c:=by
 unfold oH dN
 repeat' split
 all_goals first|rfl|omega
end
end Go.Proofs.YtmkapobnfigedaaGreatDoor
