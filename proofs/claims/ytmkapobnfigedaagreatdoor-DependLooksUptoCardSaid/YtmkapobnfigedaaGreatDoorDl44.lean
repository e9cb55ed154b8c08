/- Part of the proof of a law of chapter 15. Conditions: none. -/
import Derived.Test.YtmkapobnfigedaaGreatDoorDl43
set_option linter.unusedVariables false
set_option linter.unusedSimpArgs false
set_option maxRecDepth 100000
set_option maxHeartbeats 8000000
namespace Go.Proofs.YtmkapobnfigedaaGreatDoor
open Go.RowKit
theorem KRows.at_ {B:Nat} {w:World} {vo:Value} {kss:List (List PKey)} {kvs:List Value} (h:KRows B w vo kss kvs):∃a cap,vo=.slice a kss.length cap/\∀wr,Below w.heap.size w wr->∀(q:Nat) (ks:List PKey),kss[q]? =some ks->∃b off kv,a=some ⟨b,off,none⟩/\BlockLt b wr/\wr.cell? ⟨b,off+q,none⟩=some kv/\RowAt wr 2 kv (ks.map PKey.cells):=by obtain⟨h1,h2,h3⟩:=h;obtain⟨a,cap,rfl,hat⟩:=h1.row.at_;rw[lM,h2];refine⟨a,cap,rfl,λwr hb q ks hq=>?_⟩;obtain⟨hql,_⟩:=gI.1 hq;obtain⟨kv,hkv⟩:∃kv,kvs[q]? =some kv:=⟨_,gE (by omega)⟩;obtain⟨b,off,e,_,i2,hc⟩:=hat wr hb q [kv] (by rw[gM,hkv];rfl);have:=hc 0 _ rfl;rw[Nat.mul_one,zN]at this;exact⟨b,off,kv,e,i2,this,(h3 q kv ks hkv hq).row.below hb (zC _)⟩
def dD (kss:List (List PKey)) (e l:Nat):Bool:=match kss[e]?,kss[l]? with
 |some x,some y=>fX x y
 |_,_=>false
def pJ (S:PSt) (cs:List PCall) (inn:List Bool):Bool:=decide (inn.length=cs.length)&&dB S&&aGO (dD (mE S cs)) inn
theorem mI (f:Nat->Bool) (n q:Nat) (h:q<n):((List.range n).drop q).all f=(f q&&((List.range n).drop (q+1)).all f):=by rw[yH (by simpa using h),List.all_cons];simp
theorem oE (f:Nat->Bool) (n q:Nat) (h:¬q<n):((List.range n).drop q).all f=true:=by rw[List.drop_eq_nil_of_le (by simp;omega)];rfl
theorem aLO (iv ov mv:Value) (S:PSt) (cs:List PCall) (inn:List Bool) (vc vi:Value) (w:World) (h:StRead w iv ov mv S) (hwf:S.wf) (hc:RowAt w 8 vc (cs.map PCall.cells)) (hcd:∀c∈cs,c.data.size<=1000000000000000000) (hcl:cs.length<=1000000000) (hi:RowAt w 1 vi (inn.map bK)) (hil:inn.length<=1000000000):
 vR w 26 #[.agg #[iv,ov,mv],vc,vi] (.bool (pJ S cs inn)):=by
 have a2:=fun(ww:World) (hb:Below w.heap.size w ww)=>aRG iv ov mv S cs vc ww (h.below hb (zC _)) hwf (hc.below hb (zC _)) hcd hcl;have a0:=fun(ww:World) (hb:Below w.heap.size w ww)=>aCE iv ov mv S ww (h.below hb (zC _)) hwf;have o1:=h.1.one;have o2:=h.2.1.one;have o3:iv.oneCell'=true:=by obtain⟨_,_,_,h3,_⟩:=h;exact h3.one
 obtain⟨ac,cc,rfl,-⟩:=hc;obtain⟨ai,ci,rfl,hati⟩:=hi.at_;rw[lM]at a2 |-;rw[lM];obtain⟨R,hR⟩:∃R,pJ S cs inn=R:=⟨_,rfl⟩;rw[hR];have HR:=aG hR;have HI:=aG hati;unfold pJ at hR;clear h hi hati;by_cases hl:inn.length=cs.length
 .have b1 : ((inn.length:Int) !=cs.length)=false:=by simp;omega
  rw[decide_eq_true hl,xA]at hR;rcases hm:dB S with _|_
  .rw[hm,yJ]at hR;subst hR;rw[hm]at a0;clear hm a2
   go_enter Tryz.func26,Tryz.ntmps26;go_wp2_with(go_at_call 39;refine aE (a0 _ (bel _ _)) λp=>?_);go_ret;exact⟨rfl,bel _ _⟩
  rw [hm, xA]at hR;rw[hm]at a0;have HC:=aG hR;clear hm hR;go_enter Tryz.func26,Tryz.ntmps26;go_upto_region 4 with(first|(go_at_call 39;refine aE (a0 _ (bel _ _)) λp=>?_)|(go_at_call 54;refine(a2 _ (bel _ _)).mono ?_;rintro e w3 ⟨hb3,vo,kvs,rfl,hk⟩;obtain⟨ao,co,rfl,hato⟩:=hk.at_))
  have b3:=qA cs S;generalize mE S cs=kss at *;have a7:Below w.heap.size w w3:=(bel w _).trans (hb3.mono (bel w _).size);have HO:=aG hato;have HW:=aG a7;have a8:=a7.size;have b4:(kss.length:Int)=cs.length:=by omega
  clear hato hk hb3 a2 a0 hcd a7;go_wp2_with fail
  go_loopw[25] (λvi wr=>∃q:Nat,vi=.int .i64 q/\q<=kss.length/\((List.range inn.length).drop q).all (λl=>(List.range l).all λe=>!(inn.getD l false&&!inn.getD e false&&dD kss e l))=R/\Below w3.heap.size w3 wr) (λvi _=>(kss.length-intOf vi).toNat)
  case atStart=>exact⟨0,rfl,by omega,by rw[<-HC.out];rfl,bel _ _⟩
  obtain⟨q,rfl,hq,hre,hbr⟩:=hrel
  rename World=>wo
  have iB:Bel w3 wo:=⟨hbr⟩;by_cases hlt:q<kss.length
  .rw [mI _ _ _ (by omega)]at hre;obtain⟨y,hy⟩:∃y,inn[q]? =some y:=⟨_,gE (by omega)⟩
   obtain⟨ky,hky⟩:∃ky,kss[q]? =some ky:=⟨_,gE (by omega)⟩;have a9:inn.getD q false=y:=by rw[zG,hy];rfl
   rw[a9]at hre;have a6:=aG hre;have HY:=bB hy hky;clear hre hy hky a9;go_wp2_with fail
   go_loopw[29] (λvi w2=>∃k:Nat,vi=.int .i64 k/\k<=q/\((List.range q).drop k).all (λe=>!(y&&!inn.getD e false&&dD kss e q))=(List.range q).all (λe=>!(y&&!inn.getD e false&&dD kss e q))/\Below wo.heap.size wo w2) (λvi _=>(q-intOf vi).toNat)
   case atStart=>exact⟨0,rfl,by omega,rfl,bel _ _⟩
   obtain⟨k,rfl,hk,hre2,hb2⟩:=hrel;have a3:Below w3.heap.size w3 wr:=hbr.trans (hb2.mono hbr.size);have b2:Bel w3 wr:=⟨a3⟩;have b5:Bel wo wr:=⟨hb2⟩;by_cases hlk:k<q
   .rw[mI _ _ _ hlk]at hre2;obtain⟨x,hx⟩:∃x,inn[k]? =some x:=⟨_,gE (by omega)⟩
    obtain⟨kx,hkx⟩:∃kx,kss[k]? =some kx:=⟨_,gE (by omega)⟩;have b0:inn.getD k false=x:=by rw[zG,hx];rfl
    rw[b0]at hre2;have hT:dD kss k q=fX kx ky:=by unfold dD;rw[hkx,HY.out.2]
    rw[hT]at hre2;have a5:Below w.heap.size w wr:=HW.out.trans (a3.mono a8);obtain⟨bi,oi,rfl,iI0,iI,hci⟩:=HI.out wr a5 q (bK y) (by rw[gM,HY.out.1];rfl);have i0:=hci 0 _ rfl;obtain⟨bi2,oi2,he2,-,-,hci2⟩:=HI.out wr a5 k (bK x) (by rw[gM,hx];rfl);have j0:=hci2 0 _ rfl;simp only[zF,yG,and_true]at he2;obtain⟨rfl,rfl⟩:=he2;rw[Nat.mul_one,zN]at i0 j0;obtain⟨bo,oo,kvy,rfl,iO,oy,hry⟩:=HO.out wr a3 q ky HY.out.2;obtain⟨bo2,oo2,kvx,heo,-,ox,hrx⟩:=HO.out wr a3 k kx hkx;simp only[zF,yG,and_true]at heo;obtain⟨rfl,rfl⟩:=heo;have a4:=fun(ww:World) (hb:Below wr.heap.size wr ww)=>qC kx ky kvx kvy ww (hrx.below hb (zC _)) (hry.below hb (zC _));have g1:(q:Int)<inn.length:=by omega
    have g2:(k:Int)<inn.length:=by omega
    have g3:(k:Int)<kss.length:=by omega
    obtain⟨ax,nx,cx,rfl⟩:∃a n c,kvx=.slice a n c:=by obtain⟨a,c,h,-⟩:=hrx;exact⟨a,_,c,h⟩
    obtain⟨ay,ny,cy,rfl⟩:∃a n c,kvy=.slice a n c:=by obtain⟨a,c,h,-⟩:=hry;exact⟨a,_,c,h⟩
    generalize fX kx ky=t at *;have a1:=aG hre2;clear hre2 hx hkx b0 hT hci hci2 hrx hry;rcases y with _|_
    .go_wp2_with fail;refine qR ?_
     repeat(go_big_quiet_step (fail))
     refine QN λp=>?_;go_wp2_with fail;go_roundw
     case rel=>exact⟨k+1,by go_num,by omega,by have:=a1.out;simpa using this,bel _ _⟩
     simp[intOf];omega
    rcases x with _|_;rotate_left
    .go_wp2_with fail;refine qR ?_
     repeat(go_big_quiet_step (fail))
     refine QN λp=>?_;go_wp2_with fail;go_roundw
     case rel=>exact⟨k+1,by go_num,by omega,by have:=a1.out;simpa using this,bel _ _⟩
     simp[intOf];omega
    rcases t with _|_
    .go_wp2_with fail;refine qR ?_
     repeat(go_big_quiet_step ((first|refine cI (a4 _ (bel _ _))|refine cJ (a4 _ (bel _ _)))))
     refine QN λp=>?_;go_wp2_with fail;go_roundw
     case rel=>exact⟨k+1,by go_num,by omega,by have:=a1.out;simpa using this,bel _ _⟩
     simp[intOf];omega
    go_wp2_with fail;refine qR ?_
    repeat(go_big_quiet_step ((first|refine cI (a4 _ (bel _ _))|refine cJ (a4 _ (bel _ _)))))
    refine QN λp=>?_;go_wp2_with fail;go_ret;exact⟨gO (by have h2:=a6.out;rw[<-a1.out]at h2;rw[<-h2];rfl),HW.out.trans ((bel w3 _).mono a8)⟩
   rw[oE _ _ _ hlk]at hre2;have a1:=aG hre2;clear hre2;go_wp2_with fail;go_roundw
   case rel=>exact⟨q+1,by go_num,by omega,by have:=a6.out;rw[<-a1.out]at this;simpa using this,b2.below⟩
   simp[intOf];omega
  rw[oE _ _ _ (by omega)]at hre;have a6:=aG hre;clear hre;go_wp2_with fail;go_ret;exact⟨gO a6.out,HW.out.trans ((bel w3 _).mono a8)⟩
 have b1:((inn.length:Int) !=cs.length)=true:=by simp;omega
 rw[yM hl,yJ,yJ]at hR;subst hR;clear a2 a0;go_enter Tryz.func26,Tryz.ntmps26;go_wp2_with fail;go_ret;exact⟨rfl,bel _ _⟩
end Go.Proofs.YtmkapobnfigedaaGreatDoor
