/- Part of the proof of a law of chapter 15. Conditions: none. -/
import Derived.Test.YtmkapobnfigedaaGreatDoorDl45
set_option linter.unusedVariables false
set_option linter.unusedSimpArgs false
set_option maxRecDepth 100000
set_option maxHeartbeats 8000000
namespace Go.Proofs.YtmkapobnfigedaaGreatDoor
open Go.RowKit
def kX (S:PSt) (c:PCall):List PKey:=if dB S=true then kV S c else[]
theorem aMY (iv ov mv:Value) (S:PSt) (c:PCall) (w:World) (h:StRead w iv ov mv S) (hwf:S.wf) (hcd:c.data.size<=1000000000000000000):
 Calls Tryz.prog 12 #[.agg #[iv,ov,mv],c.val] w λe w'=>Below w.heap.size w w'/\∃kv,e=.returned kv/\OwnP w.heap.size w' 61 2 kv ((kX S c).map PKey.cells):=by
 have a1:=fun(ww:World) (hb:Below w.heap.size w ww)=>aCE iv ov mv S ww (h.below hb (zC _)) hwf;have a0:=fun(ww:World) (hb:Below w.heap.size w ww)=>aMX iv ov mv S c ww (h.below hb (zC _)) hwf (aEA hwf) hcd;have o1:=h.1.one;have o2:=h.2.1.one;have o3:iv.oneCell'=true:=by obtain⟨_,_,_,h3,_⟩:=h;exact h3.one
 obtain⟨R,hR⟩:∃R,kX S c=R:=⟨_,rfl⟩;rw[hR];unfold kX at hR;clear h;unfold PCall.val at a0 |-;rcases hm:dB S with _|_
 .rw[hm,zA (by decide)]at hR;subst hR;rw[hm]at a1;clear hm a0
  go_enter Tryz.func12,Tryz.ntmps12;go_wp2_with(go_at_call 39;refine aE (a1 _ (bel _ _)) λp=>?_);go_ret;exact⟨bel _ _,_,rfl,.inl ⟨rfl,rfl⟩⟩
 rw[hm,zB rfl]at hR;rw[hm]at a1;rw[hR]at a0;clear hm hR;go_enter Tryz.func12,Tryz.ntmps12;go_wp2_with(first|(go_at_call 39;refine aE (a1 _ (bel _ _)) λp=>?_)|(go_at_call 40;refine(a0 _ (bel _ _)).mono ?_;rintro e w3 ⟨hb3,kv,iv3,ov3,mv3,rfl,hk,hs⟩;have a2:=hk.one;obtain⟨a11,a12,a13,a14,a15,a16,a17,a18,a19,rfl,rfl,rfl⟩:=hs.forms));go_ret;exact⟨(bel w _).trans ((hb3.mono (bel w _).size).trans ((bel w3 _).mono (zD (bel w _).size hb3.size))),kv,rfl,OwnP.mono (OwnP.keep hk (Keep.of_below (bel w3 _) (λ_=>False)) (λ_ _ h=>h)) (bel w _).size⟩
theorem aJD (us bs:List Bool) (q:Nat) {x y:Bool} (hx:us[q]? =some x) (hy:bs[q]? =some y):(us.drop q==bs.drop q)=((x==y)&&(us.drop (q+1)==bs.drop (q+1))):=by obtain⟨h1,rfl⟩:=gI.1 hx;obtain⟨h2,rfl⟩:=gI.1 hy;rw[yH h1,yH h2];rfl
theorem aBW (us bs:List Bool) (va vb:Value) (w:World) (ha:RowAt w 1 va (us.map bK)) (hb:RowAt w 1 vb (bs.map bK)):
 vR w 25 #[va,vb] (.bool (us==bs)):=by
 have a2:us.length<=9223372036854775807:=by obtain⟨_,_,_,h,_⟩:=ha;rw[lM]at h;exact h
 obtain⟨aa,ca,rfl,hata⟩:=ha.at_;obtain⟨ab,cb,rfl,hatb⟩:=hb.at_;rw[lM,lM];have HA:=bB hata hatb;clear hata hatb ha hb;obtain⟨R,hR⟩:∃R,(us==bs)=R:=⟨_,rfl⟩;rw[hR];by_cases hl:us.length=bs.length
 .have a0:((us.length:Int) !=bs.length)=false:=by simp;omega
  have HR:=aG hR;clear hR;go_enter Tryz.func25,Tryz.ntmps25;go_wp2_with fail
  go_loopw[5] (λvi wr=>∃q:Nat,vi=.int .i64 q/\q<=us.length/\(us.drop q==bs.drop q)=R/\Below w.heap.size w wr) (λvi _=>(us.length-intOf vi).toNat)
  case atStart=>exact⟨0,rfl,by omega,by simpa using HR.out,bel _ _⟩
  obtain⟨q,rfl,hq,hre,hbr⟩:=hrel;have iB:Bel w wr:=⟨hbr⟩;by_cases hlt:q<us.length
  .obtain⟨x,hx⟩:∃x,us[q]? =some x:=⟨_,gE hlt⟩
   obtain⟨y,hy⟩:∃y,bs[q]? =some y:=⟨_,gE (by omega)⟩;obtain⟨be,offe,rfl,iE0,iE,hce⟩:=HA.out.1 wr hbr q (bK x) (by rw[gM,hx];rfl);have e0:=hce 0 _ rfl;obtain⟨bf,offf,rfl,iF0,iF,hcf⟩:=HA.out.2 wr hbr q (bK y) (by rw[gM,hy];rfl);have f0:=hcf 0 _ rfl;rw[Nat.mul_one,zN]at e0 f0;rw[aJD us bs q hx hy]at hre;have g1:(q:Int)<us.length:=by omega
   have g2:(q:Int)<bs.length:=by omega
   have HE:=aG hre;clear hre hce hcf hx hy;rcases x with _|_<;>rcases y with _|_
   .go_wp2_with fail;refine qR ?_
    repeat(go_big_quiet_step (fail))
    refine QN λp=>?_;go_wp2_with fail;go_roundw
    case rel=>exact⟨q+1,by go_num,by omega,by have:=HE.out;simpa using this,bel _ _⟩
    simp[intOf];omega
   .go_wp2_with fail;refine qR ?_
    repeat(go_big_quiet_step (fail))
    refine QN λp=>?_;go_wp2_with fail;go_ret;exact⟨gO (by rw[<-HE.out];rfl),bel _ _⟩
   .go_wp2_with fail;refine qR ?_
    repeat(go_big_quiet_step (fail))
    refine QN λp=>?_;go_wp2_with fail;go_ret;exact⟨gO (by rw[<-HE.out];rfl),bel _ _⟩
   go_wp2_with fail;refine qR ?_
   repeat(go_big_quiet_step (fail))
   refine QN λp=>?_;go_wp2_with fail;go_roundw
   case rel=>exact⟨q+1,by go_num,by omega,by have:=HE.out;simpa using this,bel _ _⟩
   simp[intOf];omega
  rw[List.drop_eq_nil_of_le (by omega),List.drop_eq_nil_of_le (by omega)]at hre;have HE:=aG hre;clear hre;go_wp2_with fail;go_ret;exact⟨gO (by rw[<-HE.out];rfl),bel _ _⟩
 have a0:((us.length:Int) !=bs.length)=true:=by simp;omega
 have a1:R=false:=by rw[<-hR,Bool.eq_false_iff];intro h;rw[beq_iff_eq]at h;exact hl (by rw[h])
 subst a1;clear hR;go_enter Tryz.func25,Tryz.ntmps25;go_wp2_with fail;go_ret;exact⟨rfl,bel _ _⟩
end Go.Proofs.YtmkapobnfigedaaGreatDoor
