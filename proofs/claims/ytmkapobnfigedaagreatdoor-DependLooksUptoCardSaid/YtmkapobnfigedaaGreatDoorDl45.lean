/- Part of the proof of a law of chapter 15. Conditions: none. -/
import Derived.Test.YtmkapobnfigedaaGreatDoorDl44
set_option linter.unusedVariables false
set_option linter.unusedSimpArgs false
set_option maxRecDepth 100000
set_option maxHeartbeats 8000000
namespace Go
theorem kO {P:Program} {ops:Array Oper} {S:World->Prop} {E:List Nat} {lx:Bool} {Q:Act->World->Prop} {o:Oper} {a:Act} {w:World} {k:Nat} {l:List Oper} (hw:Region.wanted o (yielded ops a.tmps)=false)
 (h:wD P ops S E lx Q (k+1) l (a.put o.dst undef) w):wD P ops S E lx Q k (o::l) a w:=by
 simp only[wD];rw[zA (by rintro⟨_,h⟩;rw[hw]at h;cases h)];exact⟨undef,.inr ⟨hw,rfl⟩,h⟩
end Go
namespace Go.Proofs.YtmkapobnfigedaaGreatDoor
open Go.RowKit
def dV (inn:List Bool):Array Value:=(inn.map Value.bool).toArray
theorem rM {inn:List Bool} {k:Nat} {x:Bool} (h:inn[k]? =some x):(dV inn)[k]? =some (.bool x):=by unfold dV;simp[h]
theorem rN (inn:List Bool) (k:Nat) (x:Bool):(dV inn).setIfInBounds k (.bool x)=dV (inn.set k x):=by unfold dV;simp[List.map_set]
theorem KRows.mono {B B':Nat} {w:World} {vo:Value} {kss:List (List PKey)} {kvs:List Value} (h:KRows B w vo kss kvs) (hb:B'<=B):KRows B' w vo kss kvs:=⟨OwnP.mono h.out hb,h.len,λi kv ks h1 h2=>OwnP.mono (h.keys i kv ks h1 h2) hb⟩
def mH (S:PSt) (cs:List PCall) (want:List Int):List Bool:=if dB S=true then qN (dD (mE S cs)) cs.length (mL cs.length want (List.replicate cs.length false))else mL cs.length want (List.replicate cs.length false)
theorem aDS (n:Nat) (l:List Int) (q:Nat) {k:Int} (h:l[q]? =some k) (inn:List Bool):mL n (l.drop q) inn=mL n (l.drop (q+1)) (if 0<=k/\k<n then inn.set k.toNat true else inn):=by obtain⟨hl,rfl⟩:=gI.1 h;rw[yH hl];rfl
structure CW (w:World) (n:Nat) (vo:Value) (kss:List (List PKey)) (kvs:List Value) (inn:List Bool) (wr:World):Prop where
 len:inn.length=n
 below:Below w.heap.size w wr
 blk:Blk wr (w.heap.size+1) (dV inn) 4
 keys:KRows w.heap.size wr vo kss kvs
theorem CW.later {w:World} {n:Nat} {vo:Value} {kss:List (List PKey)} {kvs:List Value} {inn:List Bool} {wr w':World} (h:CW w n vo kss kvs inn wr) (hb:Below wr.heap.size wr w'):CW w n vo kss kvs inn w':=
 ⟨h.len,h.below.trans (hb.mono h.below.size),h.blk.below hb h.blk.lt.lt,h.keys.keep (Keep.of_below hb (λ_=>False)) (λ_ h=>h.elim)⟩
theorem CW.store {w:World} {n:Nat} {vo:Value} {kss:List (List PKey)} {kvs:List Value} {inn:List Bool} {wr w':World} (h:CW w n vo kss kvs inn wr) (hb:Below wr.heap.size wr w') {k m:Nat} (hk:k<m) (x:Bool) (hm:m<=n):CW w n vo kss kvs (inn.set k x) (w'.setCell ⟨w.heap.size+1,k,none⟩ (.bool x)):=by
 have h2:=h.later hb;refine⟨by rw[yB];exact h2.len,h2.below.setCell (p:=⟨w.heap.size+1,k,none⟩) (by show w.heap.size<=w.heap.size+1;omega) _,?_,?_⟩
 .have:=h2.blk.set_ k (.bool x);rw[rN]at this;exact this
 exact h2.keys.keep (Keep.setCell (S:=λg=>g=w.heap.size+1) (p:=⟨w.heap.size+1,k,none⟩) (Keep.refl _ w') (.inl rfl) _) (λg hg=>by rw[hg];exact⟨_,4,h2.blk,by decide,by decide⟩)
theorem aIH (iv ov mv:Value) (S:PSt) (cs:List PCall) (want:List Int) (vc vw:Value) (w:World) (h:StRead w iv ov mv S) (hwf:S.wf) (hc:RowAt w 8 vc (cs.map PCall.cells)) (hcd:∀c∈cs,c.data.size<=1000000000000000000) (hcl:cs.length<=2000000) (hw:RowAt w 1 vw (want.map aK)) (hwl:want.length<=1000000000) (hw64:∀k∈want,I64 k):
 Calls Tryz.prog 23 #[.agg #[iv,ov,mv],vc,vw] w λe w'=>Below w.heap.size w w'/\∃g,e=.returned (.slice (some ⟨g,0,none⟩) cs.length cs.length)/\w.heap.size<=g/\Blk w' g (dV (mH S cs want)) 4:=by
 have a3:=fun(ww:World) (hb:Below w.heap.size w ww)=>aRG iv ov mv S cs vc ww (h.below hb (zC _)) hwf (hc.below hb (zC _)) hcd (by omega);have a4:=fun(ww:World) (hb:Below w.heap.size w ww)=>aCE iv ov mv S ww (h.below hb (zC _)) hwf;have o1:=h.1.one;have o2:=h.2.1.one;have o3:iv.oneCell'=true:=by obtain⟨_,_,_,h3,_⟩:=h;exact h3.one
 obtain⟨ac,cc,rfl,-⟩:=hc;obtain⟨aw,cw,rfl,hatw⟩:=hw.at_;rw[lM]at a3 |-;rw[lM];obtain⟨R,hR⟩:∃R,mH S cs want=R:=⟨_,rfl⟩;rw[hR];have HI:=aG hatw;unfold mH at hR;obtain⟨j0,ji,jz0,jz1,jz2⟩:=info_parts aOX;have c3:∀u:World,(Instr.makeSlice 39 (.int .i64 cs.length) (.int .i64 cs.length)).run Tryz.prog u=.ok (.slice (some ⟨u.heap.size,0,none⟩) cs.length cs.length) (u.alloc (.cells (dV (List.replicate cs.length false)) 4)):=λu=>by have:=run_makeSlice (P:=Tryz.prog) u 39 4 j0 _ Tryz.underlying39 ji jz0 .i64 .i64 cs.length cs.length (by omega) (Int.le_refl _) (by rw[jz1];omega) (by rw[jz2];omega) (by omega);unfold dV;rw[<-pZ (λx=>Value.bool x)];simpa[jz1,Value.cells]using this
 have b5:(List.replicate cs.length false).length=cs.length:=yP;generalize List.replicate cs.length false=I0 at *;have HR:=bB hR b5;clear h hw hatw hR;go_enter Tryz.func23,Tryz.ntmps23;go_upto_region 2 with fail;refine aI (F:=λwA=>Below w.heap.size w wA/\Blk wA w.heap.size #[iv,ov,mv] 26/\Blk wA (w.heap.size+1) (dV I0) 4) ⟨bel w _,(Blk.new _ _ _).alloc _,Blk.new_i _ _ _ _⟩ ?_;rintro wA ⟨hbA,hsA,hiA⟩;have a5:=fun(ww:World) (hb:Below wA.heap.size wA ww)=>a4 ww (hbA.trans (hb.mono hbA.size));have HA:=dR hbA hsA hiA;have iG:=hiA.lt;clear hbA hsA hiA;go_wp2_with fail
 go_loopw[9,18] (λ_ vi wr=>∃(q:Nat) (inn:List Bool),vi=.int .i64 q/\q<=want.length/\inn.length=cs.length/\mL cs.length (want.drop q) inn=mL cs.length want I0/\Below w.heap.size w wr/\Blk wr w.heap.size #[iv,ov,mv] 26/\Blk wr (w.heap.size+1) (dV inn) 4) (λ_ vi _=>(want.length-intOf vi).toNat)
 case atStart=>exact⟨0,I0,rfl,by omega,HR.out.2,by simp,HA.out.1,HA.out.2.1,HA.out.2.2⟩
 obtain⟨q,inn,rfl,hq,hil,hre,hbr,hsr,hir⟩:=hrel;have c0:=hir.lt;by_cases hlt:q<want.length
 .obtain⟨k,hk⟩:∃k,want[q]? =some k:=⟨_,gE hlt⟩
  obtain⟨bw,ow,rfl,iW0,iW,hcw⟩:=HI.out wr hbr q (aK k) (by rw[gM,hk];rfl);have w0:=hcw 0 _ rfl;rw[Nat.mul_one,zN]at w0;rw[aDS _ _ _ hk]at hre;have c4:=hw64 k (mG hk);have fz:∀i,wr.frozen? ⟨w.heap.size+1,i,none⟩=false:=λi=>hir.frozen i;by_cases hk0:0<=k
  .by_cases hk1:k<cs.length
   .rw[zB ⟨hk0,hk1⟩]at hre;obtain⟨m,rfl⟩:∃m:Nat,k=m:=⟨k.toNat,by omega⟩
    rw[zJ]at hre;obtain⟨u,hu⟩:∃u,wr.cell? ⟨w.heap.size+1,m,none⟩=some u:=⟨_,by rw[hir.cell];exact yA (by unfold dV;simp;omega)⟩;have fm:=fz m;have a6:Blk (wr.setCell ⟨w.heap.size+1,m,none⟩ (.bool true)) (w.heap.size+1) (dV (inn.set m true)) 4:=by have:=hir.set_ m (.bool true);rw[rN]at this;exact this
    have a7:=hsr.far (a:=⟨w.heap.size+1,m,none⟩) (by simp) (.bool true);have a8:=hbr.setCell (p:=⟨w.heap.size+1,m,none⟩) (by show w.heap.size<=w.heap.size+1;omega) (.bool true);have HF:=oB hre a8 a7 a6 hil;clear hre hbr hsr hir hcw hk fz a6 a7 a8 hil;go_wp2_with fail;go_roundw
    case rel=>exact⟨q+1,_,by go_num,by omega,by rw[yB];exact HF.out.2.2.2.2,HF.out.1,HF.out.2.1,HF.out.2.2.1,HF.out.2.2.2.1⟩
    simp[intOf];omega
   rw[zA (by omega)]at hre;have HF:=oB hre hbr hsr hir hil;clear hre hbr hsr hir hcw hk fz hil;go_wp2_with fail;go_roundw
   case rel=>exact⟨q+1,_,by go_num,by omega,HF.out.2.2.2.2,HF.out.1,HF.out.2.1,HF.out.2.2.1,HF.out.2.2.2.1⟩
   simp[intOf];omega
  rw[zA (by omega)]at hre;have HF:=oB hre hbr hsr hir hil;clear hre hbr hsr hir hcw hk fz hil;go_wp2_with fail;go_roundw
  case rel=>exact⟨q+1,_,by go_num,by omega,HF.out.2.2.2.2,HF.out.1,HF.out.2.1,HF.out.2.2.1,HF.out.2.2.2.1⟩
  simp[intOf];omega
 have hM : inn = mL cs.length want I0:=by rw[List.drop_eq_nil_of_le (by omega)]at hre;exact hre
 subst hM;have s0:wr.cell? ⟨w.heap.size,0,none⟩=some iv:=hsr.cell 0;have s1:wr.cell? ⟨w.heap.size,1,none⟩=some ov:=hsr.cell 1;have s2:wr.cell? ⟨w.heap.size,2,none⟩=some mv:=hsr.cell 2;have c5:=hsr.lt;have a0:=fun(ww:World) (hb:Below wr.heap.size wr ww)=>a4 ww (hbr.trans (hb.mono hbr.size));have a1:=fun(ww:World) (hb:Below wr.heap.size wr ww)=>a3 ww (hbr.trans (hb.mono hbr.size));generalize mL cs.length want I0=M0 at *;have HB:=dR hbr hir hil;clear hbr hir hil hre hsr a5 a4 a3;rcases hm:dB S with _|_
 .have b3:M0=R:=by
   have:=HR.out.1;rw[hm,zA (by decide)]at this;exact this
  rw[hm]at a0;clear hm a1;go_wp2_with(go_at_call 39;refine aE (a0 _ (bel _ _)) λp=>?_);go_ret;subst b3;exact⟨HB.out.1.trans ((bel wr _).mono HB.out.1.size),_,rfl,by omega,HB.out.2.1.below (bel wr _) c0.lt⟩
 have b3 : qN (dD (mE S cs)) cs.length M0=R:=by have:=HR.out.1;rw[hm,zB rfl]at this;exact this
 rw[hm]at a0;clear hm;go_upto_region 11 with(first|(go_at_call 39;refine aE (a0 _ (bel _ _)) λp=>?_)|(go_at_call 54;refine(a1 _ (bel _ _)).mono ?_;rintro e w3 ⟨hb3,vo,kvs,rfl,hkr⟩;obtain⟨ao,co,rfl,hato⟩:=hkr.at_))
 have c6:=qA cs S;generalize mE S cs=kss at *;have a9:=HB.out.1;have b0:Below wr.heap.size wr w3:=(bel wr _).trans (hb3.mono (bel wr _).size);have c1:Below w.heap.size w w3:=HB.out.1.trans (b0.mono HB.out.1.size);have b6:Blk w3 (w.heap.size+1) (dV M0) 4:=HB.out.2.1.below b0 c0.lt;have c7:=aG b3;have c9:IntKind.i64.wrap ((kss.length:Int)-1)=(kss.length:Int)-1:=I64.wrap (by unfold I64;omega);have d0:kss.length=cs.length:=c6;have c2:CW w cs.length (.slice ao kss.length co) kss kvs M0 w3:=⟨HB.out.2.2,c1,b6,hkr.mono (by have:=a9.size;simp;omega)⟩;have d1:=b6.lt;have c8:=aG c2;clear hato hkr hb3 a1 a0 hcd c1 b6 b3 s0 s1 s2 c5 c2 a9;go_wp2_with fail
 go_loopw[11] (λvl wr=>∃(l:Nat) (inn:List Bool),vl=.int .i64 ((l:Int)-1)/\l<=cs.length/\qN (dD kss) l inn=R/\CW w cs.length (.slice ao kss.length co) kss kvs inn wr) (λvl _=>(intOf vl+1).toNat)
 case atStart=>exact⟨cs.length,M0,rfl,by omega,c7.out,c8.out⟩
 obtain⟨l,inn,rfl,hl,hre,hcw⟩:=hrel
 rename World=>wo
 rcases l with _|m
 .have b7:inn=R:=hre;subst b7;have n0:¬(0:Int)<=((0:Nat):Int)-1:=by omega
  have HC:=aG hcw;clear hcw hre;go_wp2_with fail;go_ret;exact⟨HC.out.below.trans ((bel wo _).mono HC.out.below.size),_,rfl,by omega,HC.out.blk.below (bel wo _) HC.out.blk.lt.lt⟩
 have b1 : qN (dD kss) m (lS (dD kss) m m 0 inn)=R:=hre;have e1:((m+1:Nat):Int)-1=m:=by omega
 rw[e1];have b8:=aG b1;have HC:=aG hcw;clear hcw hre b1;go_wp2_with fail
 go_loopw[49] (λvk wr=>∃(k:Nat) (inn':List Bool),vk=.int .i64 k/\k<=m/\lS (dD kss) m (m-k) k inn'=lS (dD kss) m m 0 inn/\CW w cs.length (.slice ao kss.length co) kss kvs inn' wr) (λvk _=>(m-intOf vk).toNat)
 case atStart=>exact⟨0,inn,rfl,by omega,rfl,HC.out.later (bel wo _)⟩
 obtain⟨k,inn',rfl,hk,hst,hcw⟩:=hrel;have HX:=aG hcw;have d2:=hcw.blk.lt;by_cases hkm:k<m
 .obtain ⟨x,hx⟩:∃x,inn'[k]? =some x:=⟨_,gE (by have:=hcw.len;omega)⟩
  obtain⟨y,hy⟩:∃y,inn'[m]? =some y:=⟨_,gE (by have:=hcw.len;omega)⟩;obtain⟨kx,hkx⟩:∃kx,kss[k]? =some kx:=⟨_,gE (by omega)⟩;obtain⟨ky,hky⟩:∃ky,kss[m]? =some ky:=⟨_,gE (by omega)⟩;have hT:dD kss k m=fX kx ky:=by unfold dD;rw[hkx,hky]
  rw[show m-k=(m-(k+1))+1 by omega]at hst;have a2:lS (dD kss) m (m-(k+1)) (k+1) (inn'.set k (x||(y&&fX kx ky)))=lS (dD kss) m m 0 inn:=by rw[<-hst];show _=lS (dD kss) m (m-(k+1)) (k+1) (aLU (dD kss) m k inn');unfold aLU;rw[hT,zG,zG,hx,hy];rfl
  have x0:wr.cell? ⟨w.heap.size+1,k,none⟩=some (.bool x):=(hcw.blk.cell k).trans (rM hx);have y0:wr.cell? ⟨w.heap.size+1,m,none⟩=some (.bool y):=(hcw.blk.cell m).trans (rM hy);have fk:=hcw.blk.frozen k;obtain⟨ao',co',he,hato⟩:=hcw.keys.at_;simp only[zO]at he;obtain⟨rfl,-,rfl⟩:=he;obtain⟨bo,oo,kvy,rfl,iO,oy,hry⟩:=hato wr (Below.refl _ _) m ky hky;obtain⟨bo2,oo2,kvx,heo,-,ox,hrx⟩:=hato wr (Below.refl _ _) k kx hkx;simp only[zF,yG,and_true]at heo;obtain⟨rfl,rfl⟩:=heo;have b2:=fun(ww:World) (hb:Below wr.heap.size wr ww)=>qC kx ky kvx kvy ww (hrx.below hb (zC _)) (hry.below hb (zC _));have g1:(k:Int)<cs.length:=by omega
  have g2:(m:Int)<cs.length:=by omega
  have g3:(k:Int)<kss.length:=by omega
  have g4:(m:Int)<kss.length:=by omega
  obtain⟨ax,nx,cx,rfl⟩:∃a n c,kvx=.slice a n c:=by obtain⟨a,c,h,-⟩:=hrx;exact⟨a,_,c,h⟩
  obtain⟨ay,ny,cy,rfl⟩:∃a n c,kvy=.slice a n c:=by obtain⟨a,c,h,-⟩:=hry;exact⟨a,_,c,h⟩
  generalize fX kx ky=t at *;have b4:=aG a2;clear hst a2 hcw hx hy hkx hky hT hato hrx hry;rcases x with _|_;rotate_left
  .go_upto_region 17 with fail
   refine aC [20,24] true (λw'=>w'.cell? ⟨w.heap.size+1,k,none⟩=some (.bool true)/\w'.cell? ⟨w.heap.size+1,m,none⟩=some (.bool y)/\w'.cell? ⟨bo,oo+k,none⟩=some (.slice ax nx cx)/\w'.cell? ⟨bo,oo+m,none⟩=some (.slice ay ny cy)) (by kernel_rfl) (by kernel_rfl) ?_ ?_
   · (try dsimp only);(repeat' apply And.intro)<;>go_simp
   repeat
    first
     | (refine aH rfl rfl ?_
        apply Exists.intro;refine⟨?_,?_⟩
        focus
         rintro w' ⟨s0,s1,s2,s3⟩;go_simp
         first|done|rfl
        simp only[Act.put,sA,sZ,sS])
     | (refine kO rfl ?_
        simp only[Act.put,sA,sZ,sS])
   refine aU rfl rfl ?_;apply Exists.intro;apply And.intro
   focus
    go_simp
    first|done|rfl
   apply And.intro
   focus
    exact .inr ⟨rfl,rfl⟩
   refine aQ ?_;simp only[Act.put];have HF:=aG (HX.out.store (bel wr wr.drew) hkm true (by omega));change Exit.inBlock _ _ .normal _ (wr.drew.setCell ⟨w.heap.size+1,k,none⟩ (.bool true));generalize wr.drew.setCell ⟨w.heap.size+1,k,none⟩ (.bool true)=wF at HF |-;go_wp2_with fail;go_roundw
   case rel=>exact⟨k+1,_,by go_num,by omega,by have:=b4.out;simpa using this,HF.out.later (bel wF _)⟩
   simp[intOf];omega
  rcases y with _|_
  .go_upto_region 17 with fail
   refine aC [20,24] true (λw'=>w'.cell? ⟨w.heap.size+1,k,none⟩=some (.bool false)/\w'.cell? ⟨w.heap.size+1,m,none⟩=some (.bool false)/\w'.cell? ⟨bo,oo+k,none⟩=some (.slice ax nx cx)/\w'.cell? ⟨bo,oo+m,none⟩=some (.slice ay ny cy)) (by kernel_rfl) (by kernel_rfl) ?_ ?_
   · (try dsimp only);(repeat' apply And.intro)<;>go_simp
   repeat
    first
     | (refine aH rfl rfl ?_
        apply Exists.intro;refine⟨?_,?_⟩
        focus
         rintro w' ⟨s0,s1,s2,s3⟩;go_simp
         first|done|rfl
        simp only[Act.put,sA,sZ,sS])
     | (refine kO rfl ?_
        simp only[Act.put,sA,sZ,sS])
   refine aU rfl rfl ?_;apply Exists.intro;apply And.intro
   focus
    go_simp
    first|done|rfl
   apply And.intro
   focus
    exact .inr ⟨rfl,rfl⟩
   refine aQ ?_;simp only[Act.put];have HF:=aG (HX.out.store (bel wr wr.drew) hkm false (by omega));change Exit.inBlock _ _ .normal _ (wr.drew.setCell ⟨w.heap.size+1,k,none⟩ (.bool false));generalize wr.drew.setCell ⟨w.heap.size+1,k,none⟩ (.bool false)=wF at HF |-;go_wp2_with fail;go_roundw
   case rel=>exact⟨k+1,_,by go_num,by omega,by have:=b4.out;simpa using this,HF.out.later (bel wF _)⟩
   simp[intOf];omega
  rcases t with _|_
  .go_upto_region 17 with fail
   refine aC [20,24] true (λw'=>w'.cell? ⟨w.heap.size+1,k,none⟩=some (.bool false)/\w'.cell? ⟨w.heap.size+1,m,none⟩=some (.bool true)/\w'.cell? ⟨bo,oo+k,none⟩=some (.slice ax nx cx)/\w'.cell? ⟨bo,oo+m,none⟩=some (.slice ay ny cy)) (by kernel_rfl) (by kernel_rfl) ?_ ?_
   · (try dsimp only);(repeat' apply And.intro)<;>go_simp
   repeat
    first
     | (refine aH rfl rfl ?_
        apply Exists.intro;refine⟨?_,?_⟩
        focus
         rintro w' ⟨s0,s1,s2,s3⟩;go_simp
         first|done|rfl
        simp only[Act.put,sA,sZ,sS])
     | (refine kO rfl ?_
        simp only[Act.put,sA,sZ,sS])
   refine aZ rfl rfl ?_;refine aS 17 #[.slice ax nx cx,.slice ay ny cy] ?_ ((b2 wr.drew (bel wr _)).mono ?_)
   .go_simp
    first|done|rfl
   rintro e w4 ⟨rfl,hb4⟩;obtain⟨p4,rfl⟩:=hb4.rest;refine⟨_,rfl,.inl ?_,?_⟩
   · (try dsimp only);(repeat' apply And.intro)<;>go_simp
   simp only[Act.put,sA,sZ,sS]
   repeat
    first
     | (refine aH rfl rfl ?_
        apply Exists.intro;refine⟨?_,?_⟩
        focus
         rintro w' ⟨s0,s1,s2,s3⟩;go_simp
         first|done|rfl
        simp only[Act.put,sA,sZ,sS])
     | (refine kO rfl ?_
        simp only[Act.put,sA,sZ,sS])
   refine aU rfl rfl ?_;apply Exists.intro;apply And.intro
   focus
    go_simp
    first|done|rfl
   apply And.intro
   focus
    exact .inr ⟨rfl,rfl⟩
   refine aQ ?_;simp only[Act.put];have HF:=aG ((HX.out.store (Below.refl _ _) hkm false (by omega)).later (bel (wr.setCell ⟨w.heap.size+1,k,none⟩ (.bool false)) ((wr.setCell ⟨w.heap.size+1,k,none⟩ (.bool false)).drew.junk p4)));change Exit.inBlock _ _ .normal _ ((wr.setCell ⟨w.heap.size+1,k,none⟩ (.bool false)).drew.junk p4);generalize(wr.setCell ⟨w.heap.size+1,k,none⟩ (.bool false)).drew.junk p4=wF at HF |-;go_wp2_with fail;go_roundw
   case rel=>exact⟨k+1,_,by go_num,by omega,by have:=b4.out;simpa using this,HF.out.later (bel wF _)⟩
   simp[intOf];omega
  go_upto_region 17 with fail;refine aC [20,24] true (λw'=>w'.cell? ⟨w.heap.size+1,k,none⟩=some (.bool false)/\w'.cell? ⟨w.heap.size+1,m,none⟩=some (.bool true)/\w'.cell? ⟨bo,oo+k,none⟩=some (.slice ax nx cx)/\w'.cell? ⟨bo,oo+m,none⟩=some (.slice ay ny cy)) (by kernel_rfl) (by kernel_rfl) ?_ ?_
  · (try dsimp only);(repeat' apply And.intro)<;>go_simp
  repeat
   first
    | (refine aH rfl rfl ?_
       apply Exists.intro;refine⟨?_,?_⟩
       focus
        rintro w' ⟨s0,s1,s2,s3⟩;go_simp
        first|done|rfl
       simp only[Act.put,sA,sZ,sS])
    | (refine kO rfl ?_
       simp only[Act.put,sA,sZ,sS])
  refine aZ rfl rfl ?_;refine aS 17 #[.slice ax nx cx,.slice ay ny cy] ?_ ((b2 wr.drew (bel wr _)).mono ?_)
  .go_simp
   first|done|rfl
  rintro e w4 ⟨rfl,hb4⟩;obtain⟨p4,rfl⟩:=hb4.rest;refine⟨_,rfl,.inl ?_,?_⟩
  · (try dsimp only);(repeat' apply And.intro)<;>go_simp
  simp only[Act.put,sA,sZ,sS]
  repeat
   first
    | (refine aH rfl rfl ?_
       apply Exists.intro;refine⟨?_,?_⟩
       focus
        rintro w' ⟨s0,s1,s2,s3⟩;go_simp
        first|done|rfl
       simp only[Act.put,sA,sZ,sS])
    | (refine kO rfl ?_
       simp only[Act.put,sA,sZ,sS])
  refine aU rfl rfl ?_;apply Exists.intro;apply And.intro
  focus
   go_simp
   first|done|rfl
  apply And.intro
  focus
   exact .inr ⟨rfl,rfl⟩
  refine aQ ?_;simp only[Act.put];have HF:=aG ((HX.out.store (Below.refl _ _) hkm true (by omega)).later (bel (wr.setCell ⟨w.heap.size+1,k,none⟩ (.bool true)) ((wr.setCell ⟨w.heap.size+1,k,none⟩ (.bool true)).drew.junk p4)));change Exit.inBlock _ _ .normal _ ((wr.setCell ⟨w.heap.size+1,k,none⟩ (.bool true)).drew.junk p4);generalize(wr.setCell ⟨w.heap.size+1,k,none⟩ (.bool true)).drew.junk p4=wF at HF |-;go_wp2_with fail;go_roundw
  case rel=>exact⟨k+1,_,by go_num,by omega,by have:=b4.out;simpa using this,HF.out.later (bel wF _)⟩
  simp[intOf];omega
 have b9:k=m:=by omega
 subst b9;have a2:inn'=lS (dD kss) k k 0 inn:=by rw[Nat.sub_self]at hst;exact hst
 have HS:=aG a2;have d3:IntKind.i64.wrap ((k:Int)-1)=(k:Int)-1:=I64.wrap (by unfold I64;omega);clear hst a2 hcw;go_wp2_with fail;go_roundw
 case rel=>exact⟨k,inn',rfl,by omega,by rw[HS.out];exact b8.out,HX.out.later (bel wr _)⟩
 first|(simp [intOf];done)|(simp [intOf];omega)
end Go.Proofs.YtmkapobnfigedaaGreatDoor
