/- Part of the proof of a law of chapter 15. Conditions: none. -/
import Derived.Test.YtmkapobnfigedaaGreatDoorDl21
import Derived.Test.YtmkapobnfigedaaGreatDoorDl22
set_option linter.unusedVariables false
set_option linter.unusedSimpArgs false
set_option maxRecDepth 100000
set_option maxHeartbeats 8000000
namespace Go.Proofs.YtmkapobnfigedaaGreatDoor
open Go.RowKit
section
variable {B k:Nat} {S:PSt} {e:TypeId} {mv ov v:Value} {rows:List (List Value)} {w w':World}
theorem OwnP.below (h:OwnP B w e k v rows) (hb:Below w.heap.size w w'):OwnP B w' e k v rows:=h.keep (Keep.of_below hb (λ_=>False)) (λ_ _ h=>h)
theorem Grew.on {v':Value} {rows':List (List Value)} (h:Grew B e k w v rows v' w') (ho:OwnP B w e k v rows') (hB:B<=w.heap.size):Below B w w':=h.2.1.below hB (λi hi hg=>by have:=ho.ge hg;omega)
theorem OwnP.formL (h:OwnP B w e k v rows):∃a c,v=.slice a rows.length c:=by
 rcases h with⟨rfl,rfl⟩|⟨g,cap,arr,rfl,_⟩
 .exact⟨_,_,rfl⟩
 exact⟨_,_,rfl⟩
theorem StOwn.ins_form {iv:Value} (h:StOwn B w iv ov mv S) (h0:0<S.ins.length):∃bi cap,iv=.slice (some ⟨bi,0,none⟩) S.ins.length cap:=by
 obtain⟨_,_,is,h3,h4,_⟩:=h;rcases h3 with⟨_,h1⟩|⟨g,cap,arr,rfl,_⟩
 .rw[List.map_eq_nil_iff]at h1;rw[h1]at h4;simp at h4;omega
 exact⟨g,cap,by rw[lM,h4]⟩
theorem StOwn.ins_thaw {w1:World} {bi cap K:Nat} (h:StOwn B w (.slice (some ⟨bi,0,none⟩) S.ins.length cap) ov mv S) (hK:K<S.ins.length) (hb:Below w.heap.size w w1):w1.frozen? ⟨bi,K*4+2,none⟩=false:=by
 obtain⟨_,_,is,h3,h4,_⟩:=h;have h3:=h3.below hb;rcases h3 with⟨h1,_⟩|⟨g,cap,arr,he,_,hbk,_⟩
 .cases h1
 simp only[zO,zF,yG]at he;obtain⟨⟨rfl,-,-⟩,-,-⟩:=he;exact hbk.frozen _
theorem aHN (B b:Nat) (S:PSt) (iv ov mv:Value) (dir num:Int) (name:ByteArray) (K:Nat) (x:PIn) (w:World) (hb:Blk w b #[iv,ov,mv] 26) (ho:StOwn B w iv ov mv S) (hB:B<=w.heap.size) (hwf:S.wf) (hns:name.size<=1000000000) (hat:bH S dir=K) (hx:S.ins[K]? =some x):
 Calls Tryz.prog 122 #[.pointer (some ⟨b,0,none⟩),.int .i64 dir,.string name,.int .i64 num] w λe w'=>e=.returned (.tuple #[])/\Below B w w'/\Keep (rA w) w w'/\StOwn B w' iv ov mv (S.ents K x (cS (λe=>dL name e.name) ⟨name,num⟩ x.ents false [])):=by
 obtain⟨hKl,-⟩:=gI.1 hx;obtain⟨bi,cap,rfl⟩:=ho.ins_form (by omega);have a7:vB w 85 #[.agg #[.slice (some ⟨bi,0,none⟩) S.ins.length cap,ov,mv],.int .i64 dir] (.int .i64 (K:Int)):=λww hb=>by have:=vH S _ ov mv dir ww (ho.read.below hb (zC _)) hwf.1;rw[hat]at this;exact this
 obtain⟨a,cap',e1,hai⟩:=ho.read.ins_at2;cases e1;obtain⟨bi',oi,ev,he,iI0,hoi,her,hci⟩:=hai K x hx;cases he;obtain⟨iI,-,-,x2,-⟩:=hci w (Below.refl _ _);rw[zM]at x2;have b4:=aG x2;have b5:=(hwf.2.2.2.1 x (mG hx)).2.1;obtain⟨ae,ce,rfl,hae⟩:=her.at_;rw[lM]at x2;obtain⟨iL,s0,s1,s2⟩:=lV hb;have a8:=ho.1.one;have a4:=ho.2.1.one;obtain⟨ao,co,rfl⟩:=ho.1.formL;obtain⟨am,cm,rfl⟩:=ho.2.1.formL;simp only[lM]at a7 s1 s2;have b8:(K:Int)<S.ins.length:=by omega
 have H:=dR ho hx hb;obtain⟨xn,xd,xe,xs⟩:=x;simp only at x2 hae b5 |-;obtain⟨R,hR⟩:∃R,cS (λe=>dL name e.name) ⟨name,num⟩ xe false []=R:=⟨_,rfl⟩;rw[hR];have HR:=aG hR;have HA:=aG hae;have b2:∀w2,Below w.heap.size w w2->BlockLt bi w2/\w2.cell? ⟨bi,K*4+2,none⟩=some (.slice ae xe.length ce):=by intro w2 h2;obtain⟨i2,-,-,y2,-⟩:=hci w2 h2;rw[zM,lM]at y2;exact⟨i2,y2⟩
 have a9:=aG b2;clear b2;clear ho hx hb her hai hoi hci hR hae a8 a4 hat;go_enter Tryz.func122,Tryz.ntmps122;go_upto_region 0 with fail;refine qR ?_
 repeat(go_big_quiet_step ((with_reducible first|refine cI (a7 _ (bel _ _))|refine cJ (a7 _ (bel _ _)))))
 refine QN λp=>?_;go_wp2_with fail
 go_loopw[9,10,11] (λv9 v10 i wr=>∃(q:Nat) (d:Bool) (zs:List PEnt),i=.int .i64 q/\v10=.bool d/\q<=xe.length/\zs.length<=2*q/\OwnP w.heap.size wr 97 2 v9 (zs.map PEnt.cells)/\cS (λe=>dL name e.name) ⟨name,num⟩ (xe.drop q) d zs=R/\Below w.heap.size w wr) (λ_ _ i _=>(xe.length-intOf i).toNat)
 case atStart=>exact⟨0,false,[],rfl,rfl,by omega,by simp,.inl ⟨rfl,rfl⟩,HR.out,bel _ _⟩
 obtain⟨q,d,zs,rfl,rfl,hq,hzl,hO,hre,hbw⟩:=hrel;have iB:Bel w wr:=⟨hbw⟩;obtain⟨iI2,y2⟩:=a9.out wr hbw;obtain⟨va,vc,rfl⟩:=hO.formL;generalize hzn:(zs.map PEnt.cells).length=zn at hO |-;have HO:=bB hO hzn;clear hO hzn;by_cases hlt:q<xe.length
 .obtain⟨z,hz⟩:∃z,xe[q]? =some z:=⟨_,gE hlt⟩
  rw[rD _ _ _ q z d zs hz]at hre;obtain⟨be,oe,rfl,iE0,iE,hce⟩:=HA.out wr hbw q z.cells (by rw[gM,hz];rfl);have c0:=hce 0 _ rfl;have c1:=hce 1 _ rfl;rw[zN]at c0;have b0:(q:Int)<xe.length:=by omega
  have b3:∀w2,Below w.heap.size w w2->BlockLt be w2/\w2.cell? ⟨be,oe+q*2,none⟩=some (.string z.name)/\w2.cell? ⟨be,oe+q*2+1,none⟩=some (.int .i64 z.num):=by intro w2 h2;obtain⟨be',oe',he,_,i2,hc⟩:=HA.out w2 h2 q z.cells (by rw[gM,hz];rfl);cases he;exact⟨i2,hc 0 _ rfl,hc 1 _ rfl⟩
  have b6:=aG b3;clear hce hz b3;rcases d with _|_
  .rw[zA (by decide)]at hre;have b1:∀ww,vR ww 81 #[.string name,.string z.name] (.bool (dL name z.name)):=λww=>aHR name z.name (by omega) ww
   generalize dL name z.name=t at hre b1;rcases t with _|_
   .rw[zA (by decide)]at hre;have a3:=aG hre;clear hre;go_wp2_with(first|(go_at_call 81;with_reducible refine aE (b1 _) λp=>?_)|(at_builtin;refine uB rfl (.tmp 51) (.tmp 59) rfl w.heap.size _ _ zs [z] rfl (by go_simp) (HO.out.1.below (bel wr _)) (RowAt.single (Blk.new_i _ _ _ _) 2 1) (by simp;omega) (bel w _).size ?_))
    intro v' w' hg;have a2:=hg.on (HO.out.1.below (bel wr _)) (bel w _).size;have a0:=(bel w _).trans a2;have a1:OwnP w.heap.size w' 97 2 v' ((zs++[z]).map PEnt.cells):=by have:=hg.1;simpa using this
    have H2:=bB a1 a0;clear hg a2 a1 a0;go_wp2_with fail;go_roundw
    case rel=>exact⟨q+1,false,_,by go_num,rfl,by omega,by simp;omega,H2.out.1,a3.out,H2.out.2⟩
    simp[intOf];omega
   rw[zB rfl]at hre;have a3:=aG hre;clear hre;go_wp2_with(first|(go_at_call 81;with_reducible refine aE (b1 _) λp=>?_)|(at_builtin;refine uB rfl (.tmp 45) (.tmp 49) rfl w.heap.size _ _ zs [⟨name,num⟩] rfl (by go_simp) (HO.out.1.below (bel wr _)) (RowAt.single (Blk.new_i _ _ _ _) 2 1) (by simp;omega) (bel w _).size ?_));intro v' w' hg;have a2:=hg.on (HO.out.1.below (bel wr _)) (bel w _).size;have a0:=(bel w _).trans a2;have a1:OwnP w.heap.size w' 97 2 v' ((zs++[(⟨name,num⟩:PEnt)]).map PEnt.cells):=by have:=hg.1;simpa using this
   have i2:Bel w w':=⟨a0⟩;have H2:=aG a1;obtain⟨iE2,d0,d1⟩:=b6.out w' a0;obtain⟨iI3,z2⟩:=a9.out w' a0;clear hg a2 a1 a0 c0 c1 iE y2 iI2;go_wp2_with(at_builtin;refine uB rfl (.tmp 51) (.tmp 59) rfl w.heap.size _ _ (zs++[(⟨name,num⟩:PEnt)]) [z] rfl (by go_simp) (H2.out.below (bel w' _)) (RowAt.single (Blk.new_i _ _ _ _) 2 1) (by simp;omega) (bel w _).size ?_);intro v' w'' hg;have a2:=hg.on (H2.out.below (bel w' _)) (bel w _).size;have a0:=(bel w _).trans a2;have a1:OwnP w.heap.size w'' 97 2 v' ((zs++[(⟨name,num⟩:PEnt)]++[z]).map PEnt.cells):=by have:=hg.1;simpa using this
   have H3:=bB a1 a0;clear hg a2 a1 a0;go_wp2_with fail;go_roundw
   case rel=>exact⟨q+1,true,_,by go_num,rfl,by omega,by simp;omega,H3.out.1,a3.out,H3.out.2⟩
   simp[intOf];omega
  rw[zB rfl]at hre;have a3:=aG hre;clear hre;go_wp2_with(at_builtin;refine uB rfl (.tmp 51) (.tmp 59) rfl w.heap.size _ _ zs [z] rfl (by go_simp) (HO.out.1.below (bel wr _)) (RowAt.single (Blk.new_i _ _ _ _) 2 1) (by simp;omega) (bel w _).size ?_);intro v' w' hg;have a2:=hg.on (HO.out.1.below (bel wr _)) (bel w _).size;have a0:=(bel w _).trans a2;have a1:OwnP w.heap.size w' 97 2 v' ((zs++[z]).map PEnt.cells):=by have:=hg.1;simpa using this
  have H2:=bB a1 a0;clear hg a2 a1 a0;go_wp2_with fail;go_roundw
  case rel=>exact⟨q+1,true,_,by go_num,rfl,by omega,by simp;omega,H2.out.1,a3.out,H2.out.2⟩
  simp[intOf];omega
 rw[uE _ _ _ q d zs hlt]at hre;have b0:¬(q:Int)<xe.length:=by omega
 have a5:∀(w1:World) (v:Value),OwnP w.heap.size w1 97 2 v (R.map PEnt.cells)->Below w.heap.size w w1->Below B w (w1.setCell ⟨bi,K*4+2,none⟩ v)/\Keep (rA w) w (w1.setCell ⟨bi,K*4+2,none⟩ v)/\StOwn B (w1.setCell ⟨bi,K*4+2,none⟩ v) (.slice (some ⟨bi,0,none⟩) S.ins.length cap) (.slice ao (S.op.map PDesc.cells).length co) (.slice am (S.made.map aK).length cm) (S.ents K ⟨xn,xd,xe,xs⟩ R):=by intro w1 v h1 h2;obtain⟨ho,hx,hb⟩:=H.out;obtain⟨r1,r2,r3⟩:=ho.setEnts hx b4.out (h1.mono hB) (Keep.of_below h2 _) (λk hk=>.inr (h1.ge hk)) hB;exact⟨r2,r3,r1⟩
 have a6:=aG a5;clear a5;rcases d with _|_
 .rw[zA (by decide)]at hre;have a3:=aG hre;clear hre;go_wp2_with(at_builtin;refine uB rfl (.tmp 63) (.tmp 67) rfl w.heap.size _ _ zs [⟨name,num⟩] rfl (by go_simp) (HO.out.1.below (bel wr _)) (RowAt.single (Blk.new_i _ _ _ _) 2 1) (by simp;omega) (bel w _).size ?_)
  intro v' w' hg;have a2:=hg.on (HO.out.1.below (bel wr _)) (bel w _).size;have a0:=(bel w _).trans a2;have i2:Bel w w':=⟨a0⟩;obtain⟨iI3,z2⟩:=a9.out w' a0;have a1:OwnP w.heap.size w' 97 2 v' ((zs++[(⟨name,num⟩:PEnt)]).map PEnt.cells):=by have:=hg.1;simpa using this
  rw[a3.out]at a1;have hf:=a6.out w' v' a1 a0;obtain⟨va2,vc2,rfl⟩:=a1.formL;generalize(R.map PEnt.cells).length=zn2 at hf |-;have HF:=aG hf;have b7:=H.out.1.ins_thaw hKl a0;clear hg a2 a1 a0 hf;go_wp2_with fail;exact xC (v:=.tuple #[]) (by simp[results,go_sem]) rfl ⟨rfl,by have:=HF.out;first|exact this|(simp only[lM]at this;exact this)⟩
 rw[zB rfl]at hre;subst hre;have hf:=a6.out wr _ HO.out.1 hbw;have HF:=aG hf;have b7:=H.out.1.ins_thaw hKl hbw;clear hf;go_wp2_with fail;exact xC (v:=.tuple #[]) (by simp[results,go_sem]) rfl ⟨rfl,by have:=HF.out;first|exact this|(simp only[lM]at this;exact this)⟩
end
def p1 (c:UInt8):ByteArray:=⟨#[47,c]⟩
def n1 (c:UInt8):ByteArray:=⟨#[c]⟩
theorem aFK (b:Int) (but:ByteArray) (es:List PEnt) (q:Nat) (e:PEnt) (a:Int) (h:es[q]? =some e):dO b but (es.drop q) a=dO b but (es.drop (q+1)) (if (!(e.name.toList==but.toList)&&aV e.name==b)=true then a+1 else a):=by obtain⟨hl,rfl⟩:=gI.1 h;rw[yH hl,dO]
theorem aKG (b:Int) (but:ByteArray) (es:List PEnt) (q:Nat) (a:Int) (h:¬q<es.length):dO b but (es.drop q) a=a:=by rw[zS (by omega),dO]
theorem rE (S:PSt) (iv ov mv:Value) (dir:Int) (name but:ByteArray) (K:Nat) (x:PIn) (w:World) (h:StRead w iv ov mv S) (hwf:S.wf) (hat:bH S dir=K) (hx:S.ins[K]? =some x) (hns:name.size<=1000000000) (hes:∀e∈x.ents,e.name.size<=1000000000):
 vR w 121 #[.agg #[iv,ov,mv],.int .i64 dir,.string name,.string but] (.bool (decide (4<=dO (aV name) but x.ents 0))):=by
 have a8:=sE h hwf.1 hat;obtain⟨ai,ni,ci,ao,no,co,am,nm',cm,rfl,rfl,rfl⟩:=h.slices;obtain⟨a,cap',e1,hai⟩:=h.ins_at2;cases e1;obtain⟨bi,oi,ev,rfl,iI0,hoi,her,hci⟩:=hai K x hx;have a4:=aG hci;obtain⟨hxl,-⟩:=gI.1 hx;have b2:(K:Int)<S.ins.length:=by omega
 have b3:=(hwf.2.2.2.1 x (mG hx)).2.1;obtain⟨ae,ce,rfl,hae⟩:=her.at_;rw[lM]at a4;have HA:=aG hae;obtain⟨R,hR⟩:∃R,dO (aV name) but x.ents 0=R:=⟨_,rfl⟩;rw[hR];have HR:=aG hR;have a9:=aG hes;obtain⟨xn,xd,xe,xs⟩:=x;simp only at a4 HA HR a9 b3;obtain⟨iI,x0,x1,x2,x3⟩:=a4.out w (Below.refl _ _);clear h hai her hoi hci hx hwf hae hR hes;go_enter Tryz.func121,Tryz.ntmps121;go_upto_region 2 with fail;go_cut [10] (λv10 wx=>∃g,v10=.pointer (some ⟨g,0,none⟩)/\Below w.heap.size w wx/\Blk wx g #[.int .i64 xn,.bool xd,.slice ae xe.length ce,.string xs] 68)
 case first=>
  go_region_held3 (λw'=>w'.cell? ⟨w.heap.size,0,none⟩=some (.slice (some ⟨bi,oi,none⟩) S.ins.length ci)/\w'.cell? ⟨w.heap.size,1,none⟩=some (.slice ao no co)/\w'.cell? ⟨w.heap.size,2,none⟩=some (.slice am nm' cm)/\w'.cell? ⟨bi,oi+K*4,none⟩=some (.int .i64 xn)/\w'.cell? ⟨bi,oi+K*4+1,none⟩=some (.bool xd)/\w'.cell? ⟨bi,oi+K*4+2,none⟩=some (.slice ae xe.length ce)/\w'.cell? ⟨bi,oi+K*4+3,none⟩=some (.string xs))
   (first|(try dsimp only)<;>(repeat' apply And.intro)<;>go_simp)
   (first|(go_at_call 85;refine aE (a8 _ (bel _ _)) λp=>?_))
  all_goals go_wp2_with fail
  all_goals go_meet
  all_goals(refine ⟨_,rfl,bel _ _,?_⟩)
  all_goals(repeat (first|exact Blk.new_i _ _ _ _|refine Blk.alloc ?_ _|refine Blk.junk ?_ _|refine Blk.drew ?_))
 obtain⟨g,rfl,hbc,hG⟩:=hcut;have HG:=bB hG hbc;clear x0 x1 x2 x3 iI hG hbc a8;go_wp2_with fail
 go_loopw[9,11] (λv9 i wr=>∃(q:Nat) (a:Int),i=.int .i64 q/\v9=.int .i64 a/\q<=xe.length/\0<=a/\a<=q/\dO (aV name) but (xe.drop q) a=R/\Below w.heap.size w wr/\Blk wr g #[.int .i64 xn,.bool xd,.slice ae xe.length ce,.string xs] 68) (λ_ i _=>(xe.length-intOf i).toNat)
 case atStart=>exact⟨0,0,rfl,rfl,by omega,by omega,by omega,HR.out,HG.out.2,HG.out.1⟩
 obtain⟨q,a,rfl,rfl,hq,ha0,haq,a0,hb,hG⟩:=hrel;have iB:Bel w wr:=⟨hb⟩;have iG:=hG.lt;have g2:=hG.cell 2;simp at g2;have a5:=aG hG;clear hG;by_cases hlt:q<xe.length
 .obtain⟨z,hz⟩:∃z,xe[q]? =some z:=⟨_,gE hlt⟩
  rw[aFK _ _ _ q z a hz]at a0;obtain⟨be,oe,rfl,iE0,iE,hce⟩:=HA.out wr hb q z.cells (by rw[gM,hz];rfl);have c0:=hce 0 _ rfl;rw[zN]at c0;have a6:(q:Int)<xe.length:=by omega
  have b0:=a9.out z (mG hz);have a3:∀ww,vR ww 87 #[.string z.name] (.int .i64 (aV z.name)):=λww=>uK z.name b0 ww;have a1:∀ww,vR ww 87 #[.string name] (.int .i64 (aV name)):=λww=>uK name hns ww;generalize hzn:z.name=zn at *;generalize hb1:(zn.toList==but.toList)=b1 at a0;generalize aV zn=k1 at a0 a3;generalize aV name=k2 at a0 a1;have w1:IntKind.i64.wrap (a+1)=a+1:=I64.wrap ⟨by omega,by omega⟩;clear hce hz b0;rcases b1 with _|_
  .by_cases hk:k1=k2
   .have a7:(k1==k2)=true:=by simpa using hk
    rw[a7]at a0;have a0:dO k2 but (xe.drop (q+1)) (a+1)=R:=a0;have a2:=aG a0;clear a0 hk;go_wp2_with(first|(go_at_call 87;with_reducible refine aE (a3 _) λp=>?_)|(go_at_call 87;with_reducible refine aE (a1 _) λp=>?_));go_roundw
    case rel=>exact⟨q+1,a+1,by go_num,by go_num,by omega,by omega,by omega,a2.out,bel _ _,(Keep.of_below (bel wr _) (λ_=>False)).blk a5.out (λh=>h)⟩
    simp[intOf];omega
   have a7:(k1==k2)=false:=by simpa using hk
   rw[a7]at a0;have a0:dO k2 but (xe.drop (q+1)) a=R:=a0;have a2:=aG a0;clear a0;go_wp2_with(first|(go_at_call 87;with_reducible refine aE (a3 _) λp=>?_)|(go_at_call 87;with_reducible refine aE (a1 _) λp=>?_));go_roundw
   case rel=>exact⟨q+1,a,by go_num,rfl,by omega,by omega,by omega,a2.out,bel _ _,(Keep.of_below (bel wr _) (λ_=>False)).blk a5.out (λh=>h)⟩
   simp[intOf];omega
  have a0:dO k2 but (xe.drop (q+1)) a=R:=a0;have a2:=aG a0;clear a0;go_wp2_with(first|(go_at_call 87;with_reducible refine aE (a3 _) λp=>?_)|(go_at_call 87;with_reducible refine aE (a1 _) λp=>?_));go_roundw
  case rel=>exact⟨q+1,a,by go_num,rfl,by omega,by omega,by omega,a2.out,bel _ _,(Keep.of_below (bel wr _) (λ_=>False)).blk a5.out (λh=>h)⟩
  simp[intOf];omega
 rw[aKG _ _ _ q a hlt]at a0;subst a0;have a6:¬(q:Int)<xe.length:=by omega
 go_wp2_with fail;go_ret;exact⟨rfl,bel _ _⟩
section
def aR (code fd num:Int):Value:=.agg #[.int .i64 code,.int .i64 fd,.int .i64 num,.bool false,.string { data:=#[]},.slice none 0 0]
theorem aFL (k:Int) (w:World):vR w 92 #[.int .i64 k] (aR k 0 0):=by go_enter Tryz.func92,Tryz.ntmps92;go_wp2_with fail;exact xB (v:=aR k 0 0) (by simp[results,Tryz.results92,go_sem,aR]) rfl ⟨rfl,bel _ _⟩
variable {B:Nat} {S:PSt} {iv mv ov:Value} {w:World}
theorem StOwn.on {w1:World} (h:StOwn B w iv ov mv S) (hb:Below w.heap.size w w1):StOwn B w1 iv ov mv S:=h.keep (Keep.of_below hb (λ_=>False)) (λ_ h=>h.elim)
theorem StOwn.setOp {ov':Value} {zs:List PDesc} (h:StOwn B w iv ov mv S) (ho:OwnP B w 95 3 ov' (zs.map PDesc.cells)):StOwn B w iv ov' mv { S with op:=zs}:=⟨ho,h.2⟩
def eS (core fd:Int) (o:PDesc):Bool:=decide (core<o.core)||((o.core==core)&&decide (fd<o.fd))
theorem aQN (B b:Nat) (S:PSt) (iv ov mv:Value) (core fd num:Int) (w:World) (hb:Blk w b #[iv,ov,mv] 26) (ho:StOwn B w iv ov mv S) (hB:B<=w.heap.size) (hBb:B<=b) (hol:S.op.length<=1000000000):
 Calls Tryz.prog 123 #[.pointer (some ⟨b,0,none⟩),.int .i64 core,.int .i64 fd,.int .i64 num] w λe w'=>e=.returned (.tuple #[])/\Below B w w'/\Keep (λg=>g=b) w w'/\∃ov',Blk w' b #[iv,ov',mv] 26/\StOwn B w' iv ov' mv { S with op:=cS (eS core fd) ⟨core,fd,num⟩ S.op false []}:=by
 have b3:=ho.2.1.one;obtain⟨ai,ni,ci,ao,no,co,am,nm',cm,rfl,rfl,rfl⟩:=ho.read.slices;obtain⟨a,cap',e1,hat⟩:=ho.read.1.at_;rw[lM]at e1;cases e1;have HA:=aG hat;obtain⟨R,hR⟩:∃R,cS (eS core fd) ⟨core,fd,num⟩ S.op false []=R:=⟨_,rfl⟩;rw[hR];have HR:=aG hR;have b6:∀w2,Below w.heap.size w w2->BlockLt b w2/\w2.cell? ⟨b,1,none⟩=some (.slice ao S.op.length co)/\w2.frozen? ⟨b,1,none⟩=false:=by intro w2 h2;have h3:=(Keep.of_below h2 (λ_=>False)).blk hb (λh=>h);have c1:=h3.cell 1;simp at c1;exact⟨h3.lt,c1,h3.frozen 1⟩
 have b7:=aG b6;have HH:=bB hb ho;clear hat hR b6 ho hb b3;go_enter Tryz.func123,Tryz.ntmps123;go_wp2_with fail
 go_loopw[9,10,11] (λv9 v10 i wr=>∃(q:Nat) (d:Bool) (zs:List PDesc),i=.int .i64 q/\v10=.bool d/\q<=S.op.length/\zs.length<=2*q/\OwnP (w.heap.size+1) wr 95 3 v9 (zs.map PDesc.cells)/\cS (eS core fd) ⟨core,fd,num⟩ (S.op.drop q) d zs=R/\Below w.heap.size w wr/\Blk wr w.heap.size #[.int .i64 core,.int .i64 fd,.int .i64 num] 95) (λ_ _ i _=>(S.op.length-intOf i).toNat)
 case atStart=>exact⟨0,false,[],rfl,rfl,by omega,by simp,.inl ⟨rfl,rfl⟩,HR.out,bel _ _,Blk.new w _ 95⟩
 obtain⟨q,d,zs,rfl,rfl,hq,hzl,hO,hre,hbw,hd8⟩:=hrel;have iB:Bel w wr:=⟨hbw⟩;have iD:=hd8.lt;have a4:w.heap.size+1<=wr.heap.size:=iD.lt;obtain⟨iL,y1,yf⟩:=b7.out wr hbw;obtain⟨-,e0,e1,e2⟩:=lV hd8;obtain⟨va,vc,rfl⟩:=hO.formL;generalize hzn:(zs.map PDesc.cells).length=zn at hO |-;have HO:=dR hO hzn hd8;clear hO hzn hd8;by_cases hlt:q<S.op.length
 .obtain ⟨z,hz⟩:∃z,S.op[q]? =some z:=⟨_,gE hlt⟩
  rw[rD _ _ _ q z d zs hz]at hre;obtain⟨be,oe,rfl,iE0,iE,hce⟩:=HA.out wr hbw q z.cells (by rw[gM,hz];rfl);have c0:=hce 0 _ rfl;have c1:=hce 1 _ rfl;have c2:=hce 2 _ rfl;rw[zN]at c0;have b4:(q:Int)<S.op.length:=by omega
  clear hce hz;obtain⟨zc,zf,zm⟩:=z;simp only at c0 c1 c2;rcases d with _|_
  .rw [zA (by decide)]at hre;by_cases hA:core<zc
   .have ha:eS core fd ⟨zc,zf,zm⟩=true:=by simp[eS,hA]
    rw[ha,zB rfl]at hre;have a5:=aG hre;have c3:∀w2,Below w.heap.size w w2->BlockLt be w2:=by intro w2 h2;exact⟨zR iE0.lt h2.size⟩
    clear hre;go_wp2_with(at_builtin;refine nA rfl (.tmp 53) (.tmp 55) rfl (w.heap.size+1) _ _ zs [⟨core,fd,num⟩] rfl (by go_simp) (HO.out.1.below (bel wr _)) (RowAt.single (Blk.new_i _ _ _ _) 3 1) (by simp;omega) (zD a4 (bel wr _).size) ?_);intro v' w' hg;have a0:=hg.on (HO.out.1.below (bel wr _)) (zD a4 (bel wr _).size);have a2:=(bel w _).trans (a0.mono (Nat.le_succ _));have a1:OwnP (w.heap.size+1) w' 95 3 v' ((zs++[(⟨core,fd,num⟩:PDesc)]).map PDesc.cells):=by have:=hg.1;simpa using this
    have a3:=hg.2.1.blk ((Keep.of_below (bel wr _) (λ_=>False)).blk HO.out.2.2 (λh=>h)) (λh=>by have:=HO.out.1.ge h;omega);have a6:=hg.2.1.blk (Blk.alloc (Blk.new_i wr #[.int .i64 zc,.int .i64 zf,.int .i64 zm] 95 wr.heap.size) _) (λh=>by have:=HO.out.1.lt h;omega);have i2:Bel w w':=⟨a2⟩;have b5:=a3.lt;obtain⟨iZ2,f0,f1,f2⟩:=lV a6;have a7:w.heap.size+1<=w'.heap.size:=b5.lt;have H2:=bB a1 a3;clear hg a0 a1 a3 a6 c0 c1 c2 iE e0 e1 e2 iD y1 yf iL;go_wp2_with(at_builtin;refine nA rfl (.tmp 57) (.tmp 59) rfl (w.heap.size+1) _ _ (zs++[(⟨core,fd,num⟩:PDesc)]) [⟨zc,zf,zm⟩] rfl (by go_simp) (H2.out.1.below (bel w' _)) (RowAt.single (Blk.new_i _ _ _ _) 3 1) (by simp;omega) (zD a7 (bel w' _).size) ?_);intro v2 w2 hg;have a0:=hg.on (H2.out.1.below (bel w' _)) (zD a7 (bel w' _).size);have a8:=(bel w _).trans (a0.mono (Nat.le_succ _));have a9:OwnP (w.heap.size+1) w2 95 3 v2 ((zs++[(⟨core,fd,num⟩:PDesc)]++[(⟨zc,zf,zm⟩:PDesc)]).map PDesc.cells):=by have:=hg.1;simpa using this
    have b0:=hg.2.1.blk ((Keep.of_below (bel w' _) (λ_=>False)).blk H2.out.2 (λh=>h)) (λh=>by have:=H2.out.1.ge h;omega);have H3:=dR a9 a8 b0;clear hg a0 a9 a8 b0;go_wp2_with fail;go_roundw
    case rel=>exact⟨q+1,true,_,by go_num,rfl,by omega,by simp;omega,H3.out.1,a5.out,H3.out.2.1,H3.out.2.2⟩
    simp[intOf];omega
   by_cases hC:zc=core
   .subst hC;by_cases hF:fd<zf
    .have ha:eS zc fd ⟨zc,zf,zm⟩=true:=by simp[eS,hF]
     rw[ha,zB rfl]at hre;have a5:=aG hre;have c3:∀w2,Below w.heap.size w w2->BlockLt be w2:=by intro w2 h2;exact⟨zR iE0.lt h2.size⟩
     clear hre;go_wp2_with(at_builtin;refine nA rfl (.tmp 53) (.tmp 55) rfl (w.heap.size+1) _ _ zs [⟨zc,fd,num⟩] rfl (by go_simp) (HO.out.1.below (bel wr _)) (RowAt.single (Blk.new_i _ _ _ _) 3 1) (by simp;omega) (zD a4 (bel wr _).size) ?_);intro v' w' hg;have a0:=hg.on (HO.out.1.below (bel wr _)) (zD a4 (bel wr _).size);have a2:=(bel w _).trans (a0.mono (Nat.le_succ _));have a1:OwnP (w.heap.size+1) w' 95 3 v' ((zs++[(⟨zc,fd,num⟩:PDesc)]).map PDesc.cells):=by have:=hg.1;simpa using this
     have a3:=hg.2.1.blk ((Keep.of_below (bel wr _) (λ_=>False)).blk HO.out.2.2 (λh=>h)) (λh=>by have:=HO.out.1.ge h;omega);have a6:=hg.2.1.blk (Blk.alloc (Blk.new_i wr #[.int .i64 zc,.int .i64 zf,.int .i64 zm] 95 wr.heap.size) _) (λh=>by have:=HO.out.1.lt h;omega);have i2:Bel w w':=⟨a2⟩;have b5:=a3.lt;obtain⟨iZ2,f0,f1,f2⟩:=lV a6;have a7:w.heap.size+1<=w'.heap.size:=b5.lt;have H2:=bB a1 a3;clear hg a0 a1 a3 a6 c0 c1 c2 iE e0 e1 e2 iD y1 yf iL;go_wp2_with(at_builtin;refine nA rfl (.tmp 57) (.tmp 59) rfl (w.heap.size+1) _ _ (zs++[(⟨zc,fd,num⟩:PDesc)]) [⟨zc,zf,zm⟩] rfl (by go_simp) (H2.out.1.below (bel w' _)) (RowAt.single (Blk.new_i _ _ _ _) 3 1) (by simp;omega) (zD a7 (bel w' _).size) ?_);intro v2 w2 hg;have a0:=hg.on (H2.out.1.below (bel w' _)) (zD a7 (bel w' _).size);have a8:=(bel w _).trans (a0.mono (Nat.le_succ _));have a9:OwnP (w.heap.size+1) w2 95 3 v2 ((zs++[(⟨zc,fd,num⟩:PDesc)]++[(⟨zc,zf,zm⟩:PDesc)]).map PDesc.cells):=by have:=hg.1;simpa using this
     have b0:=hg.2.1.blk ((Keep.of_below (bel w' _) (λ_=>False)).blk H2.out.2 (λh=>h)) (λh=>by have:=H2.out.1.ge h;omega);have H3:=dR a9 a8 b0;clear hg a0 a9 a8 b0;go_wp2_with fail;go_roundw
     case rel=>exact⟨q+1,true,_,by go_num,rfl,by omega,by simp;omega,H3.out.1,a5.out,H3.out.2.1,H3.out.2.2⟩
     simp[intOf];omega
    have ha:eS zc fd ⟨zc,zf,zm⟩=false:=by simp[eS,hF]
    rw[ha,zA (by decide)]at hre;have a5:=aG hre;clear hre;go_wp2_with(at_builtin;refine nA rfl (.tmp 57) (.tmp 59) rfl (w.heap.size+1) _ _ zs [⟨zc,zf,zm⟩] rfl (by go_simp) (HO.out.1.below (bel wr _)) (RowAt.single (Blk.new_i _ _ _ _) 3 1) (by simp;omega) (zD a4 (bel wr _).size) ?_);intro v' w' hg;have a0:=hg.on (HO.out.1.below (bel wr _)) (zD a4 (bel wr _).size);have a2:=(bel w _).trans (a0.mono (Nat.le_succ _));have a1:OwnP (w.heap.size+1) w' 95 3 v' ((zs++[(⟨zc,zf,zm⟩:PDesc)]).map PDesc.cells):=by have:=hg.1;simpa using this
    have a3:=hg.2.1.blk ((Keep.of_below (bel wr _) (λ_=>False)).blk HO.out.2.2 (λh=>h)) (λh=>by have:=HO.out.1.ge h;omega);have H2:=dR a1 a2 a3;clear hg a0 a1 a2 a3;go_wp2_with fail;go_roundw
    case rel=>exact⟨q+1,false,_,by go_num,rfl,by omega,by simp;omega,H2.out.1,a5.out,H2.out.2.1,H2.out.2.2⟩
    simp[intOf];omega
   have c4:(zc==core)=false:=by simpa using hC
   have ha:eS core fd ⟨zc,zf,zm⟩=false:=by simp[eS,hA,hC]
   rw[ha,zA (by decide)]at hre;have a5:=aG hre;clear hre;go_wp2_with(at_builtin;refine nA rfl (.tmp 57) (.tmp 59) rfl (w.heap.size+1) _ _ zs [⟨zc,zf,zm⟩] rfl (by go_simp) (HO.out.1.below (bel wr _)) (RowAt.single (Blk.new_i _ _ _ _) 3 1) (by simp;omega) (zD a4 (bel wr _).size) ?_);intro v' w' hg;have a0:=hg.on (HO.out.1.below (bel wr _)) (zD a4 (bel wr _).size);have a2:=(bel w _).trans (a0.mono (Nat.le_succ _));have a1:OwnP (w.heap.size+1) w' 95 3 v' ((zs++[(⟨zc,zf,zm⟩:PDesc)]).map PDesc.cells):=by have:=hg.1;simpa using this
   have a3:=hg.2.1.blk ((Keep.of_below (bel wr _) (λ_=>False)).blk HO.out.2.2 (λh=>h)) (λh=>by have:=HO.out.1.ge h;omega);have H2:=dR a1 a2 a3;clear hg a0 a1 a2 a3;go_wp2_with fail;go_roundw
   case rel=>exact⟨q+1,false,_,by go_num,rfl,by omega,by simp;omega,H2.out.1,a5.out,H2.out.2.1,H2.out.2.2⟩
   simp[intOf];omega
  rw[zB rfl]at hre;have a5:=aG hre;clear hre;go_wp2_with(at_builtin;refine nA rfl (.tmp 57) (.tmp 59) rfl (w.heap.size+1) _ _ zs [⟨zc,zf,zm⟩] rfl (by go_simp) (HO.out.1.below (bel wr _)) (RowAt.single (Blk.new_i _ _ _ _) 3 1) (by simp;omega) (zD a4 (bel wr _).size) ?_);intro v' w' hg;have a0:=hg.on (HO.out.1.below (bel wr _)) (zD a4 (bel wr _).size);have a2:=(bel w _).trans (a0.mono (Nat.le_succ _));have a1:OwnP (w.heap.size+1) w' 95 3 v' ((zs++[(⟨zc,zf,zm⟩:PDesc)]).map PDesc.cells):=by have:=hg.1;simpa using this
  have a3:=hg.2.1.blk ((Keep.of_below (bel wr _) (λ_=>False)).blk HO.out.2.2 (λh=>h)) (λh=>by have:=HO.out.1.ge h;omega);have H2:=dR a1 a2 a3;clear hg a0 a1 a2 a3;go_wp2_with fail;go_roundw
  case rel=>exact⟨q+1,true,_,by go_num,rfl,by omega,by simp;omega,H2.out.1,a5.out,H2.out.2.1,H2.out.2.2⟩
  simp[intOf];omega
 rw[uE _ _ _ q d zs hlt]at hre;have b4:¬(q:Int)<S.op.length:=by omega
 have b1:∀(w1:World) (v:Value),OwnP (w.heap.size+1) w1 95 3 v (R.map PDesc.cells)->Below w.heap.size w w1->Below B w (w1.setCell ⟨b,1,none⟩ v)/\Keep (λg=>g=b) w (w1.setCell ⟨b,1,none⟩ v)/\∃ov',Blk (w1.setCell ⟨b,1,none⟩ v) b #[.slice ai ni ci,ov',.slice am nm' cm] 26/\StOwn B (w1.setCell ⟨b,1,none⟩ v) (.slice ai ni ci) ov' (.slice am nm' cm) { S with op:=R}:=by intro w1 v h1 h2;obtain⟨hb,ho⟩:=HH.out;have b8:=(Keep.of_below h2 (λ_=>False)).blk hb (λh=>h);have hK:Keep (λg=>g=b) w1 (w1.setCell ⟨b,1,none⟩ v):=Keep.setCell (S:=λg=>g=b) (p:=⟨b,1,none⟩) (Keep.refl _ _) (.inl rfl) _;have b9:Keep (λg=>g=b) w (w1.setCell ⟨b,1,none⟩ v):=(Keep.of_below h2 (λg=>g=b)).trans hK (λ_ _ h=>h);refine⟨b9.below hB (λi hi h=>by omega),b9,v,b8.set_ 1 v,?_⟩;have h3:=(ho.on h2).setOp (h1.mono (by omega));exact h3.keep hK (λg hg=>by rw[hg];exact⟨_,26,b8,by decide,by decide,by decide,by decide⟩)
 have b2:=aG b1;clear b1;rcases d with _|_
 .rw[zA (by decide)]at hre;have a5:=aG hre;clear hre;go_wp2_with(at_builtin;refine nA rfl (.tmp 63) (.tmp 65) rfl (w.heap.size+1) _ _ zs [⟨core,fd,num⟩] rfl (by go_simp) (HO.out.1.below (bel wr _)) (RowAt.single (Blk.new_i _ _ _ _) 3 1) (by simp;omega) (zD a4 (bel wr _).size) ?_)
  intro v' w' hg;have a0:=hg.on (HO.out.1.below (bel wr _)) (zD a4 (bel wr _).size);have a2:=(bel w _).trans (a0.mono (Nat.le_succ _));have i2:Bel w w':=⟨a2⟩;obtain⟨iL2,z1,zf1⟩:=b7.out w' a2;have a1:OwnP (w.heap.size+1) w' 95 3 v' ((zs++[(⟨core,fd,num⟩:PDesc)]).map PDesc.cells):=by have:=hg.1;simpa using this
  rw[a5.out]at a1;have hf:=b2.out w' v' a1 a2;obtain⟨va2,vc2,rfl⟩:=a1.formL;generalize(R.map PDesc.cells).length=zn2 at hf |-;have HF:=aG hf;clear hg a0 a1 a2 hf y1 yf iL e0 e1 e2 iD;go_wp2_with fail;exact xC (v:=.tuple #[]) (by simp[results,go_sem]) rfl ⟨rfl,HF.out⟩
 rw[zB rfl]at hre;subst hre;have hf:=b2.out wr _ HO.out.1 hbw;have HF:=aG hf;clear hf;go_wp2_with fail;exact xC (v:=.tuple #[]) (by simp[results,go_sem]) rfl ⟨rfl,HF.out⟩
end
end Go.Proofs.YtmkapobnfigedaaGreatDoor
