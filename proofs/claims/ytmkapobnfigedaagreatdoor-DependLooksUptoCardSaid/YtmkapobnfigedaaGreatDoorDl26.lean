/- Part of the proof of a law of chapter 15. Conditions: none. -/
import Derived.Test.YtmkapobnfigedaaGreatDoorDl24
set_option linter.unusedVariables false
set_option linter.unusedSimpArgs false
set_option maxRecDepth 100000
set_option maxHeartbeats 8000000
namespace Go.Proofs.YtmkapobnfigedaaGreatDoor
open Go.RowKit
section
variable {B K b bi cap d:Nat} {S:PSt} {c:PCall} {mv nv ov:Value} {r:PRes} {w:World} {x:PIn}
theorem DPart.setData (h:DPart B w d b bi cap ov mv nv S c r) (hx:S.ins[K]? =some x) (z:ByteArray):
 DPart B (w.setCell ⟨bi,K*4+3,none⟩ (.string z)) d b bi cap ov mv nv { S with ins:=S.ins.set K { x with data:=z}} c r:=by
 obtain⟨h1,h2,cc,h3⟩:=h.st.setData hx z;have hK:Keep (λk=>k=bi) w (w.setCell ⟨bi,K*4+3,none⟩ (.string z)):=Keep.setCell (S:=λk=>k=bi) (p:=⟨bi,K*4+3,none⟩) (Keep.refl _ _) (.inl rfl) _;refine⟨h.hBb,h.hBd,hK.blk h.hD (h.hD.ne_ h3 (by decide)),?_,?_,h.nm.keep hK (λg hg e=>h.nm.ne_blk h3 (by decide) hg e)⟩
 .show Blk _ b #[.slice (some ⟨bi,0,none⟩) (S.ins.set K { x with data:=z}).length cap,ov,mv] 26;rw[yB];exact hK.blk h.hb (h.hb.ne_ h3 (by decide))
 show StOwn B _ (.slice (some ⟨bi,0,none⟩) (S.ins.set K { x with data:=z}).length cap) ov mv _;rw[yB];exact h1
theorem DPart.ge_bi (h:DPart B w d b bi cap ov mv nv S c r) (hx:S.ins[K]? =some x):B<=bi/\∃cc,Blk w bi cc 68:=by obtain⟨h1,h2,h3⟩:=h.st.setData hx x.data;exact⟨h2,h3⟩
def aDR (S:PSt) (c:PCall) (r:PRes):Except Int (PSt × PRes):=match dQ S c with
 |none=>.error 4
 |some y=>.ok ({ S with ins:=S.ins.set y.1 { y.2 with data:=vA y.2.data c.off.toNat c.data}},{ r with num:=c.data.size})
theorem aBF (B d b:Nat) (S:PSt) (c:PCall) (r:PRes) (w:World) (h:DoAt B w d b S c r) (hB:B<=w.heap.size) (hf:Fine S) (hk:c.kind=5) (hoff0:0<=c.off) (hsum:c.off+c.data.size<=256) (a3:∀x∈S.ins,x.data.size<=1000000):
 Calls Tryz.prog 146 #[.pointer (some ⟨d,0,none⟩)] w (bA B w d b c (aDR S c r)):=by
 obtain⟨bi,cap,ov,mv,nv,hP⟩:=h.part hf.pos;have ht:=hP.file hf;have iD:=hP.hD.lt;unfold oD at ht;unfold aDR;generalize hX:dQ S c=X at ht |-;rcases X with _|⟨K,x⟩
 .simp only at ht |-
  go_enter Tryz.func146,Tryz.ntmps146;go_wp2_with(go_at_call 143;refine ht.mono ?_;rintro e w1 ⟨hb1,rfl⟩);exact⟨rfl,hb1.mono hB,rfl⟩
 simp only at ht |-;obtain⟨hx,hKl⟩:=hY hX;have b1:=a3 x (mG hx);generalize cG (eD c) S.op=I at ht;have HP:=aG hP;have a0:=λww=>pG c.off ww;have a2:=λww=>pG (c.data.size:Int) ww;rw[show qF c.off=true by unfold qF;simp;omega]at a0;rw[show qF (c.data.size:Int)=true by unfold qF;simp;omega]at a2;obtain⟨o,ho⟩:∃o:Nat,c.off=o:=⟨c.off.toNat,by omega⟩;have a5:=λww=>aRL x.data c.data o ww (by omega) (by omega) (by omega);have eo:c.off.toNat=o:=by omega
 rw[eo];rw[ho]at a0 hsum;generalize vA x.data o c.data=z at a5 |-;have HO:=aG ho;clear h hP hX a3 eo ho hoff0;have a3:(c.data.size:Int)<=256:=by omega
 have b2:decide ((256:Int)<(o:Int)+c.data.size)=false:=yM (by omega);have b3:IntKind.i64.wrap ((o:Int)+c.data.size)=(o:Int)+c.data.size:=I64.wrap ⟨by omega,by omega⟩;have a7:(o:Int)+c.data.size<=256:=by omega
 go_enter Tryz.func146,Tryz.ntmps146;go_upto_region 1 with(go_at_call 143;refine ht.mono ?_;rintro e w1 ⟨hb1,rfl⟩;have HB:=aG hb1;clear hb1)
 refine aI (F:=λwA=>DPart B wA d b bi cap ov mv nv S c r/\Below w.heap.size w wA) ⟨HP.out.below HB.out,HB.out⟩ ?_;clear ht iD HP HB;rintro wA ⟨hA,hbA⟩;have iD:=hA.hD.lt;have a1:wA.cell? ⟨d,1,none⟩=some (.int .i64 c.kind):=hA.hD.cell 1;have a4:wA.cell? ⟨d,4,none⟩=some (.int .i64 c.off):=hA.hD.cell 4;have a8:wA.cell? ⟨d,8,none⟩=some (.string c.data):=hA.hD.cell 8;have b4:wA.cell? ⟨d,11,none⟩=some (.int .i64 r.num):=hA.hD.cell 11;have b5:=hA.hD.frozen 11;rw[hk]at a1;rw[HO.out]at a4;obtain⟨iI,x0,x1,x3⟩:=hA.dat hx;obtain⟨hge,cc,hcc⟩:=hA.ge_bi hx;have f3:=hcc.frozen (K*4+3);have a9:¬bi=d:=hcc.ne_ hA.hD (by decide);have b0:¬d=bi:=λe=>a9 e.symm;have HA:=kL hA hbA hx hge;clear hA hbA hx hge hcc;go_upto_region 8 with(first|(go_at_call 183;with_reducible refine aE (a0 _) λp=>?_)|(go_at_call 183;with_reducible refine aE (a2 _) λp=>?_)|(go_at_call 172;refine aE (aD _ _) λp=>?_))
 refine qR ?_
 repeat(go_big_quiet_step (((with_reducible first|refine cI (aD _ _)|refine cJ (aD _ _)))))
 refine QN λp=>?_;go_upto_region 9 with fail;refine aC [15,18] true (λw'=>w'.cell? ⟨d,4,none⟩=some (.int .i64 o)/\w'.cell? ⟨d,8,none⟩=some (.string c.data)/\w'.cell? ⟨bi,K*4+3,none⟩=some (.string x.data)) (by kernel_rfl) (by kernel_rfl) ?_ ?_
 · (try dsimp only);(repeat' apply And.intro)<;>go_simp
 repeat
  refine aH rfl rfl ?_;apply Exists.intro;refine⟨?_,?_⟩
  focus
   rintro w' ⟨s0,s1,s2⟩;go_simp
   first|done|rfl
  simp only[Act.put,sA,sZ,sS]
 refine aZ rfl rfl ?_;refine aS 185 #[.string x.data,.int .i64 o,.string c.data] ?hr ?_
 case hr=>
  go_simp
  first|done|rfl
 refine aE (a5 _) λq1=>?_;refine⟨_,rfl,.inl ?_,?_⟩
 · (try dsimp only);(repeat' apply And.intro)<;>go_simp
 simp only[Act.put,sA,sZ,sS]
 repeat
  refine aH rfl rfl ?_;apply Exists.intro;refine⟨?_,?_⟩
  focus
   rintro w' ⟨s0,s1,s2⟩;go_simp
   first|done|rfl
  simp only[Act.put,sA,sZ,sS]
 refine aU rfl rfl ?_;apply Exists.intro;refine⟨?_,.inr ⟨rfl,rfl⟩,?_⟩
 focus
  go_simp;rfl
 simp only[Act.put,sA,sZ,sS];refine aQ ?_;clear a4 x0 x1 x3;go_wp2_with fail;have a6:Below B w ((wA.setCell ⟨bi,K*4+3,none⟩ (.string z)).setCell ⟨d,11,none⟩ (.int .i64 c.data.size)):=((HA.out.2.1.mono hB).setCell (p:=⟨bi,K*4+3,none⟩) HA.out.2.2.2 _).setCell (p:=⟨d,11,none⟩) HA.out.1.hBd _;exact xC (v:=.tuple #[]) (by simp[results,go_sem]) rfl ⟨a6.trans ((bel _ _).mono (zD hB a6.size)),rfl,(((HA.out.1.setData HA.out.2.2.1 z).res (t:=11) (r':={ r with num:=c.data.size}) rfl rfl).below (bel _ _)).at_⟩
end
end Go.Proofs.YtmkapobnfigedaaGreatDoor
