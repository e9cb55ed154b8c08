/- Part of the proof of a law of chapter 15. Conditions: none. -/
import Derived.Test.YtmkapobnfigedaaGreatDoorDl24
set_option linter.unusedVariables false
set_option linter.unusedSimpArgs false
set_option maxRecDepth 100000
set_option maxHeartbeats 8000000
namespace Go.Proofs.YtmkapobnfigedaaGreatDoor
open Go.RowKit
section
theorem OwnP.blk_of {B:Nat} {w:World} {e:TypeId} {k:Nat} {v:Value} {rows:List (List Value)} (h:OwnP B w e k v rows) {g:Nat} (hg:v.ownBlock=some g):∃cc,Blk w g cc e:=by
 rcases h with⟨h0,_⟩|⟨g',cap',cur,h0,_,hb',_⟩
 .rw[h0]at hg;cases hg
 rw[h0]at hg;simp only[Value.ownBlock,zF]at hg;subst hg;exact⟨_,hb'⟩
section
variable {B:Nat} {w w':World} {d b bi cap:Nat} {ov mv nv:Value} {S:PSt} {c:PCall} {r:PRes}
theorem DPart.ents {K:Nat} {x:PIn} (h:DPart B w d b bi cap ov mv nv S c r) (hx:S.ins[K]? =some x):∃ev,w.cell? ⟨bi,K*4+2,none⟩=some ev/\OwnP B w 97 2 ev (x.ents.map PEnt.cells):=by obtain⟨_,_,is,h3,h4,h5,_⟩:=h.st;obtain⟨hl,_⟩:=gI.1 hx;obtain⟨rr,hrr⟩:∃rr,is[K]? =some rr:=⟨_,gE (by omega)⟩;obtain⟨a1,a2,a3,a4⟩:=h5 K rr x hrr hx;refine⟨rr.ev,?_,a4⟩;obtain⟨a,c',he,hat⟩:=h3.row.at_;obtain⟨g,off,he2,_,_,hc⟩:=hat w (Below.refl _ _) K rr.cells (by rw[gM,hrr];rfl);subst he2;simp only[zO,zF,yG]at he;obtain⟨⟨rfl,rfl,-⟩,-,-⟩:=he;have:=hc 2 _ rfl;simpa using this
theorem DPart.named {s:ByteArray} {v':Value} (h:DPart B w d b bi cap ov mv nv S c r) (hg:Grew B 9 1 w nv ((r.names++[s]).map bP) v' w'):DPart B (w'.setCell ⟨d,14,none⟩ v') d b bi cap ov mv v' S c { r with names:=r.names++[s]}:=by
 obtain⟨ho,hk,hat⟩:=hg;have a1:∀{g:Nat} {cc:Array Value} {t:TypeId},Blk w g cc t->t≠9->¬nv.ownBlock=some g:=λhb ht hg=>h.nm.ne_blk hb (λe=>ht e.symm) hg rfl;have hD:=hk.blk h.hD (a1 h.hD (by decide));have hb:=hk.blk h.hb (a1 h.hb (by decide));have a2:=h.st.keep hk (λg hg=>by
  obtain⟨cc,hcc⟩:=h.nm.blk_of hg;exact⟨_,9,hcc,by decide,by decide,by decide,by decide⟩)
 have a0:Keep (λk=>k=d) w' (w'.setCell ⟨d,14,none⟩ v'):=Keep.setCell (S:=λk=>k=d) (p:=⟨d,14,none⟩) (Keep.refl _ _) (.inl rfl) _;refine⟨h.hBb,h.hBd,?_,a0.blk hb (hb.ne_ hD (by decide)),a2.keep a0 (λg hg=>by rw[hg];exact⟨_,136,hD,by decide,by decide,by decide,by decide⟩),ho.keep a0 (λg hg=>ho.ne_blk hD (by decide) hg)⟩;exact hD.set_ 14 v'
theorem DPart.named_ents {rows:List (List Value)} {ev:Value} {s:ByteArray} {v':Value} (h:DPart B w d b bi cap ov mv nv S c r) (hg:Grew B 9 1 w nv ((r.names++[s]).map bP) v' w') (he:OwnP B w 97 2 ev rows):OwnP B (w'.setCell ⟨d,14,none⟩ v') 97 2 ev rows:=by
 obtain⟨ho,hk,hat⟩:=hg;have h1:OwnP B w' 97 2 ev rows:=he.keep hk (λg hg hh=>by
  obtain⟨cc,hcc⟩:=h.nm.blk_of hh;exact he.ne_blk hcc (by decide) hg rfl)
 have hD:=hk.blk h.hD (λhh=>by
  obtain⟨cc,hcc⟩:=h.nm.blk_of hh;exact h.hD.ne_ hcc (by decide) rfl)
 have a0:Keep (λk=>k=d) w' (w'.setCell ⟨d,14,none⟩ v'):=Keep.setCell (S:=λk=>k=d) (p:=⟨d,14,none⟩) (Keep.refl _ _) (.inl rfl) _;exact h1.keep a0 (λg hg=>h1.ne_blk hD (by decide) hg)
end
theorem aAL {α:Type} {l:List α} {q:Nat} {x:α} (h:l[q]? =some x):l.take (q+1)=l.take q++[x]:=by rw[List.take_add_one,h];rfl
def wJ (S:PSt) (c:PCall) (r:PRes):Except Int (PSt × PRes):=
 if(aL S 0 (aA c.path).2).2≠0 then .error (aL S 0 (aA c.path).2).2 else
 match S.ins[(aL S 0 (aA c.path).2).1]? with
 |none=>.ok (S,r)
 |some x=>if x.dir=true then .ok (S,{ r with names:=r.names++x.ents.map PEnt.name})else .error 7
theorem aJJ (B d b:Nat) (S:PSt) (c:PCall) (r:PRes) (w:World) (h:DoAt B w d b S c r) (hB:B<=w.heap.size) (hf:Fine S) (hk:c.kind=12) (hrn:r.names.length<=1000000000) (hp:(aA c.path).1=0) (hpl:(aA c.path).2.length<=1000000000):
 Calls Tryz.prog 150 #[.pointer (some ⟨d,0,none⟩)] w (bA B w d b c (wJ S c r)):=by
 obtain⟨i9x,hi9,h90,h91,h92⟩:=info_parts aNN;obtain⟨bi,cap,ov,mv,nv,hP⟩:=h.part hf.pos;have ht:=hP.path hf c.path hp hpl;have a1:=eT hf (aA c.path).2 0 hf.pos;have iD:=hP.hD.lt;have d1:w.cell? ⟨d,1,none⟩=some (.int .i64 c.kind):=hP.hD.cell 1;have d6:w.cell? ⟨d,6,none⟩=some (.string c.path):=hP.hD.cell 6;rw[hk]at d1;have HP:=aG hP;obtain⟨RR,hRR⟩:∃RR,wJ S c r=RR:=⟨_,rfl⟩;rw[hRR];unfold wJ at hRR;generalize aL S 0 (aA c.path).2=W at ht a1 hRR;obtain⟨K,C⟩:=W;simp only at a1 hRR;clear h hP hp hpl;by_cases hC:C=0
 .subst hC;rw[zA (by simp)]at hRR;obtain⟨x,hx⟩:∃x,S.ins[K]? =some x:=⟨_,gE a1⟩
  rw[hx]at hRR;simp only at hRR;have b6:x.ents.length<=1000000000:=(hf.wf.2.2.2.1 x (mG hx)).2.1;have a2:=aG hRR;clear hRR;go_enter Tryz.func150,Tryz.ntmps150;go_upto_region 1 with(go_at_call 178;refine ht.mono ?_;rintro e w1 ⟨hb1,ho⟩;obtain rfl:=ho.ok;have HB:=aG hb1;clear hb1 ho)
  refine aI (F:=λwA=>DPart B wA d b bi cap ov mv nv S c r/\Below w.heap.size w wA) ⟨HP.out.below HB.out,HB.out⟩ ?_;clear ht iD HP HB d6 d1;rintro wA ⟨hA,hbA⟩;have iD:=hA.hD.lt;have d1:wA.cell? ⟨d,1,none⟩=some (.int .i64 c.kind):=hA.hD.cell 1;rw[hk]at d1;obtain⟨iI,x0,x1,x3⟩:=hA.dat hx;obtain⟨ev,x2,hev⟩:=hA.ents hx;obtain⟨xn,xd,xe,xdat⟩:=x;simp only at x0 x1 x2 hev b6;have HX:=dR hA hbA hev;have a2:=aG (show (if xd=true then Except.ok (S,{ r with names:=r.names++xe.map PEnt.name})else Except.error 7:Except Int (PSt × PRes))=RR from a2.out);rcases xd with _|_
  .obtain rfl:RR=.error 7:=by rw[<-a2.out];rfl
   clear hA hbA hev hx x2 x3;go_wp2_with(go_at_call 172;refine aE (aO _ _) λp=>?_);exact⟨rfl,(HX.out.2.1.trans ((bel wA _).mono HX.out.2.1.size)).mono hB,rfl⟩
  obtain rfl:RR=.ok (S,{ r with names:=r.names++xe.map PEnt.name}):=by rw[<-a2.out];rfl
  obtain⟨ae,ce,rfl,-⟩:=hev.row.at_;rw[lM]at x2;have HX:=aG (show DPart B wA d b bi cap ov mv nv S c r/\Below w.heap.size w wA/\OwnP B wA 97 2 (.slice ae xe.length ce) (xe.map PEnt.cells) by have h:=HX.out;rw[lM]at h;exact h);clear hA hbA hev hx x3 a2;go_wp2_with(go_at_call 172;refine aE (aD _ _) λp=>?_)
  go_loopw[50] (λv50 wr=>∃(q:Nat) (nv':Value),v50=.int .i64 q/\q<=xe.length/\DPart B wr d b bi cap ov mv nv' S c { r with names:=r.names++(xe.take q).map PEnt.name}/\OwnP B wr 97 2 (.slice ae xe.length ce) (xe.map PEnt.cells)/\Below B w wr) (λv50 _=>(xe.length-intOf v50).toNat)
  case atStart=>exact⟨0,nv,rfl,by omega,by simpa using HX.out.1.below (bel wA (wA.junk p)),HX.out.2.2.keep (Keep.of_below (bel wA (wA.junk p)) (λ_=>False)) (λ_ _ h=>h),(HX.out.2.1.trans ((bel wA (wA.junk p)).mono HX.out.2.1.size)).mono hB⟩
  obtain⟨q,nv',rfl,hq,hP,hev,hb⟩:=hrel;have b1:=hP.hD.lt;by_cases a1:q<xe.length
  .obtain⟨e,he⟩:∃e,xe[q]? =some e:=⟨_,gE a1⟩
   obtain⟨a',c',e',hat⟩:=hev.row.at_;simp only[zO]at e';obtain⟨rfl,-,rfl⟩:=e';obtain⟨bo,off,rfl,iG0,iG,hc⟩:=hat wr (Below.refl _ _) q e.cells (by rw[gM,he];rfl);have y0:=hc 0 _ rfl;have y1:=hc 1 _ rfl;rw[zN]at y0;have a6:wr.cell? ⟨d,14,none⟩=some nv':=hP.hD.cell 14;have b7:=hP.hD.frozen 14;have b2:(r.names++(xe.take q).map PEnt.name).length<=2000000000:=by simp;omega
   have c2:=hP.nm.one;obtain⟨an,nn,cn,rfl⟩:=hP.nm.form;have HR:=kL hP hev hb he;have c3:(q:Int)<xe.length:=by omega
   have b8:B<=wr.heap.size:=by have:=hP.hBd;have:=b1.lt;omega
   clear hP hev hb he hat hc;go_upto_region 9 with fail;refine aI (F:=λwz=>DPart B wz d b bi cap ov mv (.slice an nn cn) S c { r with names:=r.names++(xe.take q).map PEnt.name}/\OwnP B wz 97 2 (.slice (some ⟨bo,off,none⟩) xe.length ce) (xe.map PEnt.cells)/\Below B w wz/\Blk wz wr.heap.size #[.string e.name,.int .i64 e.num] 97) ⟨HR.out.1.below (bel wr _),HR.out.2.1.keep (Keep.of_below (bel wr _) (λ_=>False)) (λ_ _ h=>h),HR.out.2.2.1.trans ((bel wr _).mono b8),Blk.new _ _ _⟩ ?_;obtain⟨g4,hg4⟩:∃g,wr.heap.size=g:=⟨_,rfl⟩;rw[hg4];clear y0 y1 a6 b7 iG b1;rintro wz ⟨hP,hev,hb,h4⟩;have b3:=hP.hD.lt;have a6:wz.cell? ⟨d,14,none⟩=some (.slice an nn cn):=hP.hD.cell 14;have i4:=h4.lt;have z0:=h4.cell 0;simp at z0;have b9:B<=wz.heap.size:=by have:=hP.hBd;have:=b3.lt;omega
   have HZ:=dR hP hev hb;have H4:=aG h4;clear hP hev hb h4;refine aC [8,9,13] true (λw'=>w'.cell? ⟨d,14,none⟩=some (.slice an nn cn)/\w'.cell? ⟨g4,0,none⟩=some (.string e.name)) (by kernel_rfl) (by kernel_rfl) ?_ ?_
   · (try dsimp only);(repeat' apply And.intro)<;>go_simp
   repeat
    refine aH rfl rfl ?_;apply Exists.intro;refine⟨?_,?_⟩
    focus
     rintro w' ⟨s0,s1⟩;go_simp
     first|done|rfl
    simp only[Act.put,sA,sZ,sS]
   refine fJ rfl rfl ?_;apply Exists.intro;apply Exists.intro;refine⟨?_,?_,?_⟩
   focus
    go_simp;exact⟨rfl,rfl⟩
   focus
    refine .inl ?_
    (try dsimp only);(repeat' apply And.intro)<;>go_simp
   simp only[Act.put,sA,sZ,sS];refine aZ rfl rfl ?_;refine aAQ (.tmp 59) (.tmp 62) 50 ?e00 B 9 1 16 i9x _ Tryz.underlying50 hi9 h90 h91 h92 ?e9 ?e10 (.slice an nn cn) (.slice (some ⟨wz.heap.size,0,none⟩) 1 1) ((r.names++(xe.take q).map PEnt.name).map bP) [bP e.name] ?e1 ?e3 ?e2 ?e4 ?e5 ?e6 ?e11 ?e12 ?e13 ?e14 ?_
   case e00=>rfl
   case e9=>rfl
   case e10=>decide
   case e1=>rfl
   case e3=>rfl
   case e2=>exact aAR _
   case e4=>intro cs hcs;simp at hcs;subst hcs;rfl
   case e5=>intro cs hcs u hu;simp at hcs;subst hcs;simp[bP]at hu;subst hu;rfl
   case e6=>exact(HZ.out.1.below (bel wz (wz.drew.alloc (Obj.cells #[.string e.name] 9)))).nm
   case e11=>exact RowAt.single (Blk.new wz.drew #[.string e.name] 9) 1 1
   case e12=>rw[lM];unfold maxLen;simp at b2 |-;omega
   case e13=>rw[lM];simp at b2 |-;omega
   case e14=>simp;omega
   intro v' w5 hg5;have a0:=HZ.out.1.below (bel wz (wz.drew.alloc (Obj.cells #[.string e.name] 9)));have a7:Grew B 9 1 (wz.drew.alloc (Obj.cells #[.string e.name] 9)) (.slice an nn cn) ((({ r with names:=r.names++(xe.take q).map PEnt.name}:PRes).names++[e.name]).map bP) v' w5:=by rw[yR];exact hg5
   have a3:=a0.named a7;have a4:=a0.named_ents a7 (HZ.out.2.1.keep (Keep.of_below (bel wz (wz.drew.alloc (Obj.cells #[.string e.name] 9))) (λ_=>False)) (λ_ _ h=>h));have a8:∀{g:Nat} {cc:Array Value} {t:TypeId},Blk (wz.drew.alloc (Obj.cells #[.string e.name] 9)) g cc t->t≠9->¬(Value.slice an nn cn).ownBlock=some g:=λhb ht hg=>a0.nm.ne_blk hb (λe=>ht e.symm) hg rfl;have a5:=hg5.2.1.blk a0.hD (a8 a0.hD (by decide));have b4:w5.cell? ⟨d,14,none⟩=some (.slice an nn cn):=a5.cell 14;have a9:=a5.frozen 14;have c4:=a5.lt;obtain⟨va,vn,vc,rfl⟩:=hg5.1.form;have b5:Below B w (w5.setCell ⟨d,14,none⟩ (.slice va vn vc)):=(HZ.out.2.2.trans (((bel wz (wz.drew.alloc (Obj.cells #[.string e.name] 9))).mono b9).trans (hg5.2.1.below (by simp;omega) (λi hi h=>by have:=a0.nm.ge h;omega)))).setCell (p:=⟨d,14,none⟩) HZ.out.1.hBd _;have b0:=hg5.2.1.blk (aB H4.out (bel wz (wz.drew.alloc (Obj.cells #[.string e.name] 9)))) (a8 (aB H4.out (bel wz (wz.drew.alloc (Obj.cells #[.string e.name] 9)))) (by decide));have t4:w5.cell? ⟨g4,0,none⟩=some (.string e.name):=by have:=b0.cell 0;simpa using this
   have c0:=b0.lt;have HF:=dR a3 a4 b5;clear hg5 a7 a3 a4 b5 a0 a8 a5 b0;refine⟨.inl ⟨b4,t4⟩,?_⟩;simp only[Act.put,sA,sZ,sS]
   repeat
    refine aH rfl rfl ?_;apply Exists.intro;refine⟨?_,?_⟩
    focus
     rintro w' ⟨s0,s1⟩;go_simp
     first|done|rfl
    simp only[Act.put,sA,sZ,sS]
   refine aU rfl rfl ?_;apply Exists.intro;refine⟨?_,.inr ⟨rfl,rfl⟩,?_⟩
   focus
    go_simp;rfl
   simp only[Act.put,sA,sZ,sS];refine aQ ?_;clear b4 a9 t4 c0 a6 i4 z0 b3;go_wp2_with fail;go_roundw
   case rel=>exact⟨q+1,_,by go_num,by omega,by have h:=HF.out.1;rw[show (({ r with names:=r.names++(xe.take q).map PEnt.name}:PRes).names++[e.name])=r.names++(xe.take (q+1)).map PEnt.name by rw[aAL HR.out.2.2.2];simp]at h;exact h,HF.out.2.1,HF.out.2.2⟩
   simp[intOf];omega
  have c1:q=xe.length:=by omega
  subst c1;rw[List.take_of_length_le (zC _)]at hP;have HR:=bB hP hb;clear hP hb hev;go_wp2_with fail;exact xC (v:=.tuple #[]) (by simp[results,go_sem]) rfl ⟨HR.out.2,rfl,HR.out.1.at_⟩
 rw[zB hC]at hRR;subst hRR;go_enter Tryz.func150,Tryz.ntmps150;go_wp2_with(go_at_call 178;refine ht.mono ?_;rintro e w1 ⟨hb1,ho⟩;obtain rfl:=ho.bad hC);exact⟨rfl,hb1.mono hB,rfl⟩
end
end Go.Proofs.YtmkapobnfigedaaGreatDoor
