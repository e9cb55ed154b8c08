/- Part of the proof of a law of chapter 15. Conditions: none. -/
import Derived.Test.YtmkapobnfigedaaGreatDoorDl27
import Derived.Test.YtmkapobnfigedaaGreatDoorDl33
set_option linter.unusedVariables false
set_option linter.unusedSimpArgs false
set_option maxRecDepth 100000
set_option maxHeartbeats 8000000
namespace Go.Proofs.YtmkapobnfigedaaGreatDoor
open Go.RowKit
section
def sD (S:PSt) (s:ByteArray):Except Int Nat:=if(aA s).1≠0 then .error (dN (aA s).1)else if(aL S 0 (aA s).2).2≠0 then .error (aL S 0 (aA s).2).2 else .ok (aL S 0 (aA s).2).1
def cV (S:PSt) (s:ByteArray):Except Int (Nat × ByteArray):=if(aA s).1≠0 then .error (dN (aA s).1)else aX S (aA s).2
variable {B K b bi capi capm d gm:Nat} {S:PSt} {c:PCall} {es:List PEnt} {nv ov:Value} {r:PRes} {s:ByteArray} {w:World} {x:PIn}
theorem aHO {l:ByteArray} (h:cV S s=.ok (K,l)):∃x,S.ins[K]? =some x/\x.dir=true:=by
 unfold cV at h;split at h
 .cases h
 exact kP h
theorem aOK (hf:Fine S) (h:sD S s=.ok K):∃x,S.ins[K]? =some x:=by
 unfold sD at h;split at h
 .cases h
 split at h
 .cases h
 cases h;exact⟨_,gE (eT hf (aA s).2 0 hf.pos)⟩
theorem oZ (d b:Nat) (S:PSt) (c:PCall) (s:ByteArray) (w:World) (h:DR w d b S c) (hp:(aA s).1≠0):
 Calls Tryz.prog 170 #[.pointer (some ⟨d,0,none⟩),.string s] w λe w'=>e=bD (dN (aA s).1)/\Below w.heap.size w w':=by
 have a0:∀ww,Calls Tryz.prog 198 #[.string s] ww λe w'=>e=bD (dN (aA s).1)/\Below ww.heap.size ww w':=λww=>by
  refine(uP s ww).mono ?_;intro e w' h;rcases h with⟨h,_⟩|⟨_,h1,h2⟩
  .exact absurd h hp
  exact⟨h1,h2⟩
 clear h hp;go_enter Tryz.func170,Tryz.ntmps170;go_wp2_with(go_at_call 198;refine aE (a0 _) λp=>?_);exact⟨rfl,rfl,bel w _⟩
theorem Opened.parX_call (o:Opened B w d b bi gm capi capm ov nv S c r) (hf:Fine S) (s:ByteArray) (R:Except Int (Nat × ByteArray)) (hR:cV S s=R):
 ∀ww,Below w.heap.size w ww->Calls Tryz.prog 170 #[.pointer (some ⟨d,0,none⟩),.string s] ww λe w'=>(match R with|.ok (K,l)=>e=.returned (.tuple #[.pointer (some ⟨bi,K*4,none⟩),.string l])|.error k=>e=bD k)/\Below ww.heap.size ww w':=by
 intro ww hb;unfold cV at hR;by_cases hp:(aA s).1=0
 .rw[zA (by simpa using hp)]at hR;have:=o.parent_call hf s hp (zD (cM hp) (by decide)) R hR ww hb;rcases R with k|⟨K,l⟩<;>exact this
 rw[zB hp]at hR;subst hR;exact oZ d b S c s ww (o.at_.read.below hb (zC _)) hp
theorem Opened.atX_call (o:Opened B w d b bi gm capi capm ov nv S c r) (hf:Fine S) (s:ByteArray) (R:Except Int Nat) (hR:sD S s=R):
 ∀ww,Below w.heap.size w ww->Calls Tryz.prog 178 #[.pointer (some ⟨d,0,none⟩),.string s] ww λe w'=>(match R with|.ok K=>e=.returned (.pointer (some ⟨bi,K*4,none⟩))|.error k=>e=bD k)/\Below ww.heap.size ww w':=by
 intro ww hb;unfold sD at hR;by_cases hp:(aA s).1=0
 .rw[zA (by simpa using hp)]at hR;refine(o.at_call hf s hp (zD (cM hp) (by decide)) _ _ rfl ww hb).mono ?_;rintro e w' ⟨h1,h2⟩;refine⟨?_,h2⟩;rcases h1 with⟨h,h'⟩|⟨h,h'⟩
  .rw[zA (by simpa using h)]at hR;subst hR;exact h'
  rw[zB h]at hR;subst hR;exact h'
 rw[zB hp]at hR;subst hR;exact aDO d b S c s ww (o.at_.read.below hb (zC _)) hp
theorem aKM {ea:Option Addr} {ec:Nat} (hI:InoAt w bi K x ea ec) (l:ByteArray) (hm:bL x.ents l=false):
 Calls Tryz.prog 187 #[.pointer (some ⟨bi,K*4,none⟩),.string l] w λe w'=>e=bD 1/\Below w.heap.size w w':=by
 have a0:=λww hb=>hI.ent ww l hb;rw[hm]at a0;have y2:=hI.y2;have iB:=hI.iB;clear hI hm;go_enter Tryz.func187,Tryz.ntmps187;go_wp2_with(first|(go_at_call 171;refine aE (a0 _ (bel _ _)) λp=>?_)|(go_at_call 172;with_reducible refine aE (aO _ _) λp=>?_));exact⟨rfl,rfl,bel w _⟩
def aFN (S:PSt) (c:PCall) (r:PRes) (num:Int):Except Int (PSt × PRes):=match S.ins[(aJ S.nums num).toNat]? with
 |none=>.error 0
 |some y=>if c.kind=9 then(if y.dir=true then .error 8 else .ok (oI S num,r))else if y.dir=false then .error 7 else if 0<y.ents.length then .error 3 else .ok ({ S with ins:=aM S.ins (aJ S.nums num).toNat},r)
def gW (S:PSt) (c:PCall) (r:PRes):Except Int (PSt × PRes):=match cV S c.path with
 |.error k=>.error k
 | .ok (K,l)=>match S.ins[K]? with
   |none=>.error 0
   | some x=>if bL x.ents l=false then .error 1 else match x.ents[cL x.ents l]? with
     |none=>.error 0
     |some e=>aFN (S.ents K x (aM x.ents (cL x.ents l))) c r e.num
theorem aOL (hx:S.ins[K]? =some x) (q:Nat):(S.ents K x es).ins[q]? =if K=q then some { x with ents:=es}else S.ins[q]? :=by
 unfold PSt.ents;show(S.ins.set K _)[q]? =_;obtain⟨hl,-⟩:=gI.1 hx;rw[List.getElem?_set];by_cases e:K=q
 .subst e;rw[zB rfl,zB rfl,zB hl]
 rw[zA e,zA e]
theorem uF {y:PIn} (hx:S.ins[K]? =some x) (hy:y∈(S.ents K x es).ins):y∈S.ins\/y={ x with ents:=es}:=by
 obtain⟨q,hq⟩:=List.mem_iff_getElem?.1 hy;rw[aOL hx]at hq;split at hq
 .cases hq;exact .inr rfl
 exact .inl (mG hq)
theorem Fine.take (hf:Fine S) (hx:S.ins[K]? =some x) (q:Nat) (hq:q<x.ents.length):Fine (S.ents K x (aM x.ents q)):=by
 have hn:=qL S K x (aM x.ents q) hx;have a7:=mG hx;have a0:∀e∈aM x.ents q,e∈x.ents:=λe he=>(List.mem_append.1 he).elim List.mem_of_mem_take List.mem_of_mem_drop;obtain⟨a1,a2,a3,a4,a5,a6⟩:=hf.wf;have hl:(S.ents K x (aM x.ents q)).ins.length=S.ins.length:=by unfold PSt.ents;simp
 refine⟨⟨by rw[hl];exact a1,a2,a3,λy hy=>?_,a5,a6⟩,by rw[hl];exact hf.pos,λy hy e he=>?_,λd hd=>by rw[hn];exact hf.opens d hd⟩
 .rcases uF hx hy with h|rfl
  .exact a4 y h
  obtain⟨b1,b2,b3⟩:=a4 x a7;exact⟨b1,by show(aM x.ents q).length<=_;rw[fF _ _ hq];omega,λe he=>b3 e (a0 e he)⟩
 rw[hn];rcases uF hx hy with h|rfl
 .exact hf.find y h e he
 exact hf.find x a7 e (a0 e he)
theorem Small.take (hs:Small S) (hx:S.ins[K]? =some x) (q:Nat) (hq:q<x.ents.length):Small (S.ents K x (aM x.ents q)):=by
 have hl:(S.ents K x (aM x.ents q)).ins.length=S.ins.length:=by unfold PSt.ents;simp
 refine⟨by rw[hl];exact hs.ins,λy hy=>?_,hs.made,hs.each⟩;rcases uF hx hy with h|rfl
 .exact hs.ents y h
 have:=hs.ents x (mG hx);show(aM x.ents q).length<=_;rw[fF _ _ hq];omega
theorem Opened.dpart (o:Opened B w d b bi gm capi capm ov nv S c r):DPart B w d b bi capi ov (.slice (some ⟨gm,0,none⟩) S.made.length capm) nv S c r:=⟨o.hBb,o.hBd,o.hD,o.hb,o.st,o.nm⟩
theorem aOM (B d b:Nat) (S:PSt) (c:PCall) (r:PRes) (w:World) (h:DoAt B w d b S c r) (hB:B<=w.heap.size) (hf:Fine S) (hs:Small S) (hmd:0<S.made.length):
 Calls Tryz.prog 148 #[.pointer (some ⟨d,0,none⟩)] w (bA B w d b c (gW S c r)):=by
 obtain⟨bi,gm,capi,capm,ov,nv,ho⟩:=h.open_ hf.pos hmd;obtain⟨PM,hPM⟩:∃PM,cV S c.path=PM:=⟨_,rfl⟩;have a6:=ho.parX_call hf c.path PM hPM;unfold gW;rw[hPM];have d6:w.cell? ⟨d,6,none⟩=some (.string c.path):=ho.hD.cell 6;have iD:=ho.hD.lt;have iW:Bel w w:=inferInstance;rcases PM with k|⟨K,l⟩
 .simp only;have a3:∀ww,Below w.heap.size w ww->Calls Tryz.prog 170 #[.pointer (some ⟨d,0,none⟩),.string c.path] ww λe w'=>e=bD k/\Below ww.heap.size ww w':=a6
  clear a6 hPM hf hs ho h;go_enter Tryz.func148,Tryz.ntmps148;go_wp2_with(go_at_call 170;refine aE (a3 _ (bel _ _)) λp=>?_);exact⟨rfl,(bel w _).mono hB,rfl⟩
 have a3:vB w 170 #[.pointer (some ⟨d,0,none⟩),.string c.path] (.tuple #[.pointer (some ⟨bi,K*4,none⟩),.string l]):=a6;obtain⟨x,hx,_⟩:=aHO hPM;simp only;rw[hx];simp only;by_cases a2:bL x.ents l=true
 .have hq :=qB a2;obtain⟨e0,he0⟩:∃e0,x.ents[cL x.ents l]? =some e0:=⟨_,gE hq⟩
  rw[zA (by rw[a2];decide),he0];simp only;have a9:=hf.take hx _ hq;have b6:=hs.take hx _ hq;have b7:=hf.find x (mG hx) e0 (mG he0);rw[<-qL S K x (aM x.ents (cL x.ents l)) hx]at b7;have a4:∀ww,Below w.heap.size w ww->Calls Tryz.prog 187 #[.pointer (some ⟨bi,K*4,none⟩),.string l] ww _:=λww hb=>aHV B ww ov (.slice (some ⟨gm,0,none⟩) S.made.length capm) S bi capi K x l (ho.below hb).st hx (zD hB hb.size) (hs.ents x (mG hx)) a2 e0 he0;have HO:=aG ho;generalize hS1:S.ents K x (aM x.ents (cL x.ents l))=S1 at a9 b6 b7 a4 |-;have HP:∀(ww w3:World),Below w.heap.size w ww->Keep (rA ww) ww w3->StOwn B w3 (.slice (some ⟨bi,0,none⟩) S.ins.length capi) ov (.slice (some ⟨gm,0,none⟩) S.made.length capm) S1->Opened B w3 d b bi gm capi capm ov nv S1 c r:=λww w3 hb hk hst=>by subst hS1;exact Opened.put (HO.out.below hb) hk hst
  have b1:0<S1.made.length:=by subst hS1;exact hmd
  have c3:=aG HP;clear a6 hPM hf hs ho h HP hx a2 hq he0 hS1 HO hmd;generalize hnum:e0.num=num at a4 b7 |-;clear hnum e0;obtain⟨RR,a1⟩:∃RR,aFN S1 c r num=RR:=⟨_,rfl⟩;rw[a1];have c4:=aG a1;clear a1;go_enter Tryz.func148,Tryz.ntmps148;go_upto_region 2 with(first|(go_at_call 170;refine aE (a3 _ (bel _ _)) λp=>?_)|(go_at_call 187;refine(a4 _ (bel _ _)).mono ?_;rintro e w3 ⟨rfl,hb3,hk3,hs3⟩;have o3:=c3.out _ _ (bel w _) hk3 hs3;have c5:=bB o3 (((bel w _).mono hB).trans hb3);clear hb3 hk3 hs3 o3))
  refine aI (F:=λwA=>Opened B wA d b bi gm capi capm ov nv S1 c r/\Below B w wA) c5.out ?_;clear c5 iD d6 a4 a3 iW;rintro wA ⟨hA,hbA⟩;obtain⟨K2,hfn⟩:∃K2:Nat,aJ S1.nums num=K2:=⟨(aJ S1.nums num).toNat,by omega⟩;have c6:K2<S1.ins.length:=by
   rcases cE S1.nums num with h|h
   .omega
   have h2:=h.2;unfold PSt.nums at h2 hfn;rw[lM]at h2;omega
  obtain⟨y,hy⟩:∃y,S1.ins[K2]? =some y:=⟨_,gE c6⟩;have a1:=c4.out.symm;clear c4;unfold aFN at a1;rw[hfn,zJ,hy]at a1;simp only at a1;have a0:∀ww,Below wA.heap.size wA ww->Calls Tryz.prog 102 #[.pointer (some ⟨b,0,none⟩),.int .i64 num] ww _:=λww hb=>gT b S1 num ww (hA.at_.read.sp.below hb (zC _)) a9.wf;rw[hfn]at a0;obtain⟨ea,ec,hI⟩:=hA.ino b6 hy;have c7:∀ww,Below wA.heap.size wA ww->Calls Tryz.prog 145 #[.pointer (some ⟨d,0,none⟩),.int .i64 num] ww λe w'=>e=.returned (.tuple #[])/\Below B w w'/\DPart B w' d b bi capi ov (.slice (some ⟨gm,0,none⟩) S1.made.length capm) nv (oI S1 num) c r:=λww hb=>(aHX (hA.dpart.below hb) (zD hB (zD hbA.size hb.size)) a9.wf num hy hfn).mono λe w' ⟨h1,h2,h3⟩=>⟨h1,(hbA.trans (hb.mono (zD hB hbA.size))).trans h2,h3⟩;obtain⟨iI,y0,y1,y2,y3,hrow,hent,hful⟩:=hI;have d3:=hA;have c8:=hA.dpart;have iD:=hA.hD.lt;have iL:=hA.hb.lt;have d0:wA.cell? ⟨d,0,none⟩=some (.pointer (some ⟨b,0,none⟩)):=hA.hD.cell 0;have d1:wA.cell? ⟨d,1,none⟩=some (.int .i64 c.kind):=hA.hD.cell 1;have b0:wA.cell? ⟨b,0,none⟩=some (.slice (some ⟨bi,0,none⟩) S1.ins.length capi):=hA.hb.cell 0;have d7:(K2:Int)<S1.ins.length:=by omega
  have c1:(0:Int)<=y.ents.length:=by omega
  have b8:=c6;have c9:=dR a9 b6 b1;have HA:=bB c8 hbA;have iA:Bel wA wA:=inferInstance;clear hA d3 c8 hbA a9 b6 b7 b1 hrow hent hful hy hfn y0 y3 c3;generalize y.dir=yd at y1 a1;generalize hyl:y.ents.length=yl at y2 c1 a1;clear hyl y;by_cases hk:c.kind=9
  .rw[zB hk]at a1;rw[hk]at d1;rcases yd with _|_
   .simp only[zP,if_false]at a1;subst a1;go_wp2_with(first|(go_at_call 102;refine aE (a0 _ (bel _ _)) λp=>?_)|(go_at_call 172;with_reducible refine aE (aD _ _) λp=>?_)|(go_at_call 145;refine(c7 _ (bel _ _)).mono ?_;rintro e w7 ⟨rfl,hb7,hp7⟩;have H7:=bB hb7 hp7;clear hb7 hp7))
    exact xC (v:=.tuple #[]) (by simp[results,go_sem]) rfl ⟨H7.out.1,rfl,H7.out.2.at_⟩
   simp only[if_true]at a1;subst a1;go_wp2_with(first|(go_at_call 102;refine aE (a0 _ (bel _ _)) λp=>?_)|(go_at_call 172;with_reducible refine aE (aO _ _) λp=>?_));exact⟨rfl,HA.out.2.trans ((bel wA _).mono (zD hB HA.out.2.size)),rfl⟩
  rw [zA hk]at a1;have d8:(c.kind==9)=false:=by simpa using hk
  rcases yd with _|_
  .simp only[if_true]at a1;subst a1;go_wp2_with(first|(go_at_call 102;refine aE (a0 _ (bel _ _)) λp=>?_)|(go_at_call 172;with_reducible refine aE (aO _ _) λp=>?_))
   exact⟨rfl,HA.out.2.trans ((bel wA _).mono (zD hB HA.out.2.size)),rfl⟩
  rw [zA (by decide)]at a1;by_cases hz:0<yl
  .rw[zB hz]at a1;subst a1;have d4:(0:Int)<yl:=by omega
   go_wp2_with(first|(go_at_call 102;refine aE (a0 _ (bel _ _)) λp=>?_)|(go_at_call 172;with_reducible refine aE (aD _ _) λp=>?_)|(go_at_call 172;with_reducible refine aE (aO _ _) λp=>?_));exact⟨rfl,HA.out.2.trans ((bel wA _).mono (zD hB HA.out.2.size)),rfl⟩
  rw[zA hz]at a1;subst a1;have d4:¬(0:Int)<yl:=by omega
  have d9:IntKind.i64.wrap ((K2:Int)+1)=(K2:Int)+1:=I64.wrap ⟨by omega,by have:=c9.out.1.wf.1;omega⟩;go_upto_region 9 with(first|(go_at_call 102;refine aE (a0 _ (bel _ _)) λp=>?_)|(go_at_call 172;with_reducible refine aE (aD _ _) λp=>?_))
  refine aI (F:=λwB=>DPart B wB d b bi capi ov (.slice (some ⟨gm,0,none⟩) S1.made.length capm) nv S1 c r/\Below B w wB) ⟨HA.out.1.below (bel _ _),HA.out.2.trans ((bel wA _).mono (zD hB HA.out.2.size))⟩ ?_;clear iD iL d0 d1 b0 iI y1 y2 HA a0 c7 iA wA;rintro wA ⟨hA,hbA⟩;have iD:=hA.hD.lt;have iL:=hA.hb.lt;have d0:wA.cell? ⟨d,0,none⟩=some (.pointer (some ⟨b,0,none⟩)):=hA.hD.cell 0;have b0:wA.cell? ⟨b,0,none⟩=some (.slice (some ⟨bi,0,none⟩) S1.ins.length capi):=by have:=hA.hb.cell 0;simpa using this
  obtain⟨is,hi1,hi2,hi3⟩:=hA.st.delIns K2 b8;have a8:=vP B bi capi (is.map IRec.cells) K2 wA.drew (by rw[lM,hi2];exact hi1.keep ((Keep.refl (λ_=>False) wA).drew) (λ_ _ h=>h)) (eU _) (mZ _) (by rw[lM,hi2];exact b8) (by rw[lM,hi2];exact c9.out.1.wf.1);rw[lM,hi2]at a8;have HA:=dR hA hbA hi3;clear hA hbA hi3 hi1;refine aC [14,17] true (λw'=>w'.cell? ⟨d,0,none⟩=some (.pointer (some ⟨b,0,none⟩))/\w'.cell? ⟨b,0,none⟩=some (.slice (some ⟨bi,0,none⟩) S1.ins.length capi)) (by kernel_rfl) (by kernel_rfl) ?_ ?_
  · (try dsimp only);(repeat' apply And.intro)<;>go_simp
  repeat
   refine aH rfl rfl ?_;apply Exists.intro;refine⟨?_,?_⟩
   focus
    rintro w' ⟨s0,s1⟩;go_simp
    first|done|rfl
   simp only[Act.put,sA,sZ,sS]
  refine aZ rfl rfl ?_;refine aS 182 #[.slice (some ⟨bi,0,none⟩) S1.ins.length capi,.int .i64 K2,.int .i64 ((K2:Int)+1)] ?hr ?_
  case hr=>
   go_simp
   first|done|rfl
  refine a8.mono ?_;rintro e w5 ⟨rfl,ho5,hk5⟩;obtain⟨hA,hbA,hi3⟩:=HA.out;have a5:Keep (λg=>g=bi) wA w5:=((Keep.refl (λg=>g=bi) wA).drew).trans hk5 (λ_ _ h=>h);obtain⟨hBi,arr,hbi⟩:B<=bi/\∃arr,Blk wA bi arr 68:=by
   obtain⟨_,_,is',h3,_⟩:=hA.st;rcases h3 with⟨h0,_⟩|⟨g,cap',arr,heq,hgB,hgb,_⟩
   .cases h0
   simp only[zO,zF,yG]at heq;obtain⟨⟨rfl,-,-⟩,-,-⟩:=heq;exact⟨hgB,arr,hgb⟩
  have hX:∀g,g=bi->∃c,Blk wA g c 68:=λg hg=>by rw[hg];exact⟨arr,hbi⟩
  have b2:=hi3 w5 _ _ a5 hX ho5;have b9:∀{g:Nat} {cc:Array Value} {t:TypeId},Blk wA g cc t->t≠68->¬g=bi:=λhb ht hg=>by subst hg;exact hb.ne_ hbi ht rfl
  have b3:=a5.blk hA.hD (b9 hA.hD (by decide));have a7:=a5.blk hA.hb (b9 hA.hb (by decide));have c2:=hA.nm.keep a5 (λg hg h=>by
   obtain⟨cc,hcc⟩:=hA.nm.blk_of hg;exact b9 hcc (by decide) h)
  have d5:B<=wA.heap.size:=zD hB hbA.size;have b4:Below B w w5:=hbA.trans (a5.below d5 (λi hi h=>by omega));have y0:w5.cell? ⟨d,0,none⟩=some (.pointer (some ⟨b,0,none⟩)):=b3.cell 0;have y1:w5.cell? ⟨b,0,none⟩=some (.slice (some ⟨bi,0,none⟩) S1.ins.length capi):=by have:=a7.cell 0;simpa using this
  have e1:=a7.frozen 0;have jD:=b3.lt;have jB:=a7.lt;have c0:Keep (λg=>g=b) w5 (w5.setCell ⟨b,0,none⟩ (.slice (some ⟨bi,0,none⟩) (S1.ins.length-1) capi)):=Keep.setCell (S:=λg=>g=b) (p:=⟨b,0,none⟩) (Keep.refl _ _) (.inl rfl) _;have hp:DPart B (w5.setCell ⟨b,0,none⟩ (.slice (some ⟨bi,0,none⟩) (S1.ins.length-1) capi)) d b bi capi ov (.slice (some ⟨gm,0,none⟩) S1.made.length capm) nv { S1 with ins:=aM S1.ins K2} c r:=⟨hA.hBb,hA.hBd,c0.blk b3 (b3.ne_ a7 (by decide)),by rw[fF _ _ b8];have:=a7.set_ 0 (.slice (some ⟨bi,0,none⟩) (S1.ins.length-1) capi);simpa using this,by rw[fF _ _ b8];exact b2.keep c0 (λg hg=>by rw[hg];exact⟨_,26,a7,by decide,by decide,by decide,by decide⟩),c2.keep c0 (λg hg=>c2.ne_blk a7 (by decide) hg)⟩;have d2:Below B w (w5.setCell ⟨b,0,none⟩ (.slice (some ⟨bi,0,none⟩) (S1.ins.length-1) capi)):=b4.setCell (p:=⟨b,0,none⟩) hA.hBb _;have HF:=bB hp d2;clear hA hbA b2 b3 a7 c2 a5 hk5 ho5 b9 b4 c0 hp d2 a8 hbi hX hi3;refine⟨_,rfl,.inl ⟨y0,y1⟩,?_⟩;simp only[Act.put,sA,sZ,sS]
  repeat
   refine aH rfl rfl ?_;apply Exists.intro;refine⟨?_,?_⟩
   focus
    rintro w' ⟨s0,s1⟩;go_simp
    first|done|rfl
   simp only[Act.put,sA,sZ,sS]
  refine aU rfl rfl ?_;apply Exists.intro;refine⟨?_,.inr ⟨rfl,rfl⟩,?_⟩
  focus
   go_simp;rfl
  simp only[Act.put];refine aQ ?_;exact xC (v:=.tuple #[]) (by simp[results,go_sem]) rfl ⟨HF.out.2,rfl,HF.out.1.at_⟩
 have a2:bL x.ents l=false:=by simpa using a2
 rw[zB a2];obtain⟨ea,ec,hI⟩:=ho.ino hs hx;have b5:∀ww,Below w.heap.size w ww->Calls Tryz.prog 187 #[.pointer (some ⟨bi,K*4,none⟩),.string l] ww λe w'=>e=bD 1/\Below ww.heap.size ww w':=λww hb=>by obtain⟨ea,ec,hI⟩:=(ho.below hb).ino hs hx;exact aKM hI l a2
 clear a6 hPM hx hf hs ho h hI a2;go_enter Tryz.func148,Tryz.ntmps148;go_wp2_with(first|(go_at_call 170;refine aE (a3 _ (bel _ _)) λp=>?_)|(go_at_call 187;refine aE (b5 _ (bel _ _)) λp=>?_));exact⟨rfl,(bel w _).mono hB,rfl⟩
end
def mV (S:PSt) (c:PCall) (r:PRes):Except Int (PSt × PRes):=match sD S c.path with
 |.error k=>.error k
 | .ok K1=>match S.ins[K1]? with
   |none=>.error 0
   | some x=>if x.dir=true then .error 8 else match cV S c.path2 with
     |.error k=>.error k
     |.ok (K,l)=>tL S x r K l
theorem aQG (B d b:Nat) (S:PSt) (c:PCall) (r:PRes) (w:World) (h:DoAt B w d b S c r) (hB:B<=w.heap.size) (hf:Fine S) (hs:Small S) (hmd:0<S.made.length):
 Calls Tryz.prog 147 #[.pointer (some ⟨d,0,none⟩)] w (bA B w d b c (mV S c r)):=by
 obtain⟨bi,gm,capi,capm,ov,nv,ho⟩:=h.open_ hf.pos hmd;obtain⟨AM,hAM⟩:∃AM,sD S c.path=AM:=⟨_,rfl⟩;have a6:=ho.atX_call hf c.path AM hAM;unfold mV;rw[hAM];have d6:w.cell? ⟨d,6,none⟩=some (.string c.path):=ho.hD.cell 6;have d7:w.cell? ⟨d,7,none⟩=some (.string c.path2):=ho.hD.cell 7;have iD:=ho.hD.lt;have iW:Bel w w:=inferInstance;rcases AM with C|K1;rotate_left
 .obtain ⟨x,hx⟩:=aOK hf hAM;simp only;rw[hx];simp only;have a1:vB w 178 #[.pointer (some ⟨d,0,none⟩),.string c.path] (.pointer (some ⟨bi,K1*4,none⟩)):=a6
  obtain⟨ea1,ec1,hI1⟩:=ho.ino hs hx;obtain⟨iBi,x0,x1,_⟩:=hI1;obtain⟨PM,hPM⟩:∃PM,cV S c.path2=PM:=⟨_,rfl⟩;have a3:=ho.parX_call hf c.path2 PM hPM;rw[hPM];clear a6 hAM;by_cases a2:x.dir=true
  .rw[zB a2];rw[a2]at x1;clear a3 hPM hx hf hs ho a2
   go_enter Tryz.func147,Tryz.ntmps147;go_wp2_with(first|(go_at_call 178;refine aE (a1 _ (bel _ _)) λp=>?_)|(go_at_call 172;refine aE (aO _ _) λp=>?_));exact⟨rfl,(bel w _).mono hB,rfl⟩
  rw [zA a2];have a2:x.dir=false:=by simpa using a2
  rw[a2]at x1;rcases PM with k|⟨K,l⟩
  .simp only;have a0:∀ww,Below w.heap.size w ww->Calls Tryz.prog 170 #[.pointer (some ⟨d,0,none⟩),.string c.path2] ww λe w'=>e=bD k/\Below ww.heap.size ww w':=a3
   clear a3 hPM hx hf hs ho;go_enter Tryz.func147,Tryz.ntmps147;go_wp2_with(first|(go_at_call 178;refine aE (a1 _ (bel _ _)) λp=>?_)|(go_at_call 172;with_reducible refine aE (aD _ _) λp=>?_)|(go_at_call 170;refine aE (a0 _ (bel _ _)) λp=>?_));exact⟨rfl,(bel w _).mono hB,rfl⟩
  have a0:vB w 170 #[.pointer (some ⟨d,0,none⟩),.string c.path2] (.tuple #[.pointer (some ⟨bi,K*4,none⟩),.string l]):=a3;obtain⟨y,hy,_⟩:=aHO hPM;obtain⟨ea,ec,hI⟩:=ho.ino hs hy;have a4:=λww hb=>hI.ent ww l hb;have a5:=λww hb=>hI.ful ww l { data:=#[]} hb;have y2:=hI.y2;simp only;unfold tL;rw[hy];simp only;generalize hhit:bL y.ents l=hit at a4 |-;generalize hfu:fQ y.ents l { data:=#[]}=fu at a5 |-;have a9:=hs.ents y (mG hy);have a7:∀ww,Below w.heap.size w ww->Calls Tryz.prog 175 #[.pointer (some ⟨bi,K*4,none⟩),.string l,.int .i64 x.num] ww _:=λww hb=>rB B ww ov (.slice (some ⟨gm,0,none⟩) S.made.length capm) S bi capi K y l x.num (ho.below hb).st hy (zD hB hb.size) a9;have HO:=aG ho;clear a3 hPM hx hf hs ho hI hhit hfu hy;rcases hit with _|_
  .simp only[zP,if_false];rcases fu with _|_
   .simp only[zP,if_false]
    go_enter Tryz.func147,Tryz.ntmps147;go_wp2_with(first|(go_at_call 178;refine aE (a1 _ (bel _ _)) λp=>?_)|(go_at_call 172;with_reducible refine aE (aD _ _) λp=>?_)|(go_at_call 170;refine aE (a0 _ (bel _ _)) λp=>?_)|(go_at_call 171;refine aE (a4 _ (bel _ _)) λp=>?_)|(go_at_call 173;refine aE (a5 _ (bel _ _)) λp=>?_)|(go_at_call 175;refine(a7 _ (bel _ _)).mono ?_;rintro e w3 ⟨rfl,hb3,hk3,hs3⟩;have o3:=Opened.put (HO.out.below (bel w _)) hk3 hs3;have a8:=bB o3 (((bel w _).mono hB).trans hb3);clear hb3 hk3 hs3 o3));exact xC (v:=.tuple #[]) (by simp[results,go_sem]) rfl ⟨a8.out.2,rfl,a8.out.1.at_⟩
   simp only[if_true];go_enter Tryz.func147,Tryz.ntmps147;go_wp2_with(first|(go_at_call 178;refine aE (a1 _ (bel _ _)) λp=>?_)|(go_at_call 170;refine aE (a0 _ (bel _ _)) λp=>?_)|(go_at_call 171;refine aE (a4 _ (bel _ _)) λp=>?_)|(go_at_call 173;refine aE (a5 _ (bel _ _)) λp=>?_)|(go_at_call 172;with_reducible refine aE (aD _ _) λp=>?_)|(go_at_call 172;with_reducible refine aE (aO _ _) λp=>?_));exact⟨rfl,(bel w _).mono hB,rfl⟩
  simp only[if_true];go_enter Tryz.func147,Tryz.ntmps147;go_wp2_with(first|(go_at_call 178;refine aE (a1 _ (bel _ _)) λp=>?_)|(go_at_call 170;refine aE (a0 _ (bel _ _)) λp=>?_)|(go_at_call 171;refine aE (a4 _ (bel _ _)) λp=>?_)|(go_at_call 172;with_reducible refine aE (aD _ _) λp=>?_)|(go_at_call 172;with_reducible refine aE (aO _ _) λp=>?_));exact⟨rfl,(bel w _).mono hB,rfl⟩
 simp only;have a1:∀ww,Below w.heap.size w ww->Calls Tryz.prog 178 #[.pointer (some ⟨d,0,none⟩),.string c.path] ww λe w'=>e=bD C/\Below ww.heap.size ww w':=a6;clear a6 hAM hf hs ho;go_enter Tryz.func147,Tryz.ntmps147;go_wp2_with(first|(go_at_call 178;refine aE (a1 _ (bel _ _)) λp=>?_));exact⟨rfl,(bel w _).mono hB,rfl⟩
def gU (S:PSt) (c:PCall) (r:PRes):Except Int (PSt × PRes):=if(aA c.path).1≠0 then .error (dN (aA c.path).1)else nK S c r
theorem aJI (B d b:Nat) (S:PSt) (c:PCall) (r:PRes) (w:World) (h:DoAt B w d b S c r) (hB:B<=w.heap.size) (hf:Fine S) (hs:Small S) (h0:0<=c.core) (hc:c.core<S.made.length):
 Calls Tryz.prog 141 #[.pointer (some ⟨d,0,none⟩)] w (bA B w d b c (gU S c r)):=by
 unfold gU;by_cases hp:(aA c.path).1=0
 .rw[zA (by simpa using hp)];exact aLR B d b S c r w h hB hf hs hp (zD (cM hp) (by decide)) h0 hc
 rw[zB hp];have a0:∀ww,Below w.heap.size w ww->Calls Tryz.prog 170 #[.pointer (some ⟨d,0,none⟩),.string c.path] ww _:=λww hb=>oZ d b S c c.path ww (h.read.below hb (zC _)) hp;obtain⟨iv,ov,mv,nv,hBb,hBd,hD,hbk,hst,hnv⟩:=h;have d6:w.cell? ⟨d,6,none⟩=some (.string c.path):=hD.cell 6;have iD:=hD.lt;clear hD hbk hst hnv hf hs;go_enter Tryz.func141,Tryz.ntmps141;go_wp2_with(go_at_call 170;refine aE (a0 _ (bel _ _)) λp=>?_);exact⟨rfl,(bel w _).mono hB,rfl⟩
theorem dS {a:Act} {j:Nat} {d:Tmp} {b:Bool} (h:a.eval (.tmp d)=.bool b) (o:Oper) (ops':Array Oper) (ho:ops'[j]? =some o) (hd:o.dst=some d):yielded ops' a.tmps j=some b:=by
 unfold yielded;rw[ho];simp only[Option.bind_some,hd];rw[cD]at h;rcases e:a.tmps[d]? with _|v
 .rw[e]at h;simp[undef]at h
 rw[e]at h;simp only[Option.getD_some]at h;subst h;rfl
def aUX (d b bi n capi f:Nat) (num:Int) (p2:ByteArray):Nat->Value
 |0=>.pointer (some ⟨d,0,none⟩)
 |1=>.pointer (some ⟨d,0,none⟩)
 |2=>.pointer (some ⟨d,0,none⟩)
 |3=>.pointer (some ⟨b,0,none⟩)
 |4=>.pointer (some ⟨b,0,none⟩)
 |5=>.pointer (some ⟨b,0,none⟩)
 |6=>.slice (some ⟨bi,0,none⟩) n capi
 |7=>.pointer (some ⟨d,0,none⟩)
 |8=>.pointer (some ⟨d,0,none⟩)
 |9=>.pointer (some ⟨d,0,none⟩)
 |10=>.pointer (some ⟨b,0,none⟩)
 |11=>.int .i64 num
 |12=>.int .i64 f
 |13=>.pointer (some ⟨bi,f*4,none⟩)
 |14=>.pointer (some ⟨bi,f*4+1,none⟩)
 |15=>.bool true
 |16=>.bool true
 |17=>.pointer (some ⟨d,0,none⟩)
 |18=>.pointer (some ⟨d,0,none⟩)
 |19=>.pointer (some ⟨d,0,none⟩)
 |20=>.pointer (some ⟨d,1,none⟩)
 |21=>.pointer (some ⟨d,7,none⟩)
 |22=>.string p2
 |23=>.int .i64 num
 |24=>.bool true
 |25=>.bool true
 |_=>undef
def lZ (S:PSt) (c:PCall):Int:=match aX S (aA c.path).2 with
 |.error k=>k
 | .ok (K1,s)=>match S.ins[K1]? with
   |none=>0
   |some x1=>if bL x1.ents s=false then 1 else dN (aA c.path2).1
def gH (S:PSt) (c:PCall) (r:PRes):Except Int (PSt × PRes):=if(aA c.path).1≠0 then .error (dN (aA c.path).1)else if(aA c.path2).1=0 then eZ S c r else .error (lZ S c)
theorem aKN (B d b:Nat) (S:PSt) (c:PCall) (r:PRes) (w:World) (h:DoAt B w d b S c r) (hB:B<=w.heap.size) (hf:Fine S) (hs:Small S) (hmd:0<S.made.length):
 Calls Tryz.prog 149 #[.pointer (some ⟨d,0,none⟩)] w (bA B w d b c (gH S c r)):=by
 unfold gH;by_cases hp:(aA c.path).1=0;rotate_left
 .rw[zB hp];have a0:∀ww,Below w.heap.size w ww->Calls Tryz.prog 170 #[.pointer (some ⟨d,0,none⟩),.string c.path] ww _:=λww hb=>oZ d b S c c.path ww (h.read.below hb (zC _)) hp
  obtain⟨iv,ov,mv,nv,hBb,hBd,hD,hbk,hst,hnv⟩:=h;have d6:w.cell? ⟨d,6,none⟩=some (.string c.path):=hD.cell 6;have iD:=hD.lt;clear hD hbk hst hnv hf hs;go_enter Tryz.func149,Tryz.ntmps149;go_wp2_with(first|(go_at_call 170;with_reducible refine aE (a0 _ (bel _ _)) λp=>?_));exact⟨rfl,(bel w _).mono hB,rfl⟩
 rw[zA (by simpa using hp)];have b4:=zD (cM hp) (show 4<=1000000000 by decide);by_cases hno:(aA c.path2).1=0/\aCT S c=true
 .rw[zB hno.1];exact aOA B d b S c r w h hB hf hs hmd hp b4 hno.1 (zD (cM hno.1) (by decide)) hno.2
 obtain⟨RR,hRR⟩:∃RR,(if (aA c.path2).1=0 then eZ S c r else .error (lZ S c))=RR:=⟨_,rfl⟩;rw[hRR];obtain⟨bi,gm,capi,capm,ov,nv,ho⟩:=h.open_ hf.pos hmd;have d6:w.cell? ⟨d,6,none⟩=some (.string c.path):=ho.hD.cell 6;have d7:w.cell? ⟨d,7,none⟩=some (.string c.path2):=ho.hD.cell 7;have iD:=ho.hD.lt;have iW:Bel w w:=inferInstance;obtain⟨PM1,hPM1⟩:∃PM,aX S (aA c.path).2=PM:=⟨_,rfl⟩;have a7:=ho.parent_call hf c.path hp b4 PM1 hPM1;have a9:∀k,PM1=.error k->RR=.error k:=λk hk=>by rw[<-hRR];unfold eZ lZ;rw[hPM1,hk];simp
 rcases PM1 with k|⟨K1,s⟩
 .have a6:=a9 k rfl;subst a6;have a0:∀ww,Below w.heap.size w ww->Calls Tryz.prog 170 #[.pointer (some ⟨d,0,none⟩),.string c.path] ww λe w'=>e=bD k/\Below ww.heap.size ww w':=a7
  clear a7 hPM1 hf hs ho h hno hRR a9;go_enter Tryz.func149,Tryz.ntmps149;go_wp2_with(first|(go_at_call 170;with_reducible refine aE (a0 _ (bel _ _)) λp=>?_));exact⟨rfl,(bel w _).mono hB,rfl⟩
 clear a9;have a0:vB w 170 #[.pointer (some ⟨d,0,none⟩),.string c.path] (.tuple #[.pointer (some ⟨bi,K1*4,none⟩),.string s]):=a7;obtain⟨x1,hx1,_⟩:=kP hPM1;obtain⟨ea1,ec1,hI1⟩:=ho.ino hs hx1;have a3:=λww hb=>hI1.ent ww s hb;have a2:=hI1.y2;have b5:=hI1.iB;by_cases a1:bL x1.ents s=false
 .have a6:RR=.error 1:=by
   rw[<-hRR];unfold eZ lZ jN;rw[hPM1];simp[hx1,a1]
  subst a6;rw[a1]at a3;clear a7 hPM1 hf hs ho h hno hRR hI1 hx1;go_enter Tryz.func149,Tryz.ntmps149;go_wp2_with(first|(go_at_call 170;with_reducible refine aE (a0 _ (bel _ _)) λp=>?_)|(go_at_call 171;with_reducible refine aE (a3 _ (bel _ _)) λp=>?_)|(go_at_call 172;with_reducible refine aE (aO _ _) λp=>?_));exact⟨rfl,(bel w _).mono hB,rfl⟩
 have a1:bL x1.ents s=true:=by simpa using a1
 have b6:=qB a1;rw[a1]at a3;obtain⟨e1,he1⟩:∃e,x1.ents[cL x1.ents s]? =some e:=⟨_,gE b6⟩;obtain⟨q,hq⟩:∃q,cL x1.ents s=q:=⟨_,rfl⟩;simp only[hq]at a3 b6;have c5:(q:Int)<x1.ents.length:=by omega
 obtain⟨a',c',he',hat'⟩:=hI1.row.at_;simp only[lM,zO]at he';obtain⟨rfl,-,rfl⟩:=he';obtain⟨be,oe,rfl,iE0,-,hce⟩:=hat' w (Below.refl _ _) q e1.cells (by rw[gM,<-hq,he1];rfl);have n1:=hce 1 _ rfl;obtain⟨PM2,hPM2⟩:∃PM,cV S c.path2=PM:=⟨_,rfl⟩;have a5:=ho.parX_call hf c.path2 PM2 hPM2;rcases PM2 with k|⟨K2,t⟩
 .have a6:RR=.error k:=by
   rw[<-hRR];unfold cV at hPM2;by_cases h2:(aA c.path2).1=0
   .rw[zB h2];rw[zA (by simpa using h2)]at hPM2;unfold eZ jN;rw[hPM1];simp[hx1,a1,he1,hPM2]
   rw[zA h2];rw[zB h2]at hPM2;cases hPM2;unfold lZ;rw[hPM1];simp[hx1,a1]
  subst a6;have a4:∀ww,Below w.heap.size w ww->Calls Tryz.prog 170 #[.pointer (some ⟨d,0,none⟩),.string c.path2] ww λe w'=>e=bD k/\Below ww.heap.size ww w':=a5;clear a7 a5 hPM1 hPM2 hf hs ho h hno hRR hI1 hx1 hat' hce he1 a1 hq;go_enter Tryz.func149,Tryz.ntmps149;go_wp2_with(first|(go_at_call 170;with_reducible refine aE (a0 _ (bel _ _)) λp=>?_)|(go_at_call 171;with_reducible refine aE (a3 _ (bel _ _)) λp=>?_)|(go_at_call 172;with_reducible refine aE (aD _ _) λp=>?_)|(go_at_call 170;with_reducible refine aE (a4 _ (bel _ _)) λp=>?_));exact⟨rfl,(bel w _).mono hB,rfl⟩
 have a4:vB w 170 #[.pointer (some ⟨d,0,none⟩),.string c.path2] (.tuple #[.pointer (some ⟨bi,K2*4,none⟩),.string t]):=a5;obtain⟨hp2,hPM2'⟩:(aA c.path2).1=0/\aX S (aA c.path2).2=.ok (K2,t):=by
  unfold cV at hPM2;by_cases h2:(aA c.path2).1=0
  .rw[zA (by simpa using h2)]at hPM2;exact⟨h2,hPM2⟩
  rw[zB h2]at hPM2;cases hPM2
 have a8:(oY S e1.num&&gR S (aA c.path2).2 e1.num)=true:=by
  have h0:¬aCT S c=true:=λh=>hno ⟨hp2,h⟩;unfold aCT at h0;rw[hPM1]at h0;simp only[hx1,he1]at h0;generalize oY S e1.num=x at h0 |-;generalize gR S (aA c.path2).2 e1.num=y at h0 |-;revert h0;rcases x with _|_<;>rcases y with _|_<;>simp
 have a6:RR=.error 9:=by rw[<-hRR,zB hp2];unfold eZ jN;rw[hPM1];simp only[hx1,a1,he1,hPM2',a8];simp
 subst a6;simp only[zE]at a8;have b9:=cE S.nums e1.num;have c0:=hf.find x1 (mG hx1) e1 (mG he1);have c6:S.nums.length=S.ins.length:=by unfold PSt.nums;rw[lM]
 obtain⟨f,hfv⟩:∃f:Nat,aJ S.nums e1.num=f:=⟨(aJ S.nums e1.num).toNat,by omega⟩;have c1:f<S.ins.length:=by omega
 have c2:(f:Int)<S.ins.length:=by omega
 obtain⟨xf,hxf⟩:∃xf,S.ins[f]? =some xf:=⟨_,gE c1⟩;obtain⟨eaf,ecf,hIf⟩:=ho.ino hs hxf;have f1:=hIf.y1;have c3:xf.dir=true:=by have:=a8.1;unfold oY at this;rw[hfv,zJ,hxf]at this;exact this
 rw[c3]at f1;have b1:=ho.at_.read;have b7:=b1.sp;have HF:vB w 102 #[.pointer (some ⟨b,0,none⟩),.int .i64 e1.num] (.int .i64 f):=λww hb=>by have:=gT b S e1.num ww (b7.below hb (zC _)) hf.wf;rw[hfv]at this;exact this
 have HT:vB w 188 #[.pointer (some ⟨d,0,none⟩),.string c.path2,.int .i64 e1.num] (.bool true):=λww hb=>by have:=uN d b S c c.path2 e1.num ww (b1.below hb (zC _)) hf hp2 (zD (cM hp2) (by decide));rw[a8.2]at this;exact this
 have d0:w.cell? ⟨d,0,none⟩=some (.pointer (some ⟨b,0,none⟩)):=ho.hD.cell 0;have b0:w.cell? ⟨b,0,none⟩=some (.slice (some ⟨bi,0,none⟩) S.ins.length capi):=ho.hb.cell 0;have b8:=ho.hb.lt;have HH:=jj6 d0 b0 f1 d7 HF HT;clear a7 a5 hPM1 hPM2 hPM2' hf hs ho h hno hRR hI1 hx1 hat' hce he1 a1 hq hIf hxf hfv b9 c0 a8 b1 b7 HF HT d0 b0 f1;generalize e1.num=num at n1 HH;go_enter Tryz.func149,Tryz.ntmps149;go_upto_region 5 with(first|(go_at_call 170;with_reducible refine aE (a0 _ (bel _ _)) λp=>?_)|(go_at_call 171;with_reducible refine aE (a3 _ (bel _ _)) λp=>?_)|(go_at_call 172;with_reducible refine aE (aD _ _) λp=>?_)|(go_at_call 170;with_reducible refine aE (a4 _ (bel _ _)) λp=>?_))
 refine aI (F:=λwz=>Below w.heap.size w wz) (bel _ _) ?_;intro wz hbz;have z0:=(hbz.cell (p:=⟨d,0,none⟩) iD.lt).trans HH.out.1;have zb:=(hbz.cell (p:=⟨b,0,none⟩) b8.lt).trans HH.out.2.1;have zf:=(hbz.cell (p:=⟨bi,f*4+1,none⟩) b5.lt).trans HH.out.2.2.1;have z7:=(hbz.cell (p:=⟨d,7,none⟩) iD.lt).trans HH.out.2.2.2.1;have b2:∀ww,Below wz.heap.size wz ww->_:=λww hb=>HH.out.2.2.2.2.1 ww (hbz.trans (hb.mono hbz.size));have b3:∀ww,Below wz.heap.size wz ww->_:=λww hb=>HH.out.2.2.2.2.2 ww (hbz.trans (hb.mono hbz.size));have c4:Below B w wz:=hbz.mono hB;have jD:=zR iD.lt hbz.size;have jB:=zR b8.lt hbz.size;have jI:=zR b5.lt hbz.size;refine fK (RV 26 (aUX d b bi S.ins.length capi f num c.path2) wz) (by kernel_rfl) (by kernel_rfl) (by kernel_rfl) ?_ ?_ ?_
 .intro σ;exact RV.zero (by decide) (bel wz _)
 .refine⟨?_,?_,?_,?_,?_,?_,?_,?_,?_,?_,?_,?_,?_,?_,?_,?_,?_,?_,?_,?_,?_,?_,?_,?_,?_,?_,?_,trivial⟩
  .intro D σ w1 a hnd hw hR hin hout hdf;refine⟨λ_=>?_,λh=>absurd h (by simp[Region.wanted])⟩;have e0:(a.tmps[0]?).getD undef=.pointer (some ⟨d,0,none⟩):=(cD a 0).symm.trans ((hout 0 (by kernel_rfl)).trans (by kernel_rfl));refine Oper.wpW (aP (v:=.pointer (some ⟨d,0,none⟩)) ?_ (hR.val 0 (by decide)));clear hin hout hw;go_simp
   first|done|rfl
  .intro D σ w1 a hnd hw hR hin hout hdf;refine⟨λ_=>?_,λh=>absurd h (by simp[Region.wanted])⟩;have c7:(a.tmps[50]?).getD undef=.pointer (some ⟨d,0,none⟩):=(cD a 50).symm.trans ((hin 0 _ 50 rfl rfl).trans (hR.vals 0 (by decide) (hw 0 (by kernel_rfl))));refine Oper.wpW (aP (v:=.pointer (some ⟨d,0,none⟩)) ?_ (hR.val 1 (by decide)));clear hin hout hw;go_simp
   first|done|rfl
  .intro D σ w1 a hnd hw hR hin hout hdf;refine⟨λ_=>?_,λh=>absurd h (by simp[Region.wanted])⟩;have c8:(a.tmps[51]?).getD undef=.pointer (some ⟨d,0,none⟩):=(cD a 51).symm.trans ((hin 1 _ 51 rfl rfl).trans (hR.vals 1 (by decide) (hw 1 (by kernel_rfl))));refine Oper.wpW (aP (v:=.pointer (some ⟨d,0,none⟩)) ?_ (hR.val 2 (by decide)));clear hin hout hw;go_simp
   first|done|rfl
  .intro D σ w1 a hnd hw hR hin hout hdf;refine⟨λ_=>?_,λh=>absurd h (by simp[Region.wanted])⟩;have c9:(a.tmps[52]?).getD undef=.pointer (some ⟨d,0,none⟩):=(cD a 52).symm.trans ((hin 2 _ 52 rfl rfl).trans (hR.vals 2 (by decide) (hw 2 (by kernel_rfl))));have hl:=(hR.below.cell (by exact jD)).trans z0;have iX:BlockLt d w1:=⟨zR jD hR.below.size⟩
   refine Oper.wpW (aP (v:=.pointer (some ⟨b,0,none⟩)) ?_ (hR.val 3 (by decide)));clear hin hout hw;go_simp
   first|done|rfl
  .intro D σ w1 a hnd hw hR hin hout hdf;refine⟨λ_=>?_,λh=>absurd h (by simp[Region.wanted])⟩;have d1:(a.tmps[53]?).getD undef=.pointer (some ⟨b,0,none⟩):=(cD a 53).symm.trans ((hin 3 _ 53 rfl rfl).trans (hR.vals 3 (by decide) (hw 3 (by kernel_rfl))));refine Oper.wpW (aP (v:=.pointer (some ⟨b,0,none⟩)) ?_ (hR.val 4 (by decide)));clear hin hout hw;go_simp
   first|done|rfl
  .intro D σ w1 a hnd hw hR hin hout hdf;refine⟨λ_=>?_,λh=>absurd h (by simp[Region.wanted])⟩;have d2:(a.tmps[54]?).getD undef=.pointer (some ⟨b,0,none⟩):=(cD a 54).symm.trans ((hin 4 _ 54 rfl rfl).trans (hR.vals 4 (by decide) (hw 4 (by kernel_rfl))));refine Oper.wpW (aP (v:=.pointer (some ⟨b,0,none⟩)) ?_ (hR.val 5 (by decide)));clear hin hout hw;go_simp
   first|done|rfl
  .intro D σ w1 a hnd hw hR hin hout hdf;refine⟨λ_=>?_,λh=>absurd h (by simp[Region.wanted])⟩;have d3:(a.tmps[55]?).getD undef=.pointer (some ⟨b,0,none⟩):=(cD a 55).symm.trans ((hin 5 _ 55 rfl rfl).trans (hR.vals 5 (by decide) (hw 5 (by kernel_rfl))));have hl:=(hR.below.cell (by exact jB)).trans zb;have iX:BlockLt b w1:=⟨zR jB hR.below.size⟩
   refine Oper.wpW (aP (v:=.slice (some ⟨bi,0,none⟩) S.ins.length capi) ?_ (hR.val 6 (by decide)));clear hin hout hw;go_simp
   first|done|rfl
  .intro D σ w1 a hnd hw hR hin hout hdf;refine⟨λ_=>?_,λh=>absurd h (by simp[Region.wanted])⟩;have e0:(a.tmps[0]?).getD undef=.pointer (some ⟨d,0,none⟩):=(cD a 0).symm.trans ((hout 0 (by kernel_rfl)).trans (by kernel_rfl));refine Oper.wpW (aP (v:=.pointer (some ⟨d,0,none⟩)) ?_ (hR.val 7 (by decide)));clear hin hout hw;go_simp
   first|done|rfl
  .intro D σ w1 a hnd hw hR hin hout hdf;refine⟨λ_=>?_,λh=>absurd h (by simp[Region.wanted])⟩;have d4:(a.tmps[57]?).getD undef=.pointer (some ⟨d,0,none⟩):=(cD a 57).symm.trans ((hin 7 _ 57 rfl rfl).trans (hR.vals 7 (by decide) (hw 7 (by kernel_rfl))));refine Oper.wpW (aP (v:=.pointer (some ⟨d,0,none⟩)) ?_ (hR.val 8 (by decide)));clear hin hout hw;go_simp
   first|done|rfl
  .intro D σ w1 a hnd hw hR hin hout hdf;refine⟨λ_=>?_,λh=>absurd h (by simp[Region.wanted])⟩;have d5:(a.tmps[58]?).getD undef=.pointer (some ⟨d,0,none⟩):=(cD a 58).symm.trans ((hin 8 _ 58 rfl rfl).trans (hR.vals 8 (by decide) (hw 8 (by kernel_rfl))));refine Oper.wpW (aP (v:=.pointer (some ⟨d,0,none⟩)) ?_ (hR.val 9 (by decide)));clear hin hout hw;go_simp
   first|done|rfl
  .intro D σ w1 a hnd hw hR hin hout hdf;refine⟨λ_=>?_,λh=>absurd h (by simp[Region.wanted])⟩;have d8:(a.tmps[59]?).getD undef=.pointer (some ⟨d,0,none⟩):=(cD a 59).symm.trans ((hin 9 _ 59 rfl rfl).trans (hR.vals 9 (by decide) (hw 9 (by kernel_rfl))));have hl:=(hR.below.cell (by exact jD)).trans z0;have iX:BlockLt d w1:=⟨zR jD hR.below.size⟩
   refine Oper.wpW (aP (v:=.pointer (some ⟨b,0,none⟩)) ?_ (hR.val 10 (by decide)));clear hin hout hw;go_simp
   first|done|rfl
  .intro D σ w1 a hnd hw hR hin hout hdf;refine⟨λ_=>?_,λh=>absurd h (by simp[Region.wanted])⟩;have e6:(a.tmps[6]?).getD undef=.int .i64 num:=(cD a 6).symm.trans ((hout 6 (by kernel_rfl)).trans (by kernel_rfl));refine Oper.wpW (aP (v:=.int .i64 num) ?_ (hR.val 11 (by decide)));clear hin hout hw;go_simp
   first|done|rfl
  .intro D σ w1 a hnd hw hR hin hout hdf;refine⟨λ_=>?_,λh=>absurd h (by simp[Region.wanted])⟩;have d9:(a.tmps[60]?).getD undef=.pointer (some ⟨b,0,none⟩):=(cD a 60).symm.trans ((hin 10 _ 60 rfl rfl).trans (hR.vals 10 (by decide) (hw 10 (by kernel_rfl))));have e2:(a.tmps[61]?).getD undef=.int .i64 num:=(cD a 61).symm.trans ((hin 11 _ 61 rfl rfl).trans (hR.vals 11 (by decide) (hw 11 (by kernel_rfl))));refine Oper.wpW (aS 102 #[.pointer (some ⟨b,0,none⟩),.int .i64 num] ?_ ((b2 w1 hR.below).mono ?_))
   .clear hin hout hw;go_simp
    first|done|rfl
   rintro e w' ⟨rfl,hqb⟩;exact⟨_,rfl,((hR.on hqb).val 12 (by decide))⟩
  .intro D σ w1 a hnd hw hR hin hout hdf;refine⟨λ_=>?_,λh=>absurd h (by simp[Region.wanted])⟩;have e3:(a.tmps[56]?).getD undef=.slice (some ⟨bi,0,none⟩) S.ins.length capi:=(cD a 56).symm.trans ((hin 6 _ 56 rfl rfl).trans (hR.vals 6 (by decide) (hw 6 (by kernel_rfl))));have e4:(a.tmps[62]?).getD undef=.int .i64 f:=(cD a 62).symm.trans ((hin 12 _ 62 rfl rfl).trans (hR.vals 12 (by decide) (hw 12 (by kernel_rfl))));refine Oper.wpW (aP (v:=.pointer (some ⟨bi,f*4,none⟩)) ?_ (hR.val 13 (by decide)));clear hin hout hw;go_simp
   first|done|rfl
  .intro D σ w1 a hnd hw hR hin hout hdf;refine⟨λ_=>?_,λh=>absurd h (by simp[Region.wanted])⟩;have e5:(a.tmps[63]?).getD undef=.pointer (some ⟨bi,f*4,none⟩):=(cD a 63).symm.trans ((hin 13 _ 63 rfl rfl).trans (hR.vals 13 (by decide) (hw 13 (by kernel_rfl))));refine Oper.wpW (aP (v:=.pointer (some ⟨bi,f*4+1,none⟩)) ?_ (hR.val 14 (by decide)));clear hin hout hw;go_simp
   first|done|rfl
  .intro D σ w1 a hnd hw hR hin hout hdf;refine⟨λ_=>?_,λh=>absurd h (by simp[Region.wanted])⟩;have e7:(a.tmps[64]?).getD undef=.pointer (some ⟨bi,f*4+1,none⟩):=(cD a 64).symm.trans ((hin 14 _ 64 rfl rfl).trans (hR.vals 14 (by decide) (hw 14 (by kernel_rfl))));have hl:=(hR.below.cell (by exact jI)).trans zf;have iX:BlockLt bi w1:=⟨zR jI hR.below.size⟩
   refine Oper.wpW (aP (v:=.bool true) ?_ (hR.val 15 (by decide)));clear hin hout hw;go_simp
   first|done|rfl
  .intro D σ w1 a hnd hw hR hin hout hdf;refine⟨λ_=>?_,λh=>absurd h (by simp[Region.wanted])⟩;have e8:(a.tmps[65]?).getD undef=.bool true:=(cD a 65).symm.trans ((hin 15 _ 65 rfl rfl).trans (hR.vals 15 (by decide) (hw 15 (by kernel_rfl))));refine Oper.wpW (aP (v:=.bool true) ?_ (hR.val 16 (by decide)));clear hin hout hw;go_simp
   first|done|rfl
  .intro D σ w1 a hnd hw hR hin hout hdf;have eg:a.eval (.tmp 66)=.bool true:=(hin 16 _ 66 rfl rfl).trans (hR.vals 16 (by decide) (hw 16 (by kernel_rfl)));have ey:=dS (j:=16) (d:=66) eg;refine⟨λ_=>?_,λe=>by simp only[Region.wanted]at e;rw[ey _ _ rfl rfl]at e;cases e⟩;have e0:(a.tmps[0]?).getD undef=.pointer (some ⟨d,0,none⟩):=(cD a 0).symm.trans ((hout 0 (by kernel_rfl)).trans (by kernel_rfl));refine Oper.wpW (aP (v:=.pointer (some ⟨d,0,none⟩)) ?_ (hR.val 17 (by decide)));clear hin hout hw;go_simp
   first|done|rfl
  .intro D σ w1 a hnd hw hR hin hout hdf;have eg:a.eval (.tmp 66)=.bool true:=(hin 16 _ 66 rfl rfl).trans (hR.vals 16 (by decide) (hw 16 (by kernel_rfl)));have ey:=dS (j:=16) (d:=66) eg;refine⟨λ_=>?_,λe=>by simp only[Region.wanted]at e;rw[ey _ _ rfl rfl]at e;cases e⟩;have e0:(a.tmps[0]?).getD undef=.pointer (some ⟨d,0,none⟩):=(cD a 0).symm.trans ((hout 0 (by kernel_rfl)).trans (by kernel_rfl));refine Oper.wpW (aP (v:=.pointer (some ⟨d,0,none⟩)) ?_ (hR.val 18 (by decide)));clear hin hout hw;go_simp
   first|done|rfl
  .intro D σ w1 a hnd hw hR hin hout hdf;have eg:a.eval (.tmp 66)=.bool true:=(hin 16 _ 66 rfl rfl).trans (hR.vals 16 (by decide) (hw 16 (by kernel_rfl)));have ey:=dS (j:=16) (d:=66) eg;refine⟨λ_=>?_,λe=>by simp only[Region.wanted]at e;rw[ey _ _ rfl rfl]at e;cases e⟩;have e9:(a.tmps[68]?).getD undef=.pointer (some ⟨d,0,none⟩):=(cD a 68).symm.trans ((hin 18 _ 68 rfl rfl).trans (hR.vals 18 (by decide) (hw 18 (by kernel_rfl))));refine Oper.wpW (aP (v:=.pointer (some ⟨d,0,none⟩)) ?_ (hR.val 19 (by decide)));clear hin hout hw;go_simp
   first|done|rfl
  .intro D σ w1 a hnd hw hR hin hout hdf;have eg:a.eval (.tmp 66)=.bool true:=(hin 16 _ 66 rfl rfl).trans (hR.vals 16 (by decide) (hw 16 (by kernel_rfl)));have ey:=dS (j:=16) (d:=66) eg;refine⟨λ_=>?_,λe=>by simp only[Region.wanted]at e;rw[ey _ _ rfl rfl]at e;cases e⟩;have f0:(a.tmps[69]?).getD undef=.pointer (some ⟨d,0,none⟩):=(cD a 69).symm.trans ((hin 19 _ 69 rfl rfl).trans (hR.vals 19 (by decide) (hw 19 (by kernel_rfl))));refine Oper.wpW (aP (v:=.pointer (some ⟨d,1,none⟩)) ?_ (hR.val 20 (by decide)));clear hin hout hw;go_simp
   first|done|rfl
  .intro D σ w1 a hnd hw hR hin hout hdf;have eg:a.eval (.tmp 66)=.bool true:=(hin 16 _ 66 rfl rfl).trans (hR.vals 16 (by decide) (hw 16 (by kernel_rfl)));have ey:=dS (j:=16) (d:=66) eg;refine⟨λ_=>?_,λe=>by simp only[Region.wanted]at e;rw[ey _ _ rfl rfl]at e;cases e⟩;have f2:(a.tmps[70]?).getD undef=.pointer (some ⟨d,1,none⟩):=(cD a 70).symm.trans ((hin 20 _ 70 rfl rfl).trans (hR.vals 20 (by decide) (hw 20 (by kernel_rfl))));refine Oper.wpW (aP (v:=.pointer (some ⟨d,7,none⟩)) ?_ (hR.val 21 (by decide)));clear hin hout hw;go_simp
   first|done|rfl
  .intro D σ w1 a hnd hw hR hin hout hdf;have eg:a.eval (.tmp 66)=.bool true:=(hin 16 _ 66 rfl rfl).trans (hR.vals 16 (by decide) (hw 16 (by kernel_rfl)));have ey:=dS (j:=16) (d:=66) eg;refine⟨λ_=>?_,λe=>by simp only[Region.wanted]at e;rw[ey _ _ rfl rfl]at e;cases e⟩;have f3:(a.tmps[71]?).getD undef=.pointer (some ⟨d,7,none⟩):=(cD a 71).symm.trans ((hin 21 _ 71 rfl rfl).trans (hR.vals 21 (by decide) (hw 21 (by kernel_rfl))));have hl:=(hR.below.cell (by exact jD)).trans z7;have iX:BlockLt d w1:=⟨zR jD hR.below.size⟩
   refine Oper.wpW (aP (v:=.string c.path2) ?_ (hR.val 22 (by decide)));clear hin hout hw;go_simp
   first|done|rfl
  .intro D σ w1 a hnd hw hR hin hout hdf;have eg:a.eval (.tmp 66)=.bool true:=(hin 16 _ 66 rfl rfl).trans (hR.vals 16 (by decide) (hw 16 (by kernel_rfl)));have ey:=dS (j:=16) (d:=66) eg;refine⟨λ_=>?_,λe=>by simp only[Region.wanted]at e;rw[ey _ _ rfl rfl]at e;cases e⟩;have e6:(a.tmps[6]?).getD undef=.int .i64 num:=(cD a 6).symm.trans ((hout 6 (by kernel_rfl)).trans (by kernel_rfl));refine Oper.wpW (aP (v:=.int .i64 num) ?_ (hR.val 23 (by decide)));clear hin hout hw;go_simp
   first|done|rfl
  .intro D σ w1 a hnd hw hR hin hout hdf;have eg:a.eval (.tmp 66)=.bool true:=(hin 16 _ 66 rfl rfl).trans (hR.vals 16 (by decide) (hw 16 (by kernel_rfl)));have ey:=dS (j:=16) (d:=66) eg;refine⟨λ_=>?_,λe=>by simp only[Region.wanted]at e;rw[ey _ _ rfl rfl]at e;cases e⟩;have f4:(a.tmps[67]?).getD undef=.pointer (some ⟨d,0,none⟩):=(cD a 67).symm.trans ((hin 17 _ 67 rfl rfl).trans (hR.vals 17 (by decide) (hw 17 (by kernel_rfl))));have f5:(a.tmps[72]?).getD undef=.string c.path2:=(cD a 72).symm.trans ((hin 22 _ 72 rfl rfl).trans (hR.vals 22 (by decide) (hw 22 (by kernel_rfl))));have f6:(a.tmps[73]?).getD undef=.int .i64 num:=(cD a 73).symm.trans ((hin 23 _ 73 rfl rfl).trans (hR.vals 23 (by decide) (hw 23 (by kernel_rfl))));refine Oper.wpW (aS 188 #[.pointer (some ⟨d,0,none⟩),.string c.path2,.int .i64 num] ?_ ((b3 w1 hR.below).mono ?_))
   .clear hin hout hw;go_simp
    first|done|rfl
   rintro e w' ⟨rfl,hqb⟩;exact⟨_,rfl,((hR.on hqb).val 24 (by decide))⟩
  .intro D σ w1 a hnd hw hR hin hout hdf;refine⟨λ_=>?_,λh=>absurd h (by simp[Region.wanted])⟩;have f7:(a.tmps[66]?).getD undef=.bool true:=(cD a 66).symm.trans ((hin 16 _ 66 rfl rfl).trans (hR.vals 16 (by decide) (hw 16 (by kernel_rfl))));have f8:(a.tmps[74]?).getD undef=.bool true:=(cD a 74).symm.trans ((hin 24 _ 74 rfl rfl).trans (hR.vals 24 (by decide) (hw 24 (by kernel_rfl))));refine Oper.wpW (aP (v:=.bool true) ?_ (hR.val 25 (by decide)));clear hin hout hw;go_simp
   first|done|rfl
  intro D σ w1 a hnd hw hR hin hout hdf;refine⟨λ_=>?_,λh=>absurd h (by simp[Region.wanted])⟩;have f9:(a.tmps[75]?).getD undef=.bool true:=(cD a 75).symm.trans ((hin 25 _ 75 rfl rfl).trans (hR.vals 25 (by decide) (hw 25 (by kernel_rfl))));intro nx _;refine Oper.wpX 172 #[.bool true,.int .i64 9] ?_ ((aO 9 w1).mono λe w' ⟨he,hb2⟩=>⟨_,he,hdf,c4.trans ((hR.below.trans (hb2.mono hR.below.size)).mono (zD hB hbz.size)),rfl⟩);clear hin hout hw;go_simp
  first|done|rfl
 intro σ w1 hR;exact absurd trivial hR.no
theorem cpC (w:World) (ty:TypeId) (g n cap:Nat) (l:List UInt8) (s:ByteArray) (h:Blk w g (bC l) 5) (hl:l.length=n) (hgt:n<=s.size):
 (Builtin.copy_ #[147,9] ty #[.slice (some ⟨g,0,none⟩) n cap,.string s]).run Tryz.prog w=.ok (.int .i64 n) (w.setRow g (bC (s.data.toList.take n))):=by
 obtain⟨i,hi,hz,h1,h2⟩:=info_parts aFM;have a3:(bC l).size=n:=by rw[rL,hl]
 have a2:(Lib.byteCells (s.data.toList.take n)).length=n:=by rw[Lib.byteCells_length,zU,<-Lib.size_eq];omega
 have a0:=run_storeCells_at Tryz.prog g 0 5 (Lib.byteCells (s.data.toList.take n)) 0 (bC l) w h (by rw[a2];omega) (Lib.byteCells_one _);have a1:Nat.min s.size n=n:=Nat.min_eq_right hgt;have a4:List.take n (List.map (λb:UInt8=>Value.int IntKind.u8 (b.toNat:Int)) s.data.toList)=Lib.byteCells (s.data.toList.take n):=by unfold Lib.byteCells;rw[List.map_take]
 have e:(List.take 0 (bC l).toList++Lib.byteCells (List.take n s.data.toList)++List.drop (0+n) (bC l).toList).toArray=bC (s.data.toList.take n):=by unfold bC;refine congrArg List.toArray ?_;rw[List.take_zero,List.nil_append,zS (by have:=a3;unfold bC at this;simp at this;simp;omega),List.append_nil]
 rw[a2]at a0;simp only[zN]at a0;rw[e]at a0;have a5:i.size=1:=h1;simp[Builtin.copy_,run_underlying Tryz.underlying147,Builtin.lenOf,Builtin.firstCells,sizeOf,typeInfo,hi,a1,a5];rw[a4,a0];rfl
def qJ (had:List UInt8) (n:Nat):List UInt8:=if had.length<=n then had++List.replicate (n-had.length) 0 else had.take n
def oL (had:ByteArray) (n:Nat):ByteArray:=⟨(qJ had.data.toList n).toArray⟩
theorem sW (had:List UInt8) (n:Nat):(qJ had n).length=n:=by
 unfold qJ;split
 .simp only[lP,yP];omega
 rw[zU];omega
theorem vM (had:ByteArray) (n g:Nat) (W:World) (hB:Blk W g (bC (List.replicate n 0)) 5):∃m0:TypeId->Int,∀ty,(Builtin.copy_ #[147,9] ty #[.slice (some ⟨g,0,none⟩) n n,.string had]).run Tryz.prog W=.ok (.int .i64 (m0 ty)) (W.setRow g (bC (qJ had.data.toList n))):=by
 have a0:had.data.toList.length=had.size:=rfl;have a1:∀ty,∃m:Int,(Builtin.copy_ #[147,9] ty #[.slice (some ⟨g,0,none⟩) n n,.string had]).run Tryz.prog W=.ok (.int .i64 m) (W.setRow g (bC (qJ had.data.toList n))):=λty=>by
  unfold qJ;by_cases hle:had.size<=n
  .rw[zB (by rw[a0];exact hle)];have:=cpN W ty g 0 n n (List.replicate n 0) had hB hle (by rw[yP];omega);simp only[List.take_zero,List.nil_append,zM,List.drop_replicate]at this;exact⟨_,this⟩
  rw[zA (by rw[a0];exact hle)];exact⟨_,cpC W ty g n n (List.replicate n 0) had hB yP (by omega)⟩
 exact⟨λty=>Classical.choose (a1 ty),λty=>Classical.choose_spec (a1 ty)⟩
theorem aRN (had:ByteArray) (n:Nat) (w:World) (hh:had.size<=1000000) (hn:n<=1000000):
 vR w 186 #[.string had,.int .i64 n] (.string (oL had n)):=by
 have a2:=λu=>mkN n (by omega) u;have a0:=vM had n;have a1:=sW had.data.toList n;unfold oL;generalize qJ had.data.toList n=L1 at a0 a1 |-;have HC:=aG a0;clear a0;go_enter Tryz.func186,Tryz.ntmps186;go_upto_region 2 with fail;refine aI (F:=λW=>Blk W w.heap.size (bC (List.replicate n 0)) 5/\Below w.heap.size w W) ⟨Blk.new _ _ _,bel _ _⟩ ?_;obtain⟨g,hg⟩:∃g,w.heap.size=g:=⟨_,rfl⟩;rw[hg];rintro W ⟨hB,hbW⟩;have iG:=hB.lt;obtain⟨m0,hm0⟩:=HC.out g W hB;have HW:=bB hB hbW;have HG:=aG hg;clear hB hbW hg a2;go_upto_region 3 with fail;refine aI (F:=λW2=>Blk W2 g (bC L1) 5/\Below g w W2) ⟨hU HW.out.1 _,kN HW.out.2 (zC _) _⟩ ?_;clear hm0 iG;rintro W2 ⟨hB2,hbW2⟩;have iG:=hB2.lt;have a4:=cvN W2 g n n L1 hB2 a1;have a3:=bB hB2 hbW2;clear hB2 hbW2;go_wp2_with fail;go_ret;exact⟨rfl,by rw[HG.out];exact a3.out.2⟩
def aUS (d:Nat) (OO1:Int) (SS1:ByteArray):Nat->Value
 |0=>.pointer (some ⟨d,0,none⟩)
 |1=>.pointer (some ⟨d,0,none⟩)
 |2=>.pointer (some ⟨d,1,none⟩)
 |3=>.pointer (some ⟨d,4,none⟩)
 |4=>.int .i64 OO1
 |5=>.pointer (some ⟨d,0,none⟩)
 |6=>.pointer (some ⟨d,0,none⟩)
 |7=>.pointer (some ⟨d,1,none⟩)
 |8=>.pointer (some ⟨d,8,none⟩)
 |9=>.string SS1
 |10=>.int .i64 SS1.size
 |11=>.int .i64 (OO1+SS1.size)
 |12=>.bool true
 |_=>undef
def jX (S:PSt) (c:PCall) (r:PRes):Except Int (PSt × PRes):=match dQ S c with
 |none=>.error 4
 |some y=>if(qF c.off&&qF (c.data.size:Int))=true then(if 256<c.off+c.data.size then .error 5 else .ok ({ S with ins:=S.ins.set y.1 { y.2 with data:=vA y.2.data c.off.toNat c.data}},{ r with num:=c.data.size}))else .error 9
def jY (S:PSt) (c:PCall) (r:PRes):Except Int (PSt × PRes):=match dQ S c with
 |none=>.error 4
 |some y=>if qF c.num=true then .ok ({ S with ins:=S.ins.set y.1 { y.2 with data:=oL y.2.data c.num.toNat}},r)else .error 9
theorem xR (B d b:Nat) (S:PSt) (c:PCall) (r:PRes) (w:World) (h:DoAt B w d b S c r) (hB:B<=w.heap.size) (hf:Fine S) (hk:c.kind=5) (hsz:∀x∈S.ins,x.data.size<=1000000) (hcd:c.data.size<=1000000000000000000):
 Calls Tryz.prog 146 #[.pointer (some ⟨d,0,none⟩)] w (bA B w d b c (jX S c r)):=by
 unfold jX;by_cases hin:(qF c.off&&qF (c.data.size:Int))=true
 .have a3:=hin;unfold qF at a3;simp only[zE,zI]at a3;obtain⟨⟨ho0,ho1⟩,hd0,hd1⟩:=a3;simp only[hin,if_true];by_cases hsum:256<c.off+c.data.size
  .simp only[hsum,if_true];obtain⟨bi,cap,ov,mv,nv,hP⟩:=h.part hf.pos;have ht:=hP.file hf;have iD:=hP.hD.lt;unfold oD at ht;generalize hX:dQ S c=X at ht |-;rcases X with _|⟨K,x⟩
   .simp only at ht |-
    go_enter Tryz.func146,Tryz.ntmps146;go_wp2_with(go_at_call 143;refine ht.mono ?_;rintro e w1 ⟨hb1,rfl⟩);exact⟨rfl,hb1.mono hB,rfl⟩
   simp only at ht |-;generalize cG (eD c) S.op=I at ht;have a0:=λww=>pG c.off ww;have a2:=λww=>pG (c.data.size:Int) ww;simp only[zE]at hin;rw[hin.1]at a0;rw[hin.2]at a2;have HP:=aG hP;clear h hP hX hsz;go_enter Tryz.func146,Tryz.ntmps146;go_upto_region 1 with(go_at_call 143;refine ht.mono ?_;rintro e w1 ⟨hb1,rfl⟩;have HB:=aG hb1;clear hb1)
   refine aI (F:=λwA=>DPart B wA d b bi cap ov mv nv S c r/\Below w.heap.size w wA) ⟨HP.out.below HB.out,HB.out⟩ ?_;clear ht iD HP HB;rintro wA ⟨hA,hbA⟩;have iD:=hA.hD.lt;have a1:wA.cell? ⟨d,1,none⟩=some (.int .i64 c.kind):=hA.hD.cell 1;rw[hk]at a1;have a4:wA.cell? ⟨d,4,none⟩=some (.int .i64 c.off):=hA.hD.cell 4;have a8:wA.cell? ⟨d,8,none⟩=some (.string c.data):=hA.hD.cell 8;have HA:=kL hA hbA a4 a8;clear hA hbA;go_upto_region 8 with(first|(go_at_call 183;with_reducible refine aE (a0 _) λp=>?_)|(go_at_call 183;with_reducible refine aE (a2 _) λp=>?_)|(go_at_call 172;with_reducible refine aE (aD _ _) λp=>?_))
   refine aI (F:=λwz=>Below wA.heap.size wA wz) (bel _ _) ?_;intro wz hbz;have z4:=(hbz.cell (p:=⟨d,4,none⟩) iD.lt).trans HA.out.2.2.1;have z8:=(hbz.cell (p:=⟨d,8,none⟩) iD.lt).trans HA.out.2.2.2;have a5:B<=wA.heap.size:=zD hB HA.out.2.1.size;have a6:Below B w wz:=(HA.out.2.1.mono hB).trans (hbz.mono a5);have a7:B<=wz.heap.size:=zD a5 hbz.size;have jD:=zR iD.lt hbz.size;have a9:IntKind.i64.wrap (c.off+c.data.size)=c.off+c.data.size:=I64.wrap ⟨by omega,by omega⟩;have b0:decide ((256:Int)<c.off+c.data.size)=true:=decide_eq_true hsum;clear a1 a4 a8;refine fK (RV 13 (aUS d c.off c.data) wz) (by kernel_rfl) (by kernel_rfl) (by kernel_rfl) ?_ ?_ ?_
   .intro σ;exact RV.zero (by decide) (bel wz _)
   .refine⟨?_,?_,?_,?_,?_,?_,?_,?_,?_,?_,?_,?_,?_,?_,trivial⟩
    .intro D σ w1 a hnd hw hR hin hout hdf;refine⟨λ_=>?_,λh=>absurd h (by simp[Region.wanted])⟩;have e0:(a.tmps[0]?).getD undef=.pointer (some ⟨d,0,none⟩):=(cD a 0).symm.trans ((hout 0 (by kernel_rfl)).trans (by kernel_rfl));refine Oper.wpW (aP (v:=.pointer (some ⟨d,0,none⟩)) ?_ (hR.val 0 (by decide)));clear hin hout hw;go_simp
     first|done|rfl
    .intro D σ w1 a hnd hw hR hin hout hdf;refine⟨λ_=>?_,λh=>absurd h (by simp[Region.wanted])⟩;have b1:(a.tmps[81]?).getD undef=.pointer (some ⟨d,0,none⟩):=(cD a 81).symm.trans ((hin 0 _ 81 rfl rfl).trans (hR.vals 0 (by decide) (hw 0 (by kernel_rfl))));refine Oper.wpW (aP (v:=.pointer (some ⟨d,0,none⟩)) ?_ (hR.val 1 (by decide)));clear hin hout hw;go_simp
     first|done|rfl
    .intro D σ w1 a hnd hw hR hin hout hdf;refine⟨λ_=>?_,λh=>absurd h (by simp[Region.wanted])⟩;have b2:(a.tmps[82]?).getD undef=.pointer (some ⟨d,0,none⟩):=(cD a 82).symm.trans ((hin 1 _ 82 rfl rfl).trans (hR.vals 1 (by decide) (hw 1 (by kernel_rfl))));refine Oper.wpW (aP (v:=.pointer (some ⟨d,1,none⟩)) ?_ (hR.val 2 (by decide)));clear hin hout hw;go_simp
     first|done|rfl
    .intro D σ w1 a hnd hw hR hin hout hdf;refine⟨λ_=>?_,λh=>absurd h (by simp[Region.wanted])⟩;have b3:(a.tmps[83]?).getD undef=.pointer (some ⟨d,1,none⟩):=(cD a 83).symm.trans ((hin 2 _ 83 rfl rfl).trans (hR.vals 2 (by decide) (hw 2 (by kernel_rfl))));refine Oper.wpW (aP (v:=.pointer (some ⟨d,4,none⟩)) ?_ (hR.val 3 (by decide)));clear hin hout hw;go_simp
     first|done|rfl
    .intro D σ w1 a hnd hw hR hin hout hdf;refine⟨λ_=>?_,λh=>absurd h (by simp[Region.wanted])⟩;have b4:(a.tmps[84]?).getD undef=.pointer (some ⟨d,4,none⟩):=(cD a 84).symm.trans ((hin 3 _ 84 rfl rfl).trans (hR.vals 3 (by decide) (hw 3 (by kernel_rfl))));have hl:=(hR.below.cell (by exact jD)).trans z4;have iX:BlockLt d w1:=⟨zR jD hR.below.size⟩
     refine Oper.wpW (aP (v:=.int .i64 c.off) ?_ (hR.val 4 (by decide)));clear hin hout hw;go_simp
     first|done|rfl
    .intro D σ w1 a hnd hw hR hin hout hdf;refine⟨λ_=>?_,λh=>absurd h (by simp[Region.wanted])⟩;have e0:(a.tmps[0]?).getD undef=.pointer (some ⟨d,0,none⟩):=(cD a 0).symm.trans ((hout 0 (by kernel_rfl)).trans (by kernel_rfl));refine Oper.wpW (aP (v:=.pointer (some ⟨d,0,none⟩)) ?_ (hR.val 5 (by decide)));clear hin hout hw;go_simp
     first|done|rfl
    .intro D σ w1 a hnd hw hR hin hout hdf;refine⟨λ_=>?_,λh=>absurd h (by simp[Region.wanted])⟩;have b5:(a.tmps[86]?).getD undef=.pointer (some ⟨d,0,none⟩):=(cD a 86).symm.trans ((hin 5 _ 86 rfl rfl).trans (hR.vals 5 (by decide) (hw 5 (by kernel_rfl))));refine Oper.wpW (aP (v:=.pointer (some ⟨d,0,none⟩)) ?_ (hR.val 6 (by decide)));clear hin hout hw;go_simp
     first|done|rfl
    .intro D σ w1 a hnd hw hR hin hout hdf;refine⟨λ_=>?_,λh=>absurd h (by simp[Region.wanted])⟩;have b6:(a.tmps[87]?).getD undef=.pointer (some ⟨d,0,none⟩):=(cD a 87).symm.trans ((hin 6 _ 87 rfl rfl).trans (hR.vals 6 (by decide) (hw 6 (by kernel_rfl))));refine Oper.wpW (aP (v:=.pointer (some ⟨d,1,none⟩)) ?_ (hR.val 7 (by decide)));clear hin hout hw;go_simp
     first|done|rfl
    .intro D σ w1 a hnd hw hR hin hout hdf;refine⟨λ_=>?_,λh=>absurd h (by simp[Region.wanted])⟩;have b7:(a.tmps[88]?).getD undef=.pointer (some ⟨d,1,none⟩):=(cD a 88).symm.trans ((hin 7 _ 88 rfl rfl).trans (hR.vals 7 (by decide) (hw 7 (by kernel_rfl))));refine Oper.wpW (aP (v:=.pointer (some ⟨d,8,none⟩)) ?_ (hR.val 8 (by decide)));clear hin hout hw;go_simp
     first|done|rfl
    .intro D σ w1 a hnd hw hR hin hout hdf;refine⟨λ_=>?_,λh=>absurd h (by simp[Region.wanted])⟩;have b8:(a.tmps[89]?).getD undef=.pointer (some ⟨d,8,none⟩):=(cD a 89).symm.trans ((hin 8 _ 89 rfl rfl).trans (hR.vals 8 (by decide) (hw 8 (by kernel_rfl))));have hl:=(hR.below.cell (by exact jD)).trans z8;have iX:BlockLt d w1:=⟨zR jD hR.below.size⟩
     refine Oper.wpW (aP (v:=.string c.data) ?_ (hR.val 9 (by decide)));clear hin hout hw;go_simp
     first|done|rfl
    .intro D σ w1 a hnd hw hR hin hout hdf;refine⟨λ_=>?_,λh=>absurd h (by simp[Region.wanted])⟩;have b9:(a.tmps[90]?).getD undef=.string c.data:=(cD a 90).symm.trans ((hin 9 _ 90 rfl rfl).trans (hR.vals 9 (by decide) (hw 9 (by kernel_rfl))));refine Oper.wpW (aP (v:=.int .i64 c.data.size) ?_ (hR.val 10 (by decide)));clear hin hout hw;go_simp
     first|done|rfl
    .intro D σ w1 a hnd hw hR hin hout hdf;refine⟨λ_=>?_,λh=>absurd h (by simp[Region.wanted])⟩;have c0:(a.tmps[85]?).getD undef=.int .i64 c.off:=(cD a 85).symm.trans ((hin 4 _ 85 rfl rfl).trans (hR.vals 4 (by decide) (hw 4 (by kernel_rfl))));have c1:(a.tmps[91]?).getD undef=.int .i64 c.data.size:=(cD a 91).symm.trans ((hin 10 _ 91 rfl rfl).trans (hR.vals 10 (by decide) (hw 10 (by kernel_rfl))));refine Oper.wpW (aP (v:=.int .i64 (c.off+c.data.size)) ?_ (hR.val 11 (by decide)));clear hin hout hw;go_simp
     first|done|rfl
    .intro D σ w1 a hnd hw hR hin hout hdf;refine⟨λ_=>?_,λh=>absurd h (by simp[Region.wanted])⟩;have c2:(a.tmps[92]?).getD undef=.int .i64 (c.off+c.data.size):=(cD a 92).symm.trans ((hin 11 _ 92 rfl rfl).trans (hR.vals 11 (by decide) (hw 11 (by kernel_rfl))));refine Oper.wpW (aP (v:=.bool true) ?_ (hR.val 12 (by decide)));clear hin hout hw;go_simp
     first|done|rfl
    intro D σ w1 a hnd hw hR hin hout hdf;refine⟨λ_=>?_,λh=>absurd h (by simp[Region.wanted])⟩;have c3:(a.tmps[93]?).getD undef=.bool true:=(cD a 93).symm.trans ((hin 12 _ 93 rfl rfl).trans (hR.vals 12 (by decide) (hw 12 (by kernel_rfl))));intro nx _;refine Oper.wpX 172 #[.bool true,.int .i64 5] ?_ ((aO 5 w1).mono λe w' ⟨he,hb2⟩=>⟨_,he,hdf,a6.trans ((hR.below.trans (hb2.mono hR.below.size)).mono a7),rfl⟩);clear hin hout hw;go_simp
    first|done|rfl
   intro σ w1 hR;exact absurd trivial hR.no
  simp only[hsum,if_false];have:=aBF B d b S c r w h hB hf hk ho0 (by omega) hsz;unfold aDR at this;exact this
 simp only[hin,if_false];obtain⟨bi,cap,ov,mv,nv,hP⟩:=h.part hf.pos;have ht:=hP.file hf;have iD:=hP.hD.lt;unfold oD at ht;generalize hX:dQ S c=X at ht |-;rcases X with _|⟨K,x⟩
 .simp only at ht |-
  go_enter Tryz.func146,Tryz.ntmps146;go_wp2_with(go_at_call 143;refine ht.mono ?_;rintro e w1 ⟨hb1,rfl⟩);exact⟨rfl,hb1.mono hB,rfl⟩
 simp only at ht |-;generalize cG (eD c) S.op=I at ht;have a0:=λww=>pG c.off ww;have a2:=λww=>pG (c.data.size:Int) ww;generalize qF c.off=i1 at hin a0;generalize qF (c.data.size:Int)=i2 at hin a2;have HP:=aG hP;clear h hP hX hsz;go_enter Tryz.func146,Tryz.ntmps146;go_upto_region 1 with(go_at_call 143;refine ht.mono ?_;rintro e w1 ⟨hb1,rfl⟩;have HB:=aG hb1;clear hb1)
 refine aI (F:=λwA=>DPart B wA d b bi cap ov mv nv S c r/\Below w.heap.size w wA) ⟨HP.out.below HB.out,HB.out⟩ ?_;clear ht iD HP HB;rintro wA ⟨hA,hbA⟩;have iD:=hA.hD.lt;have a1:wA.cell? ⟨d,1,none⟩=some (.int .i64 c.kind):=hA.hD.cell 1;rw[hk]at a1;have a4:wA.cell? ⟨d,4,none⟩=some (.int .i64 c.off):=hA.hD.cell 4;have a8:wA.cell? ⟨d,8,none⟩=some (.string c.data):=hA.hD.cell 8;have HA:=bB hA hbA;clear hA;rcases i1 with _|_
 .go_wp2_with(first|(go_at_call 183;with_reducible refine aE (a0 _) λp=>?_)|(go_at_call 172;with_reducible refine aE (aO _ _) λp=>?_))
  exact⟨rfl,(hbA.mono hB).trans ((bel wA _).mono (zD hB hbA.size)),rfl⟩
 rcases i2 with _|_
 .go_wp2_with(first|(go_at_call 183;with_reducible refine aE (a0 _) λp=>?_)|(go_at_call 183;with_reducible refine aE (a2 _) λp=>?_)|(go_at_call 172;with_reducible refine aE (aO _ _) λp=>?_))
  exact⟨rfl,(hbA.mono hB).trans ((bel wA _).mono (zD hB hbA.size)),rfl⟩
 exact absurd rfl hin
theorem aBG (B d b:Nat) (S:PSt) (c:PCall) (r:PRes) (w:World) (h:DoAt B w d b S c r) (hB:B<=w.heap.size) (hf:Fine S) (hk:c.kind=6) (hsz:∀x∈S.ins,x.data.size<=1000000):
 Calls Tryz.prog 146 #[.pointer (some ⟨d,0,none⟩)] w (bA B w d b c (jY S c r)):=by
 unfold jY;obtain⟨bi,cap,ov,mv,nv,hP⟩:=h.part hf.pos;have ht:=hP.file hf;have iD:=hP.hD.lt;unfold oD at ht;generalize hX:dQ S c=X at ht |-;rcases X with _|⟨K,x⟩
 .simp only at ht |-
  go_enter Tryz.func146,Tryz.ntmps146;go_wp2_with(go_at_call 143;refine ht.mono ?_;rintro e w1 ⟨hb1,rfl⟩);exact⟨rfl,hb1.mono hB,rfl⟩
 simp only at ht |-;obtain⟨hx,hKl⟩:=hY hX;have a8:=hsz x (mG hx);generalize cG (eD c) S.op=I at ht;have a0:=λww=>pG c.num ww;rcases hi:qF c.num with _|_
 .rw[hi]at a0;simp only[zP,if_false];have HP:=aG hP;clear h hP hX hsz
  go_enter Tryz.func146,Tryz.ntmps146;go_upto_region 1 with(go_at_call 143;refine ht.mono ?_;rintro e w1 ⟨hb1,rfl⟩;have HB:=aG hb1;clear hb1)
  refine aI (F:=λwA=>DPart B wA d b bi cap ov mv nv S c r/\Below w.heap.size w wA) ⟨HP.out.below HB.out,HB.out⟩ ?_;clear ht iD HP HB;rintro wA ⟨hA,hbA⟩;have iD:=hA.hD.lt;have a1:wA.cell? ⟨d,1,none⟩=some (.int .i64 c.kind):=hA.hD.cell 1;rw[hk]at a1;have a5:wA.cell? ⟨d,5,none⟩=some (.int .i64 c.num):=hA.hD.cell 5;clear hA;go_wp2_with(first|(go_at_call 183;with_reducible refine aE (a0 _) λp=>?_)|(go_at_call 172;with_reducible refine aE (aO _ _) λp=>?_));exact⟨rfl,(hbA.mono hB).trans ((bel wA _).mono (zD hB hbA.size)),rfl⟩
 rw[hi]at a0;simp only[if_true];have a2:=hi;unfold qF at a2;simp only[zE,zI]at a2;obtain⟨o,ho⟩:∃o:Nat,c.num=o:=⟨c.num.toNat,by omega⟩;have a3:=λww=>aRN x.data o ww (by omega) (by omega);have eo:c.num.toNat=o:=by omega
 rw[eo];rw[ho]at a0;generalize oL x.data o=z at a3 |-;have HO:=aG ho;clear eo ho hi a2;have HP:=aG hP;clear h hP hX hsz;go_enter Tryz.func146,Tryz.ntmps146;go_upto_region 1 with(go_at_call 143;refine ht.mono ?_;rintro e w1 ⟨hb1,rfl⟩;have HB:=aG hb1;clear hb1)
 refine aI (F:=λwA=>DPart B wA d b bi cap ov mv nv S c r/\Below w.heap.size w wA) ⟨HP.out.below HB.out,HB.out⟩ ?_;clear ht iD HP HB;rintro wA ⟨hA,hbA⟩;have iD:=hA.hD.lt;have a1:wA.cell? ⟨d,1,none⟩=some (.int .i64 c.kind):=hA.hD.cell 1;rw[hk]at a1;have a5:wA.cell? ⟨d,5,none⟩=some (.int .i64 c.num):=hA.hD.cell 5;rw[HO.out]at a5;obtain⟨iI,x0,x1,x3⟩:=hA.dat hx;obtain⟨hge,cc,hcc⟩:=hA.ge_bi hx;have f3:=hcc.frozen (K*4+3);have a6:¬bi=d:=hcc.ne_ hA.hD (by decide);have a7:¬d=bi:=λe=>a6 e.symm;have HA:=kL hA hbA hx hge;clear hA hbA hx hge hcc;go_upto_region 13 with(first|(go_at_call 183;with_reducible refine aE (a0 _) λp=>?_)|(go_at_call 172;with_reducible refine aE (aD _ _) λp=>?_))
 refine aC [10,13] true (λw'=>w'.cell? ⟨d,5,none⟩=some (.int .i64 o)/\w'.cell? ⟨bi,K*4+3,none⟩=some (.string x.data)) (by kernel_rfl) (by kernel_rfl) ?_ ?_
 · (try dsimp only);(repeat' apply And.intro)<;>go_simp
 repeat
  refine aH rfl rfl ?_;apply Exists.intro;refine⟨?_,?_⟩
  focus
   rintro w' ⟨s0,s1⟩;go_simp
   first|done|rfl
  simp only[Act.put,sA,sZ,sS]
 refine aZ rfl rfl ?_;refine aS 186 #[.string x.data,.int .i64 o] ?hr ?_
 case hr=>
  go_simp
  first|done|rfl
 refine aE (a3 _) λq1=>?_;refine⟨_,rfl,.inl ?_,?_⟩
 · (try dsimp only);(repeat' apply And.intro)<;>go_simp
 simp only[Act.put,sA,sZ,sS]
 repeat
  refine aH rfl rfl ?_;apply Exists.intro;refine⟨?_,?_⟩
  focus
   rintro w' ⟨s0,s1⟩;go_simp
   first|done|rfl
  simp only[Act.put,sA,sZ,sS]
 refine aU rfl rfl ?_;apply Exists.intro;refine⟨?_,.inr ⟨rfl,rfl⟩,?_⟩
 focus
  go_simp;rfl
 simp only[Act.put,sA,sZ,sS];refine aQ ?_;clear a5 x0 x1 x3;go_wp2_with fail;have a4:Below B w (wA.setCell ⟨bi,K*4+3,none⟩ (.string z)):=(HA.out.2.1.mono hB).setCell (p:=⟨bi,K*4+3,none⟩) HA.out.2.2.2 _;exact xC (v:=.tuple #[]) (by simp[results,go_sem]) rfl ⟨a4.trans ((bel _ _).mono (zD hB a4.size)),rfl,((HA.out.1.setData HA.out.2.2.1 z).below (bel _ _)).at_⟩
section
theorem vO (S:PSt):∀(l:List PDesc) (p:Option PDesc),fR S p l=true->(match p with|none=>True|some q=>q.fd<4)->((match p with|none=>0|some q=>q.core*4+q.fd+1:Int)<=(S.made.length:Int)*4)->(match p with|none=>0|some q=>q.core*4+q.fd+1:Int)+(l.length:Int)<=(S.made.length:Int)*4
 |[],p,_,_,h=>by simpa using h
 | d :: l, p,h,hq,hp=>by
   unfold fR at h;split at h
   .cases h
   split at h
   .cases h
   split at h
   .cases h
   split at h
   .cases h
   split at h
   .cases h
   split at h
   .cases h
   rename_i c0 c1 f0 f1 hpr _;split at h
   .split at h
    .cases h
    have ih:=vO S l (some d) h (by show d.fd<4;omega) (by show d.core*4+d.fd+1<=(S.made.length:Int)*4;omega);have a0:d.core*4+d.fd+1+(l.length:Int)<=(S.made.length:Int)*4:=ih;rw[zK];rcases p with _|q
    .show(0:Int)+((l.length+1:Nat):Int)<=_
     push_cast;omega
    show q.core*4+q.fd+1+((l.length+1:Nat):Int)<=_;have a1:q.fd<4:=hq;unfold kA at hpr;simp only[yI,zI,zE]at hpr;have a2:q.core*4+q.fd+1<=(S.made.length:Int)*4:=hp;push_cast;by_cases e:q.core=d.core
    .have:¬d.fd<=q.fd:=λh=>hpr (.inr ⟨e,h⟩)
     omega
    have:¬d.core<q.core:=λh=>hpr (.inl h);omega
   cases h
structure MayBounds (S:PSt):Prop where
 small:Small S
 op:S.op.length<=32
 data:∀x∈S.ins,x.data.size<=256
 made0:0<S.made.length
variable {S:PSt} {c:PCall}
theorem oM (hwf:S.wf) (hm:dB S=true):MayBounds S:=by
 have T:=nH hwf hm;have a0:=hm;unfold dB at a0;split at a0
 .rename_i h1
  simp only[zE]at h1;obtain⟨⟨hmd,_⟩,hop⟩:=h1;unfold cZ at hmd;simp only[zE,yL,yU,yV]at hmd;obtain⟨⟨m1,m8⟩,hall⟩:=hmd;refine⟨⟨T.small,λx hx=>zD (T.many x hx) (by decide),by omega,λm hm=>?_⟩,?_,T.data,by omega⟩
  .have:=List.any_eq_false.1 hall m hm;unfold dK at this;simp at this;omega
  have:=vO S S.op none hop trivial (by show(0:Int)<=(S.made.length:Int)*4;omega);have a1:(0:Int)+(S.op.length:Int)<=(S.made.length:Int)*4:=this;omega
 cases a0
def pK (S:PSt) (c:PCall) (r:PRes):Except Int (PSt × PRes):=if(aA c.path).1≠0 then .error (dN (aA c.path).1)else oX S c r
theorem aPP (B d b:Nat) (S:PSt) (c:PCall) (r:PRes) (w:World) (h:DoAt B w d b S c r) (hB:B<=w.heap.size) (hf:Fine S) (hop:S.op.length<=100000):
 Calls Tryz.prog 142 #[.pointer (some ⟨d,0,none⟩)] w (bA B w d b c (pK S c r)):=by
 unfold pK;by_cases hp:(aA c.path).1=0
 .rw[zA (by simpa using hp)];exact aSF B d b S c r w h hB hf hop hp (zD (cM hp) (by decide))
 rw[zB hp];have a0:∀ww,Below w.heap.size w ww->Calls Tryz.prog 178 #[.pointer (some ⟨d,0,none⟩),.string c.path] ww _:=λww hb=>aDO d b S c c.path ww (h.read.below hb (zC _)) hp;obtain⟨iv,ov,mv,nv,hBb,hBd,hD,hbk,hst,hnv⟩:=h;have d6:w.cell? ⟨d,6,none⟩=some (.string c.path):=hD.cell 6;have iD:=hD.lt;clear hD hbk hst hnv hf;go_enter Tryz.func142,Tryz.ntmps142;go_wp2_with(go_at_call 178;refine aE (a0 _ (bel _ _)) λp=>?_);exact⟨rfl,(bel w _).mono hB,rfl⟩
theorem aLS (B d b:Nat) (S:PSt) (c:PCall) (r:PRes) (w:World) (h:DoAt B w d b S c r) (hk:c.kind=0\/c.kind=1) (R:Except Int (PSt × PRes)) (ht:Calls Tryz.prog 141 #[.pointer (some ⟨d,0,none⟩)] w (bA B w d b c R)):
 Calls Tryz.prog 108 #[.pointer (some ⟨d,0,none⟩)] w (bA B w d b c R):=by
 obtain⟨iD,d1⟩:=h.kind;rcases hk with hk|hk
 all_goals
  rw[hk]at d1;clear h;rcases R with k|⟨S',r'⟩
  all_goals(go_enter Tryz.func108,Tryz.ntmps108)
  .go_wp2_with(go_at_call 141;refine ht.mono ?_;rintro e w1 ⟨hb1,hr1⟩;obtain rfl:e=bD k:=hr1)
   exact⟨rfl,hb1,rfl⟩
  go_wp2_with(go_at_call 141;refine ht.mono ?_;rintro e w1 ⟨hb1,hr1⟩;have a0:e=.returned (.tuple #[])/\DoAt B w1 d b S' c r':=hr1;clear hr1;obtain⟨rfl,hd1⟩:=a0;have HD:=aG hd1;clear hd1);exact xC (v:=.tuple #[]) (by simp[results,go_sem]) rfl ⟨hb1,rfl,HD.out⟩
theorem aDX (B d b:Nat) (S:PSt) (c:PCall) (r:PRes) (w:World) (h:DoAt B w d b S c r) (hk:c.kind=6) (R:Except Int (PSt × PRes)) (ht:Calls Tryz.prog 146 #[.pointer (some ⟨d,0,none⟩)] w (bA B w d b c R)):
 Calls Tryz.prog 108 #[.pointer (some ⟨d,0,none⟩)] w (bA B w d b c R):=by
 obtain⟨iD,d1⟩:=h.kind
 all_goals
  rw[hk]at d1;clear h;rcases R with k|⟨S',r'⟩
  all_goals(go_enter Tryz.func108,Tryz.ntmps108)
  .go_wp2_with(go_at_call 146;refine ht.mono ?_;rintro e w1 ⟨hb1,hr1⟩;obtain rfl:e=bD k:=hr1)
   exact⟨rfl,hb1,rfl⟩
  go_wp2_with(go_at_call 146;refine ht.mono ?_;rintro e w1 ⟨hb1,hr1⟩;have a0:e=.returned (.tuple #[])/\DoAt B w1 d b S' c r':=hr1;clear hr1;obtain⟨rfl,hd1⟩:=a0;have HD:=aG hd1;clear hd1);exact xC (v:=.tuple #[]) (by simp[results,go_sem]) rfl ⟨hb1,rfl,HD.out⟩
theorem aDY (B d b:Nat) (S:PSt) (c:PCall) (r:PRes) (w:World) (h:DoAt B w d b S c r) (hk:c.kind=8) (R:Except Int (PSt × PRes)) (ht:Calls Tryz.prog 147 #[.pointer (some ⟨d,0,none⟩)] w (bA B w d b c R)):
 Calls Tryz.prog 108 #[.pointer (some ⟨d,0,none⟩)] w (bA B w d b c R):=by
 obtain⟨iD,d1⟩:=h.kind
 all_goals
  rw[hk]at d1;clear h;rcases R with k|⟨S',r'⟩
  all_goals(go_enter Tryz.func108,Tryz.ntmps108)
  .go_wp2_with(go_at_call 147;refine ht.mono ?_;rintro e w1 ⟨hb1,hr1⟩;obtain rfl:e=bD k:=hr1)
   exact⟨rfl,hb1,rfl⟩
  go_wp2_with(go_at_call 147;refine ht.mono ?_;rintro e w1 ⟨hb1,hr1⟩;have a0:e=.returned (.tuple #[])/\DoAt B w1 d b S' c r':=hr1;clear hr1;obtain⟨rfl,hd1⟩:=a0;have HD:=aG hd1;clear hd1);exact xC (v:=.tuple #[]) (by simp[results,go_sem]) rfl ⟨hb1,rfl,HD.out⟩
theorem aBI (B d b:Nat) (S:PSt) (c:PCall) (r:PRes) (w:World) (h:DoAt B w d b S c r) (hk:c.kind=9\/c.kind=10) (R:Except Int (PSt × PRes)) (ht:Calls Tryz.prog 148 #[.pointer (some ⟨d,0,none⟩)] w (bA B w d b c R)):
 Calls Tryz.prog 108 #[.pointer (some ⟨d,0,none⟩)] w (bA B w d b c R):=by
 obtain⟨iD,d1⟩:=h.kind;rcases hk with hk|hk
 all_goals
  rw[hk]at d1;clear h;rcases R with k|⟨S',r'⟩
  all_goals(go_enter Tryz.func108,Tryz.ntmps108)
  .go_wp2_with(go_at_call 148;refine ht.mono ?_;rintro e w1 ⟨hb1,hr1⟩;obtain rfl:e=bD k:=hr1)
   exact⟨rfl,hb1,rfl⟩
  go_wp2_with(go_at_call 148;refine ht.mono ?_;rintro e w1 ⟨hb1,hr1⟩;have a0:e=.returned (.tuple #[])/\DoAt B w1 d b S' c r':=hr1;clear hr1;obtain⟨rfl,hd1⟩:=a0;have HD:=aG hd1;clear hd1);exact xC (v:=.tuple #[]) (by simp[results,go_sem]) rfl ⟨hb1,rfl,HD.out⟩
theorem aBJ (B d b:Nat) (S:PSt) (c:PCall) (r:PRes) (w:World) (h:DoAt B w d b S c r) (hk:c.kind=11) (R:Except Int (PSt × PRes)) (ht:Calls Tryz.prog 149 #[.pointer (some ⟨d,0,none⟩)] w (bA B w d b c R)):
 Calls Tryz.prog 108 #[.pointer (some ⟨d,0,none⟩)] w (bA B w d b c R):=by
 obtain⟨iD,d1⟩:=h.kind
 all_goals
  rw[hk]at d1;clear h;rcases R with k|⟨S',r'⟩
  all_goals(go_enter Tryz.func108,Tryz.ntmps108)
  .go_wp2_with(go_at_call 149;refine ht.mono ?_;rintro e w1 ⟨hb1,hr1⟩;obtain rfl:e=bD k:=hr1)
   exact⟨rfl,hb1,rfl⟩
  go_wp2_with(go_at_call 149;refine ht.mono ?_;rintro e w1 ⟨hb1,hr1⟩;have a0:e=.returned (.tuple #[])/\DoAt B w1 d b S' c r':=hr1;clear hr1;obtain⟨rfl,hd1⟩:=a0;have HD:=aG hd1;clear hd1);exact xC (v:=.tuple #[]) (by simp[results,go_sem]) rfl ⟨hb1,rfl,HD.out⟩
theorem aLT (hwf:S.wf) (hc:aMC c) (hm:fI S c=true) {B:Nat} {ww:World} {d b:Nat} (hd:DoAt B ww d b S c PRes.zero) (hB:B<=ww.heap.size):Calls Tryz.prog 108 #[.pointer (some ⟨d,0,none⟩)] ww (bA B ww d b c (kR S c)):=by
 have a0:=(mN hm).1;have hf:=gL hwf a0;have a1:=aBN a0;unfold kR;by_cases k4:c.kind=4
 .rw[zB k4];exact qO B d b S c PRes.zero ww hd (.inl k4) _ (aDP B d b S c PRes.zero ww hd hB hf k4 λx hx=>by have:=a1 x hx;omega)
 rw[zA k4];by_cases k7:c.kind=7
 .rw[zB k7];exact qO B d b S c PRes.zero ww hd (.inr (.inr k7)) _ (aDQ B d b S c PRes.zero ww hd hB hf k7)
 rw[zA k7];have hk:c.kind=12\/c.kind=13\/c.kind=14:=by
  rcases hc with h|h|h|h|h
  .exact absurd h k4
  .exact absurd h k7
  .exact .inl h
  .exact .inr (.inl h)
  exact .inr (.inr h)
 refine aMB B d b S c PRes.zero ww hd hk _ ?_;by_cases hp:(aA c.path).1=0
 .rw[zA (by simpa using hp)];have hl:=cM hp;rcases hk with k|k|k
  .rw[zB k];exact aJJ B d b S c PRes.zero ww hd hB hf k (by simp[PRes.zero]) hp (by omega)
  .rw[zA (by omega),zB k];exact aLC B d b S c PRes.zero ww hd hB hf k hp (by omega)
  rw[zA (by omega),zA (by omega)];exact aGA B d b S c PRes.zero ww hd hB hf k hp
 rw[zB hp];exact aTC B d b S c PRes.zero ww hd hB hp
def eH (S:PSt) (c:PCall):Except Int (PSt × PRes):=
 if c.kind=0\/c.kind=1 then gU S c PRes.zero else if c.kind=2 then pK S c PRes.zero else if c.kind=3 then kK S c PRes.zero else
 if c.kind=5 then jX S c PRes.zero else if c.kind=6 then jY S c PRes.zero else if c.kind=8 then mV S c PRes.zero else
 if c.kind=9\/c.kind=10 then gW S c PRes.zero else if c.kind=11 then gH S c PRes.zero else
 if c.kind=15 then kJ S c PRes.zero else if c.kind=16 then .ok (S,PRes.zero)else kR S c
def mK (S:PSt) (c:PCall):PSt × PRes:=doM S c (eH S c)
theorem aPQ (hwf:S.wf) (hcd:c.data.size<=1000000000000000000):Did S c (mK S c).1 (mK S c).2:=by
 refine aRQ (eH S c) hwf (by rfl) λhm B ww d b hd hB=>?_;obtain⟨hmay,hc0,hc1⟩:=mN hm;have hf:=gL hwf hmay;obtain⟨hs,hop,hdat,hmd⟩:=oM hwf hmay;have a0:∀x∈S.ins,x.data.size<=1000000:=λx hx=>by have:=hdat x hx;omega
 have hk:0<=c.kind/\c.kind<=16:=by unfold fI at hm;simp only[zE,zI]at hm;exact⟨hm.1.1.1.1,hm.1.1.1.2⟩
 unfold eH;by_cases k1:c.kind=0\/c.kind=1
 .rw[zB k1];exact aLS B d b S c PRes.zero ww hd k1 _ (aJI B d b S c PRes.zero ww hd hB hf hs hc0 hc1)
 rw[zA k1];by_cases k2:c.kind=2
 .rw[zB k2];exact aLW B d b S c PRes.zero ww hd k2 _ (aPP B d b S c PRes.zero ww hd hB hf (by omega))
 rw[zA k2];by_cases k3:c.kind=3
 .rw[zB k3];exact aFZ B d b S c PRes.zero ww hd hB hf k3
 rw[zA k3];by_cases k5:c.kind=5
 .rw[zB k5];exact qO B d b S c PRes.zero ww hd (.inr (.inl k5)) _ (xR B d b S c PRes.zero ww hd hB hf k5 a0 hcd)
 rw[zA k5];by_cases k6:c.kind=6
 .rw[zB k6];exact aDX B d b S c PRes.zero ww hd k6 _ (aBG B d b S c PRes.zero ww hd hB hf k6 a0)
 rw[zA k6];by_cases k8:c.kind=8
 .rw[zB k8];exact aDY B d b S c PRes.zero ww hd k8 _ (aQG B d b S c PRes.zero ww hd hB hf hs hmd)
 rw[zA k8];by_cases k9:c.kind=9\/c.kind=10
 .rw[zB k9];exact aBI B d b S c PRes.zero ww hd k9 _ (aOM B d b S c PRes.zero ww hd hB hf hs hmd)
 rw[zA k9];by_cases k11:c.kind=11
 .rw[zB k11];exact aBJ B d b S c PRes.zero ww hd k11 _ (aKN B d b S c PRes.zero ww hd hB hf hs hmd)
 rw[zA k11];by_cases k15:c.kind=15
 .rw[zB k15];exact aKU B d b S c PRes.zero ww hd hB hf k15
 rw[zA k15];by_cases k16:c.kind=16
 .rw[zB k16];exact aOS B d b S c PRes.zero ww hd hB k16
 rw[zA k16];exact aLT hwf (show aMC c by unfold aMC;omega) hm hd hB
end
end Go.Proofs.YtmkapobnfigedaaGreatDoor
