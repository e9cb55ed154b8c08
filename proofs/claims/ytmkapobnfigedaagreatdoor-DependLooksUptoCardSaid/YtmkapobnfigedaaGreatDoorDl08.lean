/- Part of the proof of a law of chapter 15. Conditions: none. -/
import Derived.Test.YtmkapobnfigedaaGreatDoorDl06
import Derived.Test.YtmkapobnfigedaaGreatDoorDl07
set_option linter.unusedVariables false
set_option linter.unusedSimpArgs false
set_option maxRecDepth 100000
set_option maxHeartbeats 8000000
namespace Go.Proofs.YtmkapobnfigedaaGreatDoor
open Go.RowKit
section
structure PCall where
 kind:Int
 core:Int
 fd:Int
 off:Int
 num:Int
 path:ByteArray
 path2:ByteArray
 data:ByteArray
deriving DecidableEq
def PCall.cells (c:PCall):List Value:=[.int .i64 c.kind,.int .i64 c.core,.int .i64 c.fd,.int .i64 c.off,.int .i64 c.num,.string c.path,.string c.path2,.string c.data]
def PCall.val (c:PCall):Value:=.agg #[.int .i64 c.kind,.int .i64 c.core,.int .i64 c.fd,.int .i64 c.off,.int .i64 c.num,.string c.path,.string c.path2,.string c.data]
def PCall.wf (c:PCall):Prop:=I64 c.kind/\I64 c.core/\I64 c.fd/\I64 c.off/\I64 c.num
structure DR (w:World) (d b:Nat) (S:PSt) (c:PCall):Prop where
 lt:d<w.heap.size
 d0:w.cell? ⟨d,0,none⟩=some (.pointer (some ⟨b,0,none⟩))
 dc:∀(t:Nat) (u:Value),c.cells[t]? =some u->w.cell? ⟨d,1+t,none⟩=some u
 sp:SP w b S
variable {S:PSt}
theorem DR.below {w w':World} {d b B:Nat} {c:PCall} (h:DR w d b S c) (hb:Below B w w') (hB:w.heap.size<=B):DR w' d b S c:=by have hs:=hb.size;have hl:=h.lt;exact⟨by omega,(hb.cell (p:=⟨d,0,none⟩) (by show d<B;omega)).trans h.d0,λt u hu=>(hb.cell (p:=⟨d,1+t,none⟩) (by show d<B;omega)).trans (h.dc t u hu),h.sp.below hb hB⟩
structure Fine (S:PSt):Prop where
 wf:S.wf
 pos:0<S.ins.length
 find:∀x∈S.ins,∀e∈x.ents,0<=aJ S.nums e.num
 opens:∀d∈S.op,0<=aJ S.nums d.num
theorem sX (S:PSt):∀(ds:List PDesc) (p:Option PDesc),fR S p ds=true->∀d∈ds,0<=aJ S.nums d.num
 |[],_,_,d,hd=>by simp at hd
 | x ::ds,p,h,d,hd=>by
   unfold fR at h;split at h
   .simp at h
   split at h
   .simp at h
   split at h
   .simp at h
   split at h
   .simp at h
   split at h
   .simp at h
   split at h
   .simp at h
   rename_i h6;rcases List.mem_cons.1 hd with rfl|hd
   .omega
   split at h
   .split at h
    .simp at h
    exact sX S ds _ h d hd
   simp at h
theorem gL (hwf:S.wf) (h:dB S=true):Fine S:=by
 unfold dB at h;split at h
 .rename_i h1
  simp only[zE]at h1;exact⟨hwf,(aAM h1.1.1 h1.1.2).1,rT h1.1.2,sX S _ _ h1.2⟩
 simp at h
theorem eT (hf:Fine S):∀(ns:List ByteArray) (k:Nat),k<S.ins.length->(aL S k ns).1<S.ins.length
 |[],k,hk=>hk
 | n ::r,k,hk=>by
   unfold aL;rw[gE hk];simp only;split
   .split
    .split
     .rename_i e he
      have h0:=hf.find S.ins[k] (List.getElem_mem hk) e (mG he);have hb:=cE S.nums e.num;have a0:S.nums.length=S.ins.length:=by unfold PSt.nums;rw[lM]
      exact eT hf r _ (by omega)
     exact hf.pos
    exact hf.pos
   exact hf.pos
def AtOut (w:World) (b:Nat) (S:PSt) (K:Nat) (C:Int) (e:Ending):Prop:=
 (C=0/\∃bi off cap,w.cell? ⟨b,0,none⟩=some (.slice (some ⟨bi,off,none⟩) S.ins.length cap)/\e=.returned (.pointer (some ⟨bi,off+K*4,none⟩)))\/(C≠0/\e=bD C)
theorem aMF (d b:Nat) (S:PSt) (c:PCall) (s:ByteArray) (w:World) (h:DR w d b S c) (hf:Fine S) (hp:(aA s).1=0) (hpl:(aA s).2.length<=1000000000):
 Calls Tryz.prog 178 #[.pointer (some ⟨d,0,none⟩),.string s] w λe w'=>Below w.heap.size w w'/\AtOut w b S (aL S 0 (aA s).2).1 (aL S 0 (aA s).2).2 e:=by
 have a2:∀ww,Calls Tryz.prog 198 #[.string s] ww λe w'=>∃v,e=.returned v/\Below ww.heap.size ww w'/\RowAt w' 1 v ((aA s).2.map λn=>[.string n]):=λww=>by
  refine(uP s ww).mono ?_;intro e w' h;rcases h with⟨_,v,h1,h2,h3⟩|⟨h,_⟩
  .exact⟨v,h1,h2,h3⟩
  exact absurd hp h
 have a3:∀ww v,Below w.heap.size w ww->RowAt ww 1 v ((aA s).2.map λn=>[.string n])->Calls Tryz.prog 191 #[.pointer (some ⟨b,0,none⟩),v] ww _:=λww v hb hv=>sM b S (aA s).2 v ww (h.sp.below hb (zC _)) hf.wf hf.pos hf.find hv hpl;have a4:=eT hf (aA s).2 0 hf.pos;have a5:=h.d0;have iD:BlockLt d w:=⟨h.lt⟩;obtain⟨hl,iv,ov,mv,c0,c1,c2,hr⟩:=h.sp;have iL:BlockLt b w:=⟨hl⟩;obtain⟨ai,capi,rfl,hati⟩:=hr.ins_at2;obtain⟨bi,offi,ev,rfl,-⟩:=hati 0 S.ins[0] (gE hf.pos);generalize aL S 0 (aA s).2=W at a3 a4 |-;obtain⟨K,C⟩:=W;simp only at a3 a4 |-;have HP:=bB a2 a3;have a6:=hf.wf.1;clear a2 a3 h hr hati c1 c2 hp hpl;have a9:(K:Int)<S.ins.length:=by omega
 go_enter Tryz.func178,Tryz.ntmps178;go_upto_region 1 with fail;refine aC [5,6] false (λw'=>w'.cell? ⟨d,0,none⟩=some (.pointer (some ⟨b,0,none⟩))) (by kernel_rfl) (by kernel_rfl) ?_ ?_
 .go_simp
 repeat
  refine aH rfl rfl ?_;apply Exists.intro;refine⟨?_,?_⟩
  focus
   rintro w' s0;go_simp
   first|done|rfl
  simp only[Act.put,sA,sZ,sS]
 refine aZ rfl rfl ?_;refine aS 198 #[.string s] ?hr ?_
 case hr=>
  go_simp
  first|done|rfl
 refine(HP.out.1 w.drew).mono ?_;rintro e w1 ⟨v,rfl,hb1,hv1⟩;have a1:Below w.heap.size w w1:=(bel w w.drew).trans hb1;have b0:Bel w w1:=⟨a1⟩;have b1:BlockLt d w1:=⟨by have:=a1.size;have:=iD.lt;omega⟩;have x0:w1.cell? ⟨d,0,none⟩=some (.pointer (some ⟨b,0,none⟩)):=(a1.cell (p:=⟨d,0,none⟩) iD.lt).trans a5;have a7:=hv1.one;refine⟨_,rfl,.inl x0,?_⟩;simp only[Act.put,sA,sZ,sS];refine aZ rfl rfl ?_;refine aS 191 #[.pointer (some ⟨b,0,none⟩),v] ?hr2 ?_
 case hr2=>
  go_simp
  first|done|rfl
 refine(HP.out.2 w1 v a1 hv1).mono ?_;rintro e w2 ⟨rfl,hb2⟩;have a0:Below w.heap.size w w2:=a1.trans (hb2.mono a1.size);have b2:Bel w w2:=⟨a0⟩;have b3:BlockLt d w2:=⟨by have:=a0.size;have:=iD.lt;omega⟩;have b4:BlockLt b w2:=⟨by have:=a0.size;have:=iL.lt;omega⟩;have y0:w2.cell? ⟨d,0,none⟩=some (.pointer (some ⟨b,0,none⟩)):=(a0.cell (p:=⟨d,0,none⟩) iD.lt).trans a5;have z0:w2.cell? ⟨b,0,none⟩=some (.slice (some ⟨bi,offi,none⟩) S.ins.length capi):=(a0.cell (p:=⟨b,0,none⟩) iL.lt).trans c0;have a8:=aG c0;clear hv1 hb1 hb2 c0;refine⟨_,rfl,.inl y0,?_⟩;simp only[Act.put,sA,sZ,sS]
 repeat
  refine aH rfl rfl ?_;apply Exists.intro;refine⟨?_,?_⟩
  focus
   rintro w' s0;go_simp
   first|done|rfl
  simp only[Act.put,sA,sZ,sS]
 refine aQ ?_;by_cases hC:C=0
 .subst hC;go_wp2_with((go_at_call 172;refine aE (aD _ _) λp=>?_))
  go_ret;exact⟨bel w _,.inl ⟨rfl,_,_,_,a8.out,rfl⟩⟩
 have b5:(C !=0)=true:=by simpa using hC
 go_wp2_with((go_at_call 172;refine aE (aO _ _) λp=>?_));exact⟨rfl,bel w _,.inr ⟨hC,rfl⟩⟩
def fI (S:PSt) (c:PCall):Bool:=decide (0<=c.kind)&&decide (c.kind<=16)&&decide (0<=c.core)&&decide (c.core<S.made.length)&&dB S
theorem aTQ (b k:Nat) (S:PSt) (c:PCall) (w:World) (h:SP w b S) (hwf:S.wf) (hk:k<w.heap.size) (hc:∀(t:Nat) (u:Value),c.cells[t]? =some u->w.cell? ⟨k,t,none⟩=some u):
 vR w 105 #[.pointer (some ⟨b,0,none⟩),.pointer (some ⟨k,0,none⟩)] (.bool (fI S c)):=by
 have iK:BlockLt k w:=⟨hk⟩;have k0:=hc 0 _ rfl;have k1:=hc 1 _ rfl;obtain⟨hl,iv,ov,mv,c0,c1,c2,hr⟩:=h;have iL:BlockLt b w:=⟨hl⟩;have a0:∀ww,Below w.heap.size w ww->Calls Tryz.prog 39 #[.agg #[iv,ov,mv]] ww _:=λww hb=>aCE iv ov mv S ww (hr.below hb (zC _)) hwf;have a1:iv.oneCell'=true:=by obtain⟨_,_,_,h3,_⟩:=hr;exact h3.one
 have a2:=hr.1.one;obtain⟨am,cm,rfl,-⟩:=hr.2.1;rw[lM]at c2 a0;unfold fI;generalize dB S=M at a0 |-;clear hr hc hwf;by_cases g1:0<=c.kind
 .have b1:decide (0<=c.kind)=true:=decide_eq_true g1;by_cases g2:c.kind<=16
  .have b2:decide (c.kind<=16)=true:=decide_eq_true g2;by_cases g3:0<=c.core
   .have b3:decide (0<=c.core)=true:=decide_eq_true g3;by_cases g4:c.core<S.made.length
    .have b4:decide (c.core<(S.made.length:Int))=true:=decide_eq_true g4;simp only[b1,b2,b3,b4,xA]
     go_enter Tryz.func105,Tryz.ntmps105;go_wp2_with fail;refine qR ?_
     repeat(go_big_quiet_step ((first|refine cI (a0 _ (bel _ _))|refine cJ (a0 _ (bel _ _)))))
     refine QN λp=>?_;go_wp2_with fail;go_ret;exact⟨rfl,bel _ _⟩
    have b4:decide (c.core<(S.made.length:Int))=false:=yM g4;simp only[b1,b2,b3,b4,xA,yJ];go_enter Tryz.func105,Tryz.ntmps105;go_wp2_with fail;refine qR ?_
    repeat(go_big_quiet_step (fail))
    refine QN λp=>?_;go_wp2_with fail;go_ret;exact⟨rfl,bel _ _⟩
   have b3:decide (0<=c.core)=false:=yM g3;simp only[b1,b2,b3,xA,yJ];go_enter Tryz.func105,Tryz.ntmps105;go_wp2_with fail;refine qR ?_
   repeat(go_big_quiet_step (fail))
   refine QN λp=>?_;go_wp2_with fail;go_ret;exact⟨rfl,bel _ _⟩
  have b2:decide (c.kind<=16)=false:=yM g2;simp only[b1,b2,xA,yJ];go_enter Tryz.func105,Tryz.ntmps105;go_wp2_with fail;refine qR ?_
  repeat(go_big_quiet_step (fail))
  refine QN λp=>?_;go_wp2_with fail;go_ret;exact⟨rfl,bel _ _⟩
 have b1:decide (0<=c.kind)=false:=yM g1;simp only[b1,yJ];go_enter Tryz.func105,Tryz.ntmps105;go_wp2_with fail;refine qR ?_
 repeat(go_big_quiet_step (fail))
 refine QN λp=>?_;go_wp2_with fail;go_ret;exact⟨rfl,bel _ _⟩
end
end Go.Proofs.YtmkapobnfigedaaGreatDoor
