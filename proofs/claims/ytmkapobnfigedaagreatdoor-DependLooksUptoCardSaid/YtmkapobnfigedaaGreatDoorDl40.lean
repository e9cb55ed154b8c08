/- Part of the proof of a law of chapter 15. Conditions: none. -/
import Derived.Test.YtmkapobnfigedaaGreatDoorDl39
set_option linter.unusedVariables false
set_option linter.unusedSimpArgs false
set_option maxRecDepth 100000
set_option maxHeartbeats 8000000
namespace Go.Proofs.YtmkapobnfigedaaGreatDoor
open Go.RowKit
section
section
variable {w0 w w' w1 w2:World} {S S':PSt} {c:PCall} {bs bh bc:Nat} {ks:List PKey}
theorem GAt.facts (h:GAt w0 w S S' c bs bh bc ks):BlockLt w0.heap.size w/\w.cell? ⟨w0.heap.size,0,none⟩=some (.pointer (some ⟨bs,0,none⟩))/\w.cell? ⟨w0.heap.size,1,none⟩=some (.pointer (some ⟨bh,0,none⟩))/\w.cell? ⟨w0.heap.size,2,none⟩=some (.pointer (some ⟨bc,0,none⟩))/\BlockLt bc w/\(∀(t:Nat) (u:Value),c.cells[t]? =some u->w.cell? ⟨bc,t,none⟩=some u)/\w.cell? ⟨bc,1,none⟩=some (.int .i64 c.core)/\w.cell? ⟨bc,5,none⟩=some (.string c.path)/\w.cell? ⟨bc,6,none⟩=some (.string c.path2)/\w.cell? ⟨bc,7,none⟩=some (.string c.data):=by obtain⟨out,hg,-⟩:=h.own;have cp:∀(t:Nat) (u:Value),c.cells[t]? =some u->w.cell? ⟨bc,t,none⟩=some u:=λt u hu=>(h.below.cell (p:=⟨bc,t,none⟩) h.cp.1).trans (h.cp.2 t u hu);exact⟨hg.lt,hg.cell 0,hg.cell 1,hg.cell 2,⟨zR h.cp.1 h.below.size⟩,cp,cp 1 _ rfl,cp 5 _ rfl,cp 6 _ rfl,cp 7 _ rfl⟩
theorem oS (ok:GatherOk S c) (hwf:S.wf):IntKind.i64.wrap (-1-c.core)=-1-c.core:=by have:=ok.core;have:=hwf.2.2.1;exact I64.wrap (by unfold I64;omega)
theorem oT (p:ByteArray) (hp:jZ p):(iH S p).length<=10/\(eK S p).length<=11:=by have:=cM hp.1;unfold eK iH aBM;rw[lP,lM,List.length_range];exact⟨by omega,by simp;omega⟩
theorem vU (h:GAt w0 w S S' c bs bh bc ks) (hl:ks.length<=1000) (hwf:S.wf) (hwf':S'.wf) (ok:GatherOk S c) (hk:c.kind=0\/c.kind=1):
 Calls Tryz.prog 74 #[.pointer (some ⟨w0.heap.size,0,none⟩)] w λe w'=>e=.returned (.bool true)/\GAt w0 w' S S' c bs bh bc (ks++((eK S c.path++eC S' c.path)++[⟨-1-c.core,⟨#[]⟩⟩])):=by
 rcases hk with hk|hk
 iterate 2
  obtain⟨iG0,ga0,gb0,gc0,iC0,cp0,cc0,cf0,cg0,cd0⟩:=h.facts;have ck:w.cell? ⟨bc,0,none⟩=some (.int .i64 c.kind):=cp0 0 _ rfl;have a0:=ok.core;have a4:=hwf.2.2.1;have ew:=oS ok hwf;have lw:=@oT S;have a1:=mS h (by omega) hwf (ok.path (by omega));clear cp0;go_enter Tryz.func74,Tryz.ntmps74;go_upto_region 6 with(go_at_call 109;refine a1.mono ?_;rintro e w1 ⟨rfl,hg1,hk1⟩)
  obtain⟨iG1,ga1,gb1,gc1,iC1,cp1,cc1,cf1,cg1,cd1⟩:=hg1.facts;have a2:=mR (hg1.later (bel w1 w1.drew)) (by simp only[lP];have q2:=(lw c.path (ok.path (by omega))).2;omega) hg1.sh hwf' c.path;refine aC [12] true (λw'=>w'.cell? ⟨w0.heap.size,1,none⟩=some (.pointer (some ⟨bh,0,none⟩))/\w'.cell? ⟨w0.heap.size,2,none⟩=some (.pointer (some ⟨bc,0,none⟩))/\w'.cell? ⟨bc,5,none⟩=some (.string c.path)) (by kernel_rfl) (by kernel_rfl) ?_ ?_
  · (try dsimp only);(repeat' apply And.intro)<;>go_simp
  repeat
   refine aH rfl rfl ?_;apply Exists.intro;refine⟨?_,?_⟩
   focus
    rintro w' ⟨s0,s1,s2⟩;go_simp
    first|done|rfl
   simp only[Act.put,sA,sZ,sS]
  refine aZ rfl rfl ?_;refine aS 110 #[.pointer (some ⟨w0.heap.size,0,none⟩),.pointer (some ⟨bh,0,none⟩),.string c.path] ?_ ((a2).mono ?_)
  .go_simp
   first|done|rfl
  rintro e w2 ⟨rfl,hg2,hk2⟩;refine⟨_,rfl,.inr ⟨rfl,rfl⟩,?_⟩;refine aQ ?_;obtain⟨iG2,ga2,gb2,gc2,iC2,cp2,cc2,cf2,cg2,cd2⟩:=hg2.facts;have a3:=iP hg2 (by simp only[lP];have q2:=(lw c.path (ok.path (by omega))).2;simp only[eC,zK,yW];omega) (-1-c.core) ⟨#[]⟩;go_wp2_with(go_at_call 113;refine a3.mono ?_;rintro e w3 ⟨rfl,hg3,hk3⟩);go_ret;refine⟨rfl,?_⟩;simpa only[yS]using hg3
theorem aIT (h:GAt w0 w S S' c bs bh bc ks) (hl:ks.length<=1000) (hwf:S.wf) (hwf':S'.wf) (ok:GatherOk S c) (hk:c.kind=2):
 Calls Tryz.prog 74 #[.pointer (some ⟨w0.heap.size,0,none⟩)] w λe w'=>e=.returned (.bool true)/\GAt w0 w' S S' c bs bh bc (ks++((iH S c.path++eC S c.path)++[⟨-1-c.core,⟨#[]⟩⟩])):=by
 obtain⟨iG0,ga0,gb0,gc0,iC0,cp0,cc0,cf0,cg0,cd0⟩:=h.facts;have ck:w.cell? ⟨bc,0,none⟩=some (.int .i64 2):=by rw[<-hk];exact cp0 0 _ rfl
 have a0:=ok.core;have a4:=hwf.2.2.1;have ew:=oS ok hwf;have lw:=@oT S;have a1:=aAE h (by omega) hwf (ok.path (by omega));clear cp0;go_enter Tryz.func74,Tryz.ntmps74;go_upto_region 9 with(go_at_call 111;refine a1.mono ?_;rintro e w1 ⟨rfl,hg1,hk1⟩)
 obtain⟨iG1,ga1,gb1,gc1,iC1,cp1,cc1,cf1,cg1,cd1⟩:=hg1.facts;have a2:=mR (hg1.later (bel w1 w1.drew)) (by simp only[lP];have q1:=(lw c.path (ok.path (by omega))).1;omega) hg1.sp hwf c.path;refine aC [12] true (λw'=>w'.cell? ⟨w0.heap.size,0,none⟩=some (.pointer (some ⟨bs,0,none⟩))/\w'.cell? ⟨w0.heap.size,2,none⟩=some (.pointer (some ⟨bc,0,none⟩))/\w'.cell? ⟨bc,5,none⟩=some (.string c.path)) (by kernel_rfl) (by kernel_rfl) ?_ ?_
 · (try dsimp only);(repeat' apply And.intro)<;>go_simp
 repeat
  refine aH rfl rfl ?_;apply Exists.intro;refine⟨?_,?_⟩
  focus
   rintro w' ⟨s0,s1,s2⟩;go_simp
   first|done|rfl
  simp only[Act.put,sA,sZ,sS]
 refine aZ rfl rfl ?_;refine aS 110 #[.pointer (some ⟨w0.heap.size,0,none⟩),.pointer (some ⟨bs,0,none⟩),.string c.path] ?_ ((a2).mono ?_)
 .go_simp
  first|done|rfl
 rintro e w2 ⟨rfl,hg2,hk2⟩;refine⟨_,rfl,.inr ⟨rfl,rfl⟩,?_⟩;refine aQ ?_;obtain⟨iG2,ga2,gb2,gc2,iC2,cp2,cc2,cf2,cg2,cd2⟩:=hg2.facts;have a3:=iP hg2 (by simp only[lP];have q1:=(lw c.path (ok.path (by omega))).1;simp only[eC,zK,yW];omega) (-1-c.core) ⟨#[]⟩;go_wp2_with(go_at_call 113;refine a3.mono ?_;rintro e w3 ⟨rfl,hg3,hk3⟩);go_ret;refine⟨rfl,?_⟩;simpa only[yS]using hg3
theorem vV (h:GAt w0 w S S' c bs bh bc ks) (hl:ks.length<=1000) (hwf:S.wf) (hwf':S'.wf) (ok:GatherOk S c) (hk:c.kind=3\/c.kind=6):
 Calls Tryz.prog 74 #[.pointer (some ⟨w0.heap.size,0,none⟩)] w λe w'=>e=.returned (.bool true)/\GAt w0 w' S S' c bs bh bc (ks++(gC S c++[⟨-1-c.core,⟨#[]⟩⟩])):=by
 rcases hk with hk|hk
 iterate 2
  obtain⟨iG0,ga0,gb0,gc0,iC0,cp0,cc0,cf0,cg0,cd0⟩:=h.facts;have ck:w.cell? ⟨bc,0,none⟩=some (.int .i64 c.kind):=cp0 0 _ rfl;have a0:=ok.core;have a3:=hwf.2.2.1;have ew:=oS ok hwf;have lw:=@oT S;have a1:=vT h (by omega) hwf (ok.fd (by omega));clear cp0;go_enter Tryz.func74,Tryz.ntmps74;go_upto_region 29 with(go_at_call 112;refine a1.mono ?_;rintro e w1 ⟨rfl,hg1,hk1⟩)
  obtain⟨iG1,ga1,gb1,gc1,iC1,cp1,cc1,cf1,cg1,cd1⟩:=hg1.facts;have a2:=iP hg1 (by simp only[lP];simp only[gC,zK,yW];omega) (-1-c.core) ⟨#[]⟩;go_wp2_with(go_at_call 113;refine a2.mono ?_;rintro e w2 ⟨rfl,hg2,hk2⟩);go_ret;refine⟨rfl,?_⟩;simpa only[yS]using hg2
theorem aIU (h:GAt w0 w S S' c bs bh bc ks) (hl:ks.length<=1000) (hwf:S.wf) (hwf':S'.wf) (ok:GatherOk S c) (hk:c.kind=5) (hd:c.data.size≠0):
 Calls Tryz.prog 74 #[.pointer (some ⟨w0.heap.size,0,none⟩)] w λe w'=>e=.returned (.bool true)/\GAt w0 w' S S' c bs bh bc (ks++(gC S c++[⟨-1-c.core,⟨#[]⟩⟩])):=by
 obtain⟨iG0,ga0,gb0,gc0,iC0,cp0,cc0,cf0,cg0,cd0⟩:=h.facts;have ck:w.cell? ⟨bc,0,none⟩=some (.int .i64 5):=by rw[<-hk];exact cp0 0 _ rfl
 have a0:=ok.core;have a3:=hwf.2.2.1;have ew:=oS ok hwf;have lw:=@oT S;have a1:=vT h (by omega) hwf (ok.fd (by omega));clear cp0;have a4:c.data.toList.isEmpty=false:=by rw[zW,Bool.eq_false_iff];intro hz;rw[List.isEmpty_iff]at hz;apply hd;show c.data.data.toList.length=0;rw[hz];rfl
 go_enter Tryz.func74,Tryz.ntmps74;go_upto_region 29 with(go_at_call 112;refine a1.mono ?_;rintro e w1 ⟨rfl,hg1,hk1⟩)
 obtain⟨iG1,ga1,gb1,gc1,iC1,cp1,cc1,cf1,cg1,cd1⟩:=hg1.facts;have a2:=iP hg1 (by simp only[lP];simp only[gC,zK,yW];omega) (-1-c.core) ⟨#[]⟩;go_wp2_with(go_at_call 113;refine a2.mono ?_;rintro e w2 ⟨rfl,hg2,hk2⟩);go_ret;refine⟨rfl,?_⟩;simpa only[yS]using hg2
theorem aIV (h:GAt w0 w S S' c bs bh bc ks) (hl:ks.length<=1000) (hwf:S.wf) (hwf':S'.wf) (ok:GatherOk S c) (hk:c.kind=8):
 Calls Tryz.prog 74 #[.pointer (some ⟨w0.heap.size,0,none⟩)] w λe w'=>e=.returned (.bool true)/\GAt w0 w' S S' c bs bh bc (ks++((iH S c.path++eK S c.path2++eC S c.path)++[⟨-1-c.core,⟨#[]⟩⟩])):=by
 obtain⟨iG0,ga0,gb0,gc0,iC0,cp0,cc0,cf0,cg0,cd0⟩:=h.facts;have ck:w.cell? ⟨bc,0,none⟩=some (.int .i64 8):=by rw[<-hk];exact cp0 0 _ rfl
 have a0:=ok.core;have a5:=hwf.2.2.1;have ew:=oS ok hwf;have lw:=@oT S;have a1:=aAE h (by omega) hwf (ok.path (by omega));clear cp0;go_enter Tryz.func74,Tryz.ntmps74;go_upto_region 19 with(go_at_call 111;refine a1.mono ?_;rintro e w1 ⟨rfl,hg1,hk1⟩)
 obtain⟨iG1,ga1,gb1,gc1,iC1,cp1,cc1,cf1,cg1,cd1⟩:=hg1.facts;have a2:=mS hg1 (by simp only[lP];have q1:=(lw c.path (ok.path (by omega))).1;omega) hwf (ok.path2 (by omega));go_upto_region 20 with(go_at_call 109;refine a2.mono ?_;rintro e w2 ⟨rfl,hg2,hk2⟩)
 obtain⟨iG2,ga2,gb2,gc2,iC2,cp2,cc2,cf2,cg2,cd2⟩:=hg2.facts;have a3:=mR (hg2.later (bel w2 w2.drew)) (by simp only[lP];have q1:=(lw c.path (ok.path (by omega))).1;have q3:=(lw c.path2 (ok.path2 (by omega))).2;omega) hg2.sp hwf c.path;refine aC [12] true (λw'=>w'.cell? ⟨w0.heap.size,0,none⟩=some (.pointer (some ⟨bs,0,none⟩))/\w'.cell? ⟨w0.heap.size,2,none⟩=some (.pointer (some ⟨bc,0,none⟩))/\w'.cell? ⟨bc,5,none⟩=some (.string c.path)) (by kernel_rfl) (by kernel_rfl) ?_ ?_
 · (try dsimp only);(repeat' apply And.intro)<;>go_simp
 repeat
  refine aH rfl rfl ?_;apply Exists.intro;refine⟨?_,?_⟩
  focus
   rintro w' ⟨s0,s1,s2⟩;go_simp
   first|done|rfl
  simp only[Act.put,sA,sZ,sS]
 refine aZ rfl rfl ?_;refine aS 110 #[.pointer (some ⟨w0.heap.size,0,none⟩),.pointer (some ⟨bs,0,none⟩),.string c.path] ?_ ((a3).mono ?_)
 .go_simp
  first|done|rfl
 rintro e w3 ⟨rfl,hg3,hk3⟩;refine⟨_,rfl,.inr ⟨rfl,rfl⟩,?_⟩;refine aQ ?_;obtain⟨iG3,ga3,gb3,gc3,iC3,cp3,cc3,cf3,cg3,cd3⟩:=hg3.facts;have a4:=iP hg3 (by simp only[lP];have q1:=(lw c.path (ok.path (by omega))).1;have q3:=(lw c.path2 (ok.path2 (by omega))).2;simp only[eC,zK,yW];omega) (-1-c.core) ⟨#[]⟩;go_wp2_with(go_at_call 113;refine a4.mono ?_;rintro e w4 ⟨rfl,hg4,hk4⟩);go_ret;refine⟨rfl,?_⟩;simpa only[yS]using hg4
theorem vW (h:GAt w0 w S S' c bs bh bc ks) (hl:ks.length<=1000) (hwf:S.wf) (hwf':S'.wf) (ok:GatherOk S c) (hk:c.kind=9\/c.kind=10):
 Calls Tryz.prog 74 #[.pointer (some ⟨w0.heap.size,0,none⟩)] w λe w'=>e=.returned (.bool true)/\GAt w0 w' S S' c bs bh bc (ks++((eK S c.path++eC S c.path)++[⟨-1-c.core,⟨#[]⟩⟩])):=by
 rcases hk with hk|hk
 iterate 2
  obtain⟨iG0,ga0,gb0,gc0,iC0,cp0,cc0,cf0,cg0,cd0⟩:=h.facts;have ck:w.cell? ⟨bc,0,none⟩=some (.int .i64 c.kind):=cp0 0 _ rfl;have a0:=ok.core;have a4:=hwf.2.2.1;have ew:=oS ok hwf;have lw:=@oT S;have a1:=mS h (by omega) hwf (ok.path (by omega));clear cp0;go_enter Tryz.func74,Tryz.ntmps74;go_upto_region 24 with(go_at_call 109;refine a1.mono ?_;rintro e w1 ⟨rfl,hg1,hk1⟩)
  obtain⟨iG1,ga1,gb1,gc1,iC1,cp1,cc1,cf1,cg1,cd1⟩:=hg1.facts;have a2:=mR (hg1.later (bel w1 w1.drew)) (by simp only[lP];have q2:=(lw c.path (ok.path (by omega))).2;omega) hg1.sp hwf c.path;refine aC [12] true (λw'=>w'.cell? ⟨w0.heap.size,0,none⟩=some (.pointer (some ⟨bs,0,none⟩))/\w'.cell? ⟨w0.heap.size,2,none⟩=some (.pointer (some ⟨bc,0,none⟩))/\w'.cell? ⟨bc,5,none⟩=some (.string c.path)) (by kernel_rfl) (by kernel_rfl) ?_ ?_
  · (try dsimp only);(repeat' apply And.intro)<;>go_simp
  repeat
   refine aH rfl rfl ?_;apply Exists.intro;refine⟨?_,?_⟩
   focus
    rintro w' ⟨s0,s1,s2⟩;go_simp
    first|done|rfl
   simp only[Act.put,sA,sZ,sS]
  refine aZ rfl rfl ?_;refine aS 110 #[.pointer (some ⟨w0.heap.size,0,none⟩),.pointer (some ⟨bs,0,none⟩),.string c.path] ?_ ((a2).mono ?_)
  .go_simp
   first|done|rfl
  rintro e w2 ⟨rfl,hg2,hk2⟩;refine⟨_,rfl,.inr ⟨rfl,rfl⟩,?_⟩;refine aQ ?_;obtain⟨iG2,ga2,gb2,gc2,iC2,cp2,cc2,cf2,cg2,cd2⟩:=hg2.facts;have a3:=iP hg2 (by simp only[lP];have q2:=(lw c.path (ok.path (by omega))).2;simp only[eC,zK,yW];omega) (-1-c.core) ⟨#[]⟩;go_wp2_with(go_at_call 113;refine a3.mono ?_;rintro e w3 ⟨rfl,hg3,hk3⟩);go_ret;refine⟨rfl,?_⟩;simpa only[yS]using hg3
theorem aEF (h:GAt w0 w S S' c bs bh bc ks) (hl:ks.length<=1000) (hwf:S.wf) (hwf':S'.wf) (ok:GatherOk S c) (hk:c.kind=11):
 Calls Tryz.prog 74 #[.pointer (some ⟨w0.heap.size,0,none⟩)] w λe w'=>e=.returned (.bool true)/\GAt w0 w' S S' c bs bh bc (ks++((eK S c.path++eK S c.path2++eC S c.path)++[⟨-1-c.core,⟨#[]⟩⟩])):=by
 obtain⟨iG0,ga0,gb0,gc0,iC0,cp0,cc0,cf0,cg0,cd0⟩:=h.facts;have ck:w.cell? ⟨bc,0,none⟩=some (.int .i64 11):=by rw[<-hk];exact cp0 0 _ rfl
 have a0:=ok.core;have a5:=hwf.2.2.1;have ew:=oS ok hwf;have lw:=@oT S;have a1:=mS h (by omega) hwf (ok.path (by omega));clear cp0;go_enter Tryz.func74,Tryz.ntmps74;go_upto_region 27 with(go_at_call 109;refine a1.mono ?_;rintro e w1 ⟨rfl,hg1,hk1⟩)
 obtain⟨iG1,ga1,gb1,gc1,iC1,cp1,cc1,cf1,cg1,cd1⟩:=hg1.facts;have a2:=mS hg1 (by simp only[lP];have q2:=(lw c.path (ok.path (by omega))).2;omega) hwf (ok.path2 (by omega));go_upto_region 28 with(go_at_call 109;refine a2.mono ?_;rintro e w2 ⟨rfl,hg2,hk2⟩)
 obtain⟨iG2,ga2,gb2,gc2,iC2,cp2,cc2,cf2,cg2,cd2⟩:=hg2.facts;have a3:=mR (hg2.later (bel w2 w2.drew)) (by simp only[lP];have q2:=(lw c.path (ok.path (by omega))).2;have q3:=(lw c.path2 (ok.path2 (by omega))).2;omega) hg2.sp hwf c.path;refine aC [12] true (λw'=>w'.cell? ⟨w0.heap.size,0,none⟩=some (.pointer (some ⟨bs,0,none⟩))/\w'.cell? ⟨w0.heap.size,2,none⟩=some (.pointer (some ⟨bc,0,none⟩))/\w'.cell? ⟨bc,5,none⟩=some (.string c.path)) (by kernel_rfl) (by kernel_rfl) ?_ ?_
 · (try dsimp only);(repeat' apply And.intro)<;>go_simp
 repeat
  refine aH rfl rfl ?_;apply Exists.intro;refine⟨?_,?_⟩
  focus
   rintro w' ⟨s0,s1,s2⟩;go_simp
   first|done|rfl
  simp only[Act.put,sA,sZ,sS]
 refine aZ rfl rfl ?_;refine aS 110 #[.pointer (some ⟨w0.heap.size,0,none⟩),.pointer (some ⟨bs,0,none⟩),.string c.path] ?_ ((a3).mono ?_)
 .go_simp
  first|done|rfl
 rintro e w3 ⟨rfl,hg3,hk3⟩;refine⟨_,rfl,.inr ⟨rfl,rfl⟩,?_⟩;refine aQ ?_;obtain⟨iG3,ga3,gb3,gc3,iC3,cp3,cc3,cf3,cg3,cd3⟩:=hg3.facts;have a4:=iP hg3 (by simp only[lP];have q2:=(lw c.path (ok.path (by omega))).2;have q3:=(lw c.path2 (ok.path2 (by omega))).2;simp only[eC,zK,yW];omega) (-1-c.core) ⟨#[]⟩;go_wp2_with(go_at_call 113;refine a4.mono ?_;rintro e w4 ⟨rfl,hg4,hk4⟩);go_ret;refine⟨rfl,?_⟩;simpa only[yS]using hg4
end
end
end Go.Proofs.YtmkapobnfigedaaGreatDoor
