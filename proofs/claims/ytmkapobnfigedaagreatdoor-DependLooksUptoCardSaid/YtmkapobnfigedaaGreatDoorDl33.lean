/- Part of the proof of a law of chapter 15. Conditions: none. -/
import Derived.Test.YtmkapobnfigedaaGreatDoorDl25
import Derived.Test.YtmkapobnfigedaaGreatDoorDl26
import Derived.Test.YtmkapobnfigedaaGreatDoorDl28
set_option linter.unusedVariables false
set_option linter.unusedSimpArgs false
set_option maxRecDepth 100000
set_option maxHeartbeats 8000000
namespace Go.Proofs.YtmkapobnfigedaaGreatDoor
open Go.RowKit
theorem qO (B d b:Nat) (S:PSt) (c:PCall) (r:PRes) (w:World) (h:DoAt B w d b S c r) (hk:c.kind=4\/c.kind=5\/c.kind=7) (R:Except Int (PSt × PRes)) (ht:Calls Tryz.prog 146 #[.pointer (some ⟨d,0,none⟩)] w (bA B w d b c R)):
 Calls Tryz.prog 108 #[.pointer (some ⟨d,0,none⟩)] w (bA B w d b c R):=by
 obtain⟨iD,d1⟩:=h.kind;clear h;rcases hk with hk|hk|hk<;>rw[hk]at d1<;>rcases R with k|⟨S',r'⟩
 all_goals(go_enter Tryz.func108,Tryz.ntmps108)
 all_goals first
  | (go_wp2_with(go_at_call 146;refine ht.mono ?_;rintro e w1 ⟨hb1,hr1⟩;obtain rfl:e=bD k:=hr1)
     exact⟨rfl,hb1,rfl⟩)
  | (go_wp2_with(go_at_call 146;refine ht.mono ?_;rintro e w1 ⟨hb1,hr1⟩;have a0:e=.returned (.tuple #[])/\DoAt B w1 d b S' c r':=hr1;clear hr1;obtain⟨rfl,hd1⟩:=a0;have HD:=aG hd1;clear hd1)
     exact xC (v:=.tuple #[]) (by simp[results,go_sem]) rfl ⟨hb1,rfl,HD.out⟩)
theorem aLW (B d b:Nat) (S:PSt) (c:PCall) (r:PRes) (w:World) (h:DoAt B w d b S c r) (hk:c.kind=2) (R:Except Int (PSt × PRes)) (ht:Calls Tryz.prog 142 #[.pointer (some ⟨d,0,none⟩)] w (bA B w d b c R)):
 Calls Tryz.prog 108 #[.pointer (some ⟨d,0,none⟩)] w (bA B w d b c R):=by
 obtain⟨iD,d1⟩:=h.kind;rw[hk]at d1;clear h;rcases R with k|⟨S',r'⟩
 all_goals(go_enter Tryz.func108,Tryz.ntmps108)
 .go_wp2_with(go_at_call 142;refine ht.mono ?_;rintro e w1 ⟨hb1,hr1⟩;obtain rfl:e=bD k:=hr1)
  exact⟨rfl,hb1,rfl⟩
 go_wp2_with(go_at_call 142;refine ht.mono ?_;rintro e w1 ⟨hb1,hr1⟩;have a0:e=.returned (.tuple #[])/\DoAt B w1 d b S' c r':=hr1;clear hr1;obtain⟨rfl,hd1⟩:=a0;have HD:=aG hd1;clear hd1);exact xC (v:=.tuple #[]) (by simp[results,go_sem]) rfl ⟨hb1,rfl,HD.out⟩
theorem cM {s:ByteArray} (h:(aA s).1=0):(aA s).2.length<=4:=by
 unfold aA at h |-;by_cases h1:64<s.size
 .rw[zB h1]at h;cases h
 rw [zA h1]at h |-;by_cases h2:0<s.size
 .rw [dif_pos h2]at h |-;by_cases h3:(((s[0]'h2).toNat:Int)==47)=false
  .rw[zB h3]at h;cases h
  rw[zA h3]at h |-;by_cases h4:s.size=1
  .rw[zB h4];exact Nat.zero_le _
  rw[zA h4]at h |-;simp only at h |-;generalize bX s (s++⟨#[47]⟩) (s++⟨#[47]⟩:ByteArray).size 0 1 []=r at h |-;by_cases h5:r.1=0/\4<r.2.length
  .rw[zB h5]at h;cases h
  rw[zA h5]at h |-;omega
 rw[dif_neg h2]at h;cases h
theorem aTC (B d b:Nat) (S:PSt) (c:PCall) (r:PRes) (w:World) (h:DoAt B w d b S c r) (hB:B<=w.heap.size) (hp:(aA c.path).1≠0):
 Calls Tryz.prog 150 #[.pointer (some ⟨d,0,none⟩)] w (bA B w d b c (.error (dN (aA c.path).1))):=by
 have a0:∀ww,Below w.heap.size w ww->Calls Tryz.prog 178 #[.pointer (some ⟨d,0,none⟩),.string c.path] ww _:=λww hb=>aDO d b S c c.path ww (h.read.below hb (zC _)) hp;obtain⟨iv,ov,mv,nv,hBb,hBd,hD,hbk,hst,hnv⟩:=h;have iD:=hD.lt;have d6:w.cell? ⟨d,6,none⟩=some (.string c.path):=hD.cell 6;clear hD hbk hst hnv;go_enter Tryz.func150,Tryz.ntmps150;go_wp2_with(go_at_call 178;refine(a0 _ (bel _ _)).mono ?_;rintro e w1 ⟨rfl,hb1⟩);exact⟨rfl,hb1.mono hB,rfl⟩
def rI (S:PSt) (c:PCall) (r:PRes):Except Int (PSt × PRes):=
 if(aL S 0 (aA c.path).2).2≠0 then .error (aL S 0 (aA c.path).2).2 else
 match S.ins[(aL S 0 (aA c.path).2).1]? with
 |none=>.ok (S,r)
 |some x=>if x.dir=true then .error 8 else .ok (S,{ r with num:=dM S x.num})
theorem aGA (B d b:Nat) (S:PSt) (c:PCall) (r:PRes) (w:World) (h:DoAt B w d b S c r) (hB:B<=w.heap.size) (hf:Fine S) (hk:c.kind=14) (hp:(aA c.path).1=0):
 Calls Tryz.prog 150 #[.pointer (some ⟨d,0,none⟩)] w (bA B w d b c (rI S c r)):=by
 obtain⟨bi,cap,ov,mv,nv,hP⟩:=h.part hf.pos;have ht:=hP.path hf c.path hp (zD (cM hp) (by decide));have a1:=eT hf (aA c.path).2 0 hf.pos;have iD:=hP.hD.lt;have d1:w.cell? ⟨d,1,none⟩=some (.int .i64 c.kind):=hP.hD.cell 1;have d6:w.cell? ⟨d,6,none⟩=some (.string c.path):=hP.hD.cell 6;rw[hk]at d1;have HP:=aG hP;obtain⟨RR,hRR⟩:∃RR,rI S c r=RR:=⟨_,rfl⟩;rw[hRR];unfold rI at hRR;generalize aL S 0 (aA c.path).2=W at ht a1 hRR;obtain⟨K,C⟩:=W;simp only at a1 hRR;clear h hP hp;by_cases hC:C=0
 .subst hC;rw[zA (by simp)]at hRR;obtain⟨x,hx⟩:∃x,S.ins[K]? =some x:=⟨_,gE a1⟩
  rw[hx]at hRR;simp only at hRR;have a2:=aG hRR;clear hRR;go_enter Tryz.func150,Tryz.ntmps150;go_upto_region 1 with(go_at_call 178;refine ht.mono ?_;rintro e w1 ⟨hb1,ho⟩;obtain rfl:=ho.ok;have HB:=aG hb1;clear hb1 ho)
  refine aI (F:=λwA=>DPart B wA d b bi cap ov mv nv S c r/\Below w.heap.size w wA) ⟨HP.out.below HB.out,HB.out⟩ ?_;clear ht iD HP HB d6 d1;rintro wA ⟨hA,hbA⟩;have iD:=hA.hD.lt;have iL:=hA.hb.lt;have d1:wA.cell? ⟨d,1,none⟩=some (.int .i64 c.kind):=hA.hD.cell 1;rw[hk]at d1;obtain⟨iI,x0,x1,x3⟩:=hA.dat hx;have HX:=bB hA hbA;generalize hdd:x.dir=xd at x1;rcases xd with _|_
  .obtain rfl:RR=.ok (S,{ r with num:=dM S x.num}):=by rw[<-a2.out,hdd];rfl
   have d0:wA.cell? ⟨d,0,none⟩=some (.pointer (some ⟨b,0,none⟩)):=hA.hD.cell 0;have a5:wA.cell? ⟨d,11,none⟩=some (.int .i64 r.num):=hA.hD.cell 11;have a6:=hA.hD.frozen 11;have b0:wA.cell? ⟨b,0,none⟩=some (.slice (some ⟨bi,0,none⟩) S.ins.length cap):=hA.hb.cell 0;have b1:wA.cell? ⟨b,1,none⟩=some ov:=hA.hb.cell 1;have b2:wA.cell? ⟨b,2,none⟩=some mv:=hA.hb.cell 2;have a8:=hA.st.read.1.one;have a9:=hA.st.read.2.1.one;have a3:vB wA 181 #[.agg #[.slice (some ⟨bi,0,none⟩) S.ins.length cap,ov,mv],.int .i64 x.num] (.int .i64 (dM S x.num)):=λww hb=>aHT _ ov mv S x.num ww (hA.st.read.below hb (zC _)) hf.wf;obtain⟨ln,a0⟩:∃l,dM S x.num=l:=⟨_,rfl⟩;rw[a0]at a3;have a7:=aG a0;clear a0;clear hA hbA hx a2 hdd x3;go_upto_region 3 with(go_at_call 172;refine aE (aD _ _) λp=>?_)
   refine aC [11,15] true (λw'=>w'.cell? ⟨d,0,none⟩=some (.pointer (some ⟨b,0,none⟩))/\w'.cell? ⟨b,0,none⟩=some (.slice (some ⟨bi,0,none⟩) S.ins.length cap)/\w'.cell? ⟨b,1,none⟩=some ov/\w'.cell? ⟨b,2,none⟩=some mv/\w'.cell? ⟨bi,K*4,none⟩=some (.int .i64 x.num)) (by kernel_rfl) (by kernel_rfl) ?_ ?_
   · (try dsimp only);(repeat' apply And.intro)<;>go_simp
   repeat
    refine aH rfl rfl ?_;apply Exists.intro;refine⟨?_,?_⟩
    focus
     rintro w' ⟨s0,s1,s2,s3,s4⟩;go_simp
     first|done|rfl
    simp only[Act.put,sA,sZ,sS]
   refine aZ rfl rfl ?_;refine aS 181 #[.agg #[.slice (some ⟨bi,0,none⟩) S.ins.length cap,ov,mv],.int .i64 x.num] ?hr ?_
   case hr=>
    go_simp
    first|done|rfl
   refine aE (a3 _ (bel _ _)) λq1=>?_;refine⟨_,rfl,.inl ?_,?_⟩
   · (try dsimp only);(repeat' apply And.intro)<;>go_simp
   simp only[Act.put,sA,sZ,sS]
   repeat
    refine aH rfl rfl ?_;apply Exists.intro;refine⟨?_,?_⟩
    focus
     rintro w' ⟨s0,s1,s2,s3,s4⟩;go_simp
     first|done|rfl
    simp only[Act.put,sA,sZ,sS]
   refine aU rfl rfl ?_;apply Exists.intro;refine⟨?_,.inr ⟨rfl,rfl⟩,?_⟩
   focus
    go_simp;rfl
   simp only[Act.put,sA,sZ,sS];refine aQ ?_;clear d0 d1 a5 a6 b0 b1 b2 x0 x1;go_wp2_with fail;have a0:=a7.out;subst a0;have a4:Below B w (wA.setCell ⟨d,11,none⟩ (.int .i64 (dM S x.num:Nat))):=(HX.out.2.mono hB).setCell (p:=⟨d,11,none⟩) HX.out.1.hBd _;exact xC (v:=.tuple #[]) (by simp[results,go_sem]) rfl ⟨a4.trans ((bel _ _).mono (zD hB a4.size)),rfl,((HX.out.1.res (t:=11) (r':={ r with num:=dM S x.num}) rfl rfl).below (bel _ _)).at_⟩
  obtain rfl:RR=.error 8:=by rw[<-a2.out,hdd];rfl
  clear hA hbA hx x3 hdd;go_wp2_with(go_at_call 172;refine aE (aO _ _) λp=>?_);exact⟨rfl,(HX.out.2.trans ((bel wA _).mono HX.out.2.size)).mono hB,rfl⟩
 rw[zB hC]at hRR;subst hRR;go_enter Tryz.func150,Tryz.ntmps150;go_wp2_with(go_at_call 178;refine ht.mono ?_;rintro e w1 ⟨hb1,ho⟩;obtain rfl:=ho.bad hC);exact⟨rfl,hb1.mono hB,rfl⟩
theorem aMB (B d b:Nat) (S:PSt) (c:PCall) (r:PRes) (w:World) (h:DoAt B w d b S c r) (hk:c.kind=12\/c.kind=13\/c.kind=14) (R:Except Int (PSt × PRes)) (ht:Calls Tryz.prog 150 #[.pointer (some ⟨d,0,none⟩)] w (bA B w d b c R)):
 Calls Tryz.prog 108 #[.pointer (some ⟨d,0,none⟩)] w (bA B w d b c R):=by
 obtain⟨iD,d1⟩:=h.kind;rcases hk with hk|hk|hk
 all_goals
  rw[hk]at d1;clear h;rcases R with k|⟨S',r'⟩
  all_goals(go_enter Tryz.func108,Tryz.ntmps108)
  .go_wp2_with(go_at_call 150;refine ht.mono ?_;rintro e w1 ⟨hb1,hr1⟩;obtain rfl:e=bD k:=hr1)
   exact⟨rfl,hb1,rfl⟩
  go_wp2_with(go_at_call 150;refine ht.mono ?_;rintro e w1 ⟨hb1,hr1⟩;have a0:e=.returned (.tuple #[])/\DoAt B w1 d b S' c r':=hr1;clear hr1;obtain⟨rfl,hd1⟩:=a0;have HD:=aG hd1;clear hd1);exact xC (v:=.tuple #[]) (by simp[results,go_sem]) rfl ⟨hb1,rfl,HD.out⟩
def kR (S:PSt) (c:PCall):Except Int (PSt × PRes):=
 if c.kind=4 then pH S c PRes.zero else if c.kind=7 then pI S c PRes.zero else
 if(aA c.path).1≠0 then .error (dN (aA c.path).1)else
 if c.kind=12 then wJ S c PRes.zero else if c.kind=13 then aDI S c PRes.zero else rI S c PRes.zero
def aMC (c:PCall):Prop:=c.kind=4\/c.kind=7\/c.kind=12\/c.kind=13\/c.kind=14
theorem aBN {S:PSt} (h:dB S=true):∀x∈S.ins,x.data.size<=256:=by
 intro x hx;unfold dB at h;split at h
 .rename_i h1
  simp only[zE]at h1;have h2:=h1.1.2;unfold dH at h2;split at h2
  .rename_i e
   rw[e]at hx;cases hx
  rename_i y r e;split at h2
  .split at h2
   .rw [zE]at h2;have h3:=List.all_eq_true.1 h2.2 x hx;unfold inB at h3
    split at h3
    .rw[zE]at h3;have h4:=h3.1;rw[zW]at h4;have:x.data.size=0:=by
      have h5:=List.isEmpty_iff.1 h4;have:=congrArg List.length h5;simpa using this
     omega
    simp only[zE,zI]at h3;exact h3.2
   cases h2
  cases h2
 cases h
section
theorem uV {made:List Int}:∀(l:List Int) (p:Int),mB made p l=true->(∀(i:Nat) (x:Int),l[i]? =some x->p<x/\eG made x=true)/\Rise l
 |[],p,_=>⟨λi x h=>by simp at h,λi j x y h=>by simp at h⟩
 | n :: r, p,h=>by
   unfold mB at h;split at h
   .cases h
   rename_i h1;split at h
   .cases h
   rename_i h2;obtain⟨h3,h4⟩:=uV r n h;refine⟨λi x hx=>?_,λi j x y hx hy hij=>?_⟩
   .rcases i with _|i
    .simp at hx;subst hx;exact⟨by omega,by simpa using h2⟩
    have:=h3 i x (by simpa using hx);exact⟨by omega,this.2⟩
   rcases j with _|j
   .omega
   rcases i with _|i
   .simp at hx;subst hx;exact(h3 j y (by simpa using hy)).1
   exact h4 i j x y (by simpa using hx) (by simpa using hy) (by omega)
variable {S:PSt} {j:Nat} {ns:List Int} {y:PIn}
theorem aAX (h:Rise ns):∀(i:Nat) (x y:Int),ns[0]? =some x->ns[i]? =some y->x+i<=y
 |0,x,y,hx,hy=>by rw[hx]at hy;have:=Option.some.inj hy;omega
 | i+1,x,y,hx,hy=>by obtain⟨hl,_⟩:=gI.1 hy;have hz:ns[i]? =some ns[i]:=gE (by omega);have h1:=aAX h i x _ hx hz;have h2:=h i (i+1) _ _ hz hy (by omega);omega
theorem uW {s:ByteArray} (h:iU s=true):s.size<=12:=by
 unfold iU cR at h;by_cases e:12<s.size
 .rw[zB e]at h;cases h
 omega
theorem aHZ:∀(sl:List Int) (k:Nat) (x:Int),sl[k]? =some x->(sl.set k (x+1)).sum=sl.sum+1
 |[],k,x,h=>by simp at h
 | y::r,0,x,h=>by simp at h;subst h;simp only[sZ,List.sum_cons];omega
 | y::r,k+1,x,h=>by simp only[sS,List.sum_cons];rw[aHZ r k x (by simpa using h)];omega
theorem aIA:∀(sl:List Int),(∀x∈sl,x<=4)->sl.sum<=4*sl.length
 |[],_=>by simp
 | x::r,h=>by have h1:=aIA r λy hy=>h y (zL _ hy);have h2:=h x zQ;simp only[List.sum_cons,zK];omega
theorem xN:∀(es:List PEnt) (prev:Option ByteArray) (sl:List Int),gN ns prev sl es=true->(∀x∈sl,x<=4)->(∀e∈es,e.name.size<=12/\e.num≠1/\0<=aJ ns e.num)/\es.length+sl.sum<=4*sl.length
 |[],_,sl,_,h4=>⟨λe he=>(by cases he),by have:=aIA sl h4;simp;omega⟩
 | e :: r,prev,sl,h,h4=>by
   unfold gN at h;split at h
   .cases h
   rename_i h1;split at h
   .cases h
   split at h
   .cases h
   rename_i h3;split at h
   .cases h
   rename_i h5;rcases hs:sl[(bQ e.name).toNat]? with _|x
   .rw[hs]at h;cases h
   rw [hs]at h;simp only at h;split at h
   .cases h
   rename_i h6;obtain⟨a1,a2⟩:=xN r _ _ h (λy hy=>by
    rcases List.mem_or_eq_of_mem_set hy with hy|hy
    .exact h4 y hy
    omega)
   rw[aHZ sl _ x hs,yB]at a2;refine⟨λe' he=>?_,by simp only[zK];omega⟩;rcases List.mem_cons.1 he with rfl|he
   .exact⟨uW (by simpa using h1),h3,by omega⟩
   exact a1 e' he
theorem uX (n:Int):∀(xs ys:List PIn) (a:Int),lkI n (xs++ys) a=lkI n ys (lkI n xs a)
 |[],_,_=>rfl
 | x::r,ys,a=>by show lkI n (r++ys) _=_;rw[uX n r ys];rfl
theorem xO (hr:Rise S.nums) (hj:S.ins[j]? =some y):∀(es:List PEnt) (a:Int),(∀e∈es,0<=bH S e.num)->sK y.num es a=a+(((es.map λe=>(bH S e.num).toNat).count j:Nat):Int)
 |[],a,_=>by simp[sK]
 | e :: r,a,h=>by
   unfold sK;rw[xO hr hj r _ λe' he=>h e' (zL _ he),yZ,List.count_cons];have he:=h e zQ;by_cases e1:e.num=y.num
   .rw[zB (by simpa using e1)];have:(bH S e.num).toNat=j:=by rw[e1,eY hr hj];simp
    rw[this];simp;omega
   rw [zA (by simpa using e1)];have:((bH S e.num).toNat==j)=false:=by
    rw[yF];intro e2;rcases fV S e.num with⟨k,x,hk,e3⟩|⟨_,e3⟩
    .rw[<-e3,eY hr hk]at e2;have:k=j:=by omega
     subst this;rw[hk]at hj;cases hj;exact e1 e3.symm
    omega
   rw[this];simp
theorem aIB (hr:Rise S.nums) (hf:∀x∈S.ins,∀e∈x.ents,0<=bH S e.num) (hj:S.ins[j]? =some y):∀m,m<=S.ins.length->lkI y.num (S.ins.take m) 0=((cH (λk=>(aW S k).count j) m:Nat):Int)
 |0,_=>rfl
 | m+1,hm=>by
   have hx:S.ins[m]? =some (S.ins[m]'(by omega)):=gE (by omega);rw[List.take_add_one,hx];simp only[Option.toList_some];rw[uX,aIB hr hf hj m (by omega)];rw[show cH (λk=>(aW S k).count j) (m+1)=cH (λk=>(aW S k).count j) m+(aW S m).count j from rfl];show(if (S.ins[m]'(by omega)).dir=true then sK y.num (S.ins[m]'(by omega)).ents _ else _)=_;have hk:aW S m=if(S.ins[m]'(by omega)).dir=true then(S.ins[m]'(by omega)).ents.map λe=>(bH S e.num).toNat else[]:=by unfold aW;rw[hx]
   rw[hk];split
   .rw[xO hr hj _ _ (hf _ (List.getElem_mem (by omega)))];omega
   simp
theorem uY {many:List Int} {found:List Bool} {op:List PDesc}:∀(xs:List PIn) (i j:Nat) (x:PIn),dP many found op i xs=true->xs[j]? =some x->x.dir=true->i+j≠0->many.getD (i+j) 0=1
 |[],_,_,_,_,h,_,_=>by simp at h
 | y ::r,i,0,x,h,hx,hd,hn=>by
   simp at hx;subst hx;unfold dP at h;rw[zA (by omega)]at h;split at h
   .cases h
   rename_i h1;rw[hd]at h1;simp only[xA,yI,yL,not_or,yF]at h1;have:=h1.1;exact Classical.not_not.1 this
 | y :: r,i,j+1,x,h,hx,hd,hn=>by
   have hr:dP many found op (i+1) r=true:=by
    unfold dP at h;split at h
    .exact h
    split at h
    .cases h
    split at h
    .cases h
    exact h
   have:=uY r (i+1) j x hr (by simpa using hx) hd (by omega);rw[show i+(j+1)=i+1+j by omega];exact this
theorem nH (hwf:S.wf) (hm:dB S=true):Tree S:=by
 have a5:=aBN hm;unfold dB at hm;split at hm;rotate_left
 .cases hm
 rename_i h1;simp only[zE]at h1;obtain⟨⟨hmade,hins⟩,hop⟩:=h1;unfold dH at hins;rcases e:S.ins with _|⟨x0,r⟩
 .rw[e]at hins;cases hins
 rw[e]at hins;simp only at hins;split at hins;rotate_left
 .cases hins
 rename_i hn0;split at hins;rotate_left
 .cases hins
 rename_i hd0;rw[<-e,zE,yX]at hins;obtain⟨hnb,hall⟩:=hins;obtain⟨n1,n2⟩:=uV _ _ hnb;have a4:S.nums=1::r.map PIn.num:=by unfold PSt.nums;rw[e,yZ,hn0]
 have hr:Rise S.nums:=by
  rw[a4];intro i j x y hx hy hij;rcases j with _|j
  .omega
  rcases i with _|i
  .simp at hx;subst hx;exact(n1 j y (by simpa using hy)).1
  exact n2 i j x y (by simpa using hx) (by simpa using hy) (by omega)
 have a8:S.ins[0]? =some x0:=by rw[e];rfl
 have a0:∀x∈S.ins,(∀e∈x.ents,e.name.size<=12/\e.num≠1/\0<=aJ S.nums e.num)/\x.ents.length<=32/\(x.dir=false->x.ents=[]):=λx hx=>by
  have:=hall x hx;unfold inB at this;split at this
  .rename_i hd
   rw[zE]at this;obtain⟨a1,a2⟩:=xN x.ents none [0,0,0,0,0,0,0,0] this.2 (λy hy=>by simp at hy;omega);refine⟨a1,by simp at a2;omega,λh=>by rw[hd]at h;cases h⟩
  simp only[zE,zI]at this;have h0:=zT this.1;rw[h0];exact⟨λe he=>(by cases he),by simp,λ_=>rfl⟩
 have a3:∀x∈S.ins,∀e∈x.ents,0<=bH S e.num/\bH S e.num<S.ins.length:=λx hx e' he=>by have h2:=((a0 x hx).1 e' he).2.2;rw[bM hr]at h2;have:=fC S e'.num;omega
 have a6:S.ins.length<=257:=by
  apply Classical.byContradiction;intro hl;obtain⟨v,hy⟩:∃v,S.nums[257]? =some v:=⟨_,gE (by unfold PSt.nums;rw[lM];omega)⟩;have h2:=aAX hr 257 1 _ (by rw[a4];rfl) hy;have h3:(r.map PIn.num)[256]? =some v:=by rw[a4]at hy;simpa using hy
  have h4:=(n1 256 _ h3).2;unfold eG at h4;rw[zA (by omega)]at h4;split at h4
  .rename_i m hmk
   simp only[zI]at h4;unfold cZ at hmade;simp only[zE,yL,List.any_eq_false]at hmade;have h5:=hmade.2 m (mG hmk);unfold dK at h5;simp only[yI,zI,not_or]at h5;omega
  cases h4
 refine⟨hr,by rw[e];simp,a6,a3,λk hk=>?_,λj x hx hd hj=>?_,λx hx=>(a0 x hx).2.1,λx hx e' he=>((a0 x hx).1 e' he).1,a5⟩
 .unfold aW at hk
  split at hk
  .rename_i x hx
   split at hk
   .obtain⟨e',he,h0⟩:=List.mem_map.1 hk;have a7:=mG hx;have hf:=a3 x a7 e' he;rcases fV S e'.num with⟨k2,y,hk2,e3⟩|⟨_,e3⟩
    .rw[<-e3,eY hr hk2]at h0;have:k2=0:=by omega
     subst this;rw[a8]at hk2;cases hk2;exact((a0 x a7).1 e' he).2.1 (by rw[<-e3];exact hn0)
    omega
   cases hk
  cases hk
 have h2:=uY S.ins 0 j x hm hx hd (by omega);rw[zM]at h2;have h0:(List.replicate S.ins.length (0:Int)).getD j 0=0:=by
  rw[zG,yQ];split<;>rfl
 have a9:dY S.ins<9000000000000000000:=by
  have key:∀(xs:List PIn),(∀x∈xs,x.ents.length<=32)->dY xs<=xs.length*32:=by
   intro xs
   induction xs with
   |nil=>intro _;simp[dY]
   | cons x r ih=>intro hx;have h1:=ih λy hy=>hx y (zL _ hy);have h2:=hx x zQ;simp only[dY,yZ,List.sum_cons,zK]at h1 |-;omega
  have:=key S.ins λx hx=>(a0 x hx).2.1;omega
 have h3:=pR hr (dJ hx) S.ins (List.replicate S.ins.length 0) (by simp[PSt.nums]) (λx hx e' he=>((a0 x hx).1 e' he).2.2) (λx hx=>(a0 x hx).2.2) (by rw[h0];omega) (by rw[h0];omega);unfold fB at h2;rw[h3,h0]at h2;have h4:=aIB hr (λx hx e' he=>(a3 x hx e' he).1) hx S.ins.length (zC _);rw[List.take_length,h2]at h4;omega
end
end Go.Proofs.YtmkapobnfigedaaGreatDoor
