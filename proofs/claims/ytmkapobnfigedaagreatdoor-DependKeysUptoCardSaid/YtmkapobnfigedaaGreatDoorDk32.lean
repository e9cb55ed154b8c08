/- A part of a proof of a law. Conditions: none. -/
import Derived.Test.YtmkapobnfigedaaGreatDoorDk31
import Derived.Test.YtmkapobnfigedaaGreatDoorDk27
set_option linter.unusedVariables false
set_option linter.unusedSimpArgs false
set_option maxRecDepth 100000
set_option maxHeartbeats 8000000
namespace Go.Proofs.YtmkapobnfigedaaGreatDoor
open Go.Proofs.Tryz List Go.RowKit
section
def aZK (l:List PDesc):Prop:=∀(i j:Nat) (a b:PDesc),l[i]? =some a->l[j]? =some b->i<j->a.core<b.core\/(a.core=b.core/\a.fd<b.fd)
variable {S:PSt} {x:PIn}
theorem pL:∀(l:List PDesc) (prev:Option PDesc),fJ S prev l=true->aZK l/\(∀q,prev=some q->∀(i:Nat) (a:PDesc),l[i]? =some a->q.core<a.core\/(q.core=a.core/\q.fd<a.fd))/\∀d∈l,0<=d.core/\d.core<S.made.length/\0<=d.fd/\d.fd<4/\0<=aJ S.nums d.num/\∃x,S.ins[(aJ S.nums d.num).toNat]? =some x/\x.dir=false
 |[],_,_=>⟨λi j a b h=>by simp at h,λq _ i a h=>by simp at h,λd h=>by cases h⟩
 | d ::r,prev,h=>by
   unfold fJ at h;split at h
   .cases h
   split at h
   .cases h
   split at h
   .cases h
   split at h
   .cases h
   split at h
   .cases h
   rename_i hp;split at h
   .cases h
   split at h;rotate_left
   .cases h
   rename_i x hx;split at h
   .cases h
   rename_i hd;obtain⟨h1,h2,h3⟩:=pL r _ h;have h4:=h2 d rfl;have h5:∀q,prev=some q->q.core<d.core\/(q.core=d.core/\q.fd<d.fd):=by rintro q rfl;have a0:¬kB (some q) d=true:=hp;unfold kB at a0;simp only[yI,zE,zI,beq_iff_eq]at a0;omega
   refine⟨λi j a b ha hb hij=>?_,λq hq i a ha=>?_,λy hy=>?_⟩
   .rcases i with _|i
    .simp only[zH,zF]at ha;subst ha;rcases j with _|j
     .omega
     exact h4 j b (by simpa using hb)
    rcases j with _|j
    .omega
    exact h1 i j a b (by simpa using ha) (by simpa using hb) (by omega)
   .rcases i with _|i
    .simp only[zH,zF]at ha;subst ha;exact h5 q hq
    have a1:=h5 q hq;have a2:=h4 i a (by simpa using ha);omega
   rcases mem_cons.1 hy with rfl|hy
   .exact⟨by omega,by omega,by omega,by omega,by omega,x,hx,by simpa using hd⟩
   exact h3 y hy
theorem vL (c f:Int):∀(l:List PDesc) (q:Nat),(fdL c f l=0/\bO (λd:PDesc=>(d.core==c)&&(d.fd==f)) l q=-1/\∀d∈l,((d.core==c)&&(d.fd==f))=false)\/∃k y,l[k]? =some y/\((y.core==c)&&(y.fd==f))=true/\fdL c f l=y.num/\bO (λd:PDesc=>(d.core==c)&&(d.fd==f)) l q=((q+k:Nat):Int)
 |[],q=>.inl ⟨rfl,rfl,λd h=>by cases h⟩
 | d ::r,q=>by
   unfold fdL bO;by_cases hd:((d.core==c)&&(d.fd==f))=true
   .rw[zB hd];refine .inr ⟨0,d,rfl,hd,rfl,?_⟩;rw[zB hd];simp
   rw[zA hd,zA hd];rcases vL c f r (q+1)with⟨h1,h2,h3⟩|⟨k,y,h1,h2,h3,h4⟩
   .refine .inl ⟨h1,h2,λz hz=>?_⟩;rcases mem_cons.1 hz with rfl|hz
    .simpa using hd
    exact h3 z hz
   exact .inr ⟨k+1,y,by simpa using h1,h2,h3,by rw[h4];congr 1;omega⟩
theorem MayX.file_ (M:MayX S) (c:PCall):(eH S c=none/\nR S c.core c.fd=0/\cU (eV c) S.op<0)\/∃I K d x,eH S c=some (K,x)/\nR S c.core c.fd=x.num/\x.num≠0/\bM S x.num=(K:Nat)/\S.ins[K]? =some x/\S.op[I]? =some d/\cU (eV c) S.op=(I:Nat)/\x.dir=false/\d.core=c.core/\d.fd=c.fd:=by
 obtain⟨d1,d2,d3⟩:=pL S.op none M.descs;have a0:cU (eV c) S.op=bO (λd:PDesc=>(d.core==c.core)&&(d.fd==c.fd)) S.op 0:=rfl;rcases vL c.core c.fd S.op 0 with⟨h1,h2,h3⟩|⟨I,d,h1,h2,h3,h4⟩
 .refine .inl ⟨?_,h1,by rw[a0,h2];decide⟩;unfold eH;rw[a0,h2,zB (by decide)]
 right;obtain⟨_,_,_,_,e5,x,e6,e7⟩:=d3 d (mG h1);have a2:=bE M.tree.rise d.num;obtain⟨K,hK⟩:∃K:Nat,aJ S.nums d.num=K:=⟨(aJ S.nums d.num).toNat,by omega⟩;rw[hK,zJ]at e6;have a1:bM S d.num=K:=by rw[<-a2,hK]
 have hn:=M.num a1 e6;have h0:=M.pos e6;rw[zM]at h4;simp only[zE,beq_iff_eq]at h2;refine⟨I,K,d,x,?_,by unfold nR;rw[h3,hn],by omega,by rw[hn];exact a1,e6,h1,by rw[a0,h4],e7,h2.1,h2.2⟩;unfold eH;rw[a0,h4,zA (by omega),zJ,h1];simp only;rw[hK,zJ,e6]
theorem vM (hr:Rise S.nums) {K:Nat} (hx:S.ins[K]? =some x) (hd:x.dir=false):lO S x.num=qM S x.num:=by
 have hf:=mO hr (cC hx);unfold lO qM;rw[hf,zJ,hx];simp only;rw[hd,lS];by_cases h1:0<(dO S x.num:Int)
 .rw[zB h1];have:((dO S x.num:Int)==0)=false:=by rw[yF];omega
  rw[this];simp
 rw[zA h1];have:((dO S x.num:Int)==0)=true:=by rw[beq_iff_eq];omega
 rw[this];show(if mR S.op x.num=true then S else _)=_;cases ho:mR S.op x.num with
 |true=>simp
 | false=>simp only[zP,if_false,Bool.not_false,Bool.and_true,if_true];congr 1;refine kC S.ins K x hx (by simp) (λi y hi hy=>?_);rw[yL,yF];intro e;have h2:=cC hy;rw[e]at h2;exact hi (hr.inj h2 (cC hx))
theorem aMH (M:MayX S) {c:PCall} {I:Nat} {d:PDesc} (hI:S.op[I]? =some d) (hc:d.core=c.core) (hf:d.fd=c.fd):lH c.core c.fd S.op=aM S.op I:=by
 obtain⟨d1,d2,d3⟩:=pL S.op none M.descs;refine kC S.op I d hI (by simp[hc,hf]) (λi y hi hy=>?_);rw[yL,<-Bool.not_eq_true];intro e;simp only[zE,beq_iff_eq]at e;rcases Nat.lt_or_gt_of_ne hi with h|h
 .have:=d1 i I y d hy hI h;omega
 have:=d1 I i d y hI hy h;omega
theorem gW {x:Int}:sP x=true↔0<=x/\x<=256:=by unfold sP;simp
theorem aZL (M:MayX S) (c:PCall) (R:Except Int (PSt × PRes)) (hR:(c.kind=3/\R=lR S c PRes.zero)\/(c.kind=4/\R=rL S c PRes.zero)\/(c.kind=5/\R=lC S c PRes.zero)\/(c.kind=6/\R=lD S c PRes.zero)\/(c.kind=7/\R=rM S c PRes.zero)\/(c.kind=15/\R=lQ S c PRes.zero)) (B b:Nat) (iv ov mv:Value) (ww:World) (hb:Blk ww b #[iv,ov,mv] 26) (ho:StOwn B ww iv ov mv S) (hB:B<=ww.heap.size) (hBb:B<=b):
 Calls prog 95 #[.pointer b,.agg #[c.kind,c.core,c.fd,c.off,c.num,c.path,c.path2,c.data]] ww (ByOut B b ww R):=by
 rcases M.file_ c with⟨h1,h2,h3⟩|⟨I,K,d,x,h1,h2,h3,h4,h5,h6,h7,h8,h9,h10⟩
 .have e:R=.error 4:=by
   rcases hR with⟨_,rfl⟩|⟨_,rfl⟩|⟨_,rfl⟩|⟨_,rfl⟩|⟨_,rfl⟩|⟨_,rfl⟩
   .unfold lR;rw[h1]
   .unfold rL;rw[h1]
   .unfold lC;rw[h1]
   .unfold lD;rw[h1]
   .unfold rM;rw[h1]
   unfold lQ;rw[zB h3]
  rw[e];exact bAL B b S iv ov mv c.kind c.core c.fd c.off c.num c.path c.path2 c.data ww hb ho hB hBb M.wf 0 h2 rfl
 have a0 :=M.tree.data x (mG h5);rcases hR with⟨hk,rfl⟩|⟨hk,rfl⟩|⟨hk,rfl⟩|⟨hk,rfl⟩|⟨hk,rfl⟩|⟨hk,rfl⟩
 .unfold lR;rw[h1,hk,h7,zJ];have:=bAJ B b S iv ov mv c.core c.fd c.off c.num c.path c.path2 c.data ww hb ho hB hBb M.wf x.num h2 h3 K x h4 h5;rw[aMH M h6 h9 h10,vM (S:={ S with op:=aM S.op I}) M.tree.rise h5 h8]at this;exact this
 .unfold rL;rw[h1,hk];simp only;by_cases hin:(sP c.off&&sP c.num)=true
  .rw[zB hin];rw[zE,gW,gW]at hin;exact aYH B b S iv ov mv c.core c.fd c.off c.num c.path c.path2 c.data ww hb ho hB hBb M.wf x.num h2 h3 K x h4 h5 c.off.toNat c.num.toNat (by omega) (by omega) (by omega) (by omega) (by omega)
  rw[zA hin];rw[zE,gW,gW]at hin;exact aYL B b S iv ov mv c.core c.fd c.off c.num c.path c.path2 c.data ww hb ho hB hBb M.wf x.num h2 h3 K x h4 h5 (by omega)
 .unfold lC;rw[h1,hk];simp only;by_cases hin:(sP c.off&&sP (c.data.size:Int))=true
  .rw [zB hin];rw[zE,gW,gW]at hin;by_cases hs:256<c.off+c.data.size
   .rw[zB hs];exact aYO B b S iv ov mv c.core c.fd c.off c.num c.path c.path2 c.data ww hb ho hB hBb M.wf x.num h2 h3 K x h4 h5 (by omega) (by omega) (by omega) hs
   rw [zA hs];by_cases hz:c.data.size=0
   .have:=aYP B b S iv ov mv c.core c.fd c.off c.num c.path c.path2 c.data ww hb ho hB hBb M.wf x.num h2 h3 K x h4 h5 (by omega) (by omega) hz;have e:aAL x.data c.off.toNat c.data=x.data:=by unfold aAL;rw[zB hz]
    rw[e,hz];have e2:S.ins.set K { x with data:=x.data}=S.ins:=by obtain⟨hl,hg⟩:=gI.1 h5;have:({ x with data:=x.data}:PIn)=S.ins[K]:=hg.symm;rw[this];exact set_getElem_self hl
    rw[e2];exact this
   exact aYJ B b S iv ov mv c.core c.fd c.off c.num c.path c.path2 c.data ww hb ho hB hBb M.wf x.num h2 h3 K x h4 h5 c.off.toNat (by omega) hz (by omega) (by omega)
  rw[zA hin];rw[zE,gW,gW]at hin;exact aYM B b S iv ov mv c.core c.fd c.off c.num c.path c.path2 c.data ww hb ho hB hBb M.wf x.num h2 h3 K x h4 h5 (by omega)
 .unfold lD;rw[h1,hk];simp only;by_cases hin:sP c.num=true
  .rw[zB hin];rw[gW]at hin;exact aYI B b S iv ov mv c.core c.fd c.off c.num c.path c.path2 c.data ww hb ho hB hBb M.wf x.num h2 h3 K x h4 h5 c.num.toNat (by omega) (by omega)
  rw[zA hin];rw[gW]at hin;exact aYN B b S iv ov mv c.core c.fd c.off c.num c.path c.path2 c.data ww hb ho hB hBb M.wf x.num h2 h3 K x h4 h5 (by omega)
 .unfold rM;rw[h1,hk];exact bAM B b S iv ov mv c.core c.fd c.off c.num c.path c.path2 c.data ww hb ho hB hBb M.wf x.num h2 h3 K x h4 h5
 unfold lQ;rw[zA (by omega),hk];exact aYK B b S iv ov mv c.core c.fd c.off c.num c.path c.path2 c.data ww hb ho hB hBb M.wf x.num h2 h3 K x h4 h5
end
section
structure OInv (c:Int) (pre:List PDesc) (f a:Nat):Prop where
 le:a<=pre.length
 low:∀(j:Nat) (d:PDesc),j<a->pre[j]? =some d->d.core<c\/(d.core=c/\d.fd<f)
 high:∀(j:Nat) (d:PDesc),a<=j->pre[j]? =some d->c<d.core\/(d.core=c/\(f:Int)<d.fd)
 all:∀v:Nat,v<f->∃d∈pre,d.core=c/\d.fd=v
theorem aAV (c:Int):∀(l pre:List PDesc) (f a:Nat),aZK (pre++l)->(∀d∈pre++l,0<=d.fd)->OInv c pre f a->OInv c (pre++l) (dK c l pre.length f a).1 (dK c l pre.length f a).2
 | [],pre,f,a,_,_,h=>by unfold dK;rw[append_nil];exact h
 | o :: r, pre,f,a,hs,hp,h=>by
   unfold dK;have a0:(pre++[o]).length=pre.length+1:=by simp
   have a1:pre++o::r=(pre++[o])++r:=by simp
   rw[a1]at hs hp |-;rw[<-a0];have a2:∀(j:Nat) (d:PDesc),pre[j]? =some d->d.core<o.core\/(d.core=o.core/\d.fd<o.fd):=by
    intro j d hd;obtain⟨hl,_⟩:=gI.1 hd;refine hs j pre.length d o ?_ ?_ hl
    .rw[yU,zZ hl];exact hd
    simp
   have a4:0<=o.fd:=hp o (by simp);have a3:∀d∈pre,∃j:Nat,pre[j]? =some d:=λd hd=>getElem?_of_mem hd;refine aAV c r (pre++[o]) _ _ hs hp ?_;by_cases h1:o.core=c/\o.fd=f
   .rw [zB h1,zB (Or.inr h1)];have ha:a=pre.length:=by
     rcases Nat.lt_or_ge a pre.length with hl|hl
     .exfalso;have hd:=gE hl;have h2:=h.high a _ (zC _) hd;have h3:=a2 a _ hd;omega
     have:=h.le;omega
    refine⟨by rw[a0];omega,λj d hj hd=>?_,λj d hj hd=>?_,λv hv=>?_⟩
    .rcases Nat.lt_or_ge j pre.length with hl|hl
     .rw[zZ hl]at hd;have:=h.low j d (by omega) hd;omega
     have:j=pre.length:=by omega
     subst this;simp at hd;subst hd;omega
    .obtain⟨hl,_⟩:=gI.1 hd;omega
    by_cases hvf:v=f
    .exact⟨o,by simp,h1.1,by omega⟩
    obtain⟨d,hd,e1,e2⟩:=h.all v (by omega);exact⟨d,by simp[hd],e1,e2⟩
   rw [zA h1];by_cases h2:o.core<c
   .rw [zB (Or.inl h2)];have ha:a=pre.length:=by
     rcases Nat.lt_or_ge a pre.length with hl|hl
     .exfalso;have hd:=gE hl;have h3:=h.high a _ (zC _) hd;have h4:=a2 a _ hd;omega
     have:=h.le;omega
    refine⟨by rw[a0];omega,λj d hj hd=>?_,λj d hj hd=>?_,λv hv=>?_⟩
    .rcases Nat.lt_or_ge j pre.length with hl|hl
     .rw[zZ hl]at hd;exact h.low j d (by omega) hd
     have:j=pre.length:=by omega
     subst this;simp at hd;subst hd;omega
    .obtain⟨hl,_⟩:=gI.1 hd;omega
    obtain⟨d,hd,e1,e2⟩:=h.all v hv;exact⟨d,by simp[hd],e1,e2⟩
   rw [zA (by
    rintro(e|e)
    .exact h2 e
    exact h1 e)]
   refine⟨by rw[a0];have:=h.le;omega,λj d hj hd=>?_,λj d hj hd=>?_,λv hv=>?_⟩
   .have:=h.le;rw[zZ (by omega)]at hd;exact h.low j d hj hd
   .rcases Nat.lt_or_ge j pre.length with hl|hl
    .rw[zZ hl]at hd;exact h.high j d hj hd
    obtain⟨hl2,_⟩:=gI.1 hd;have:j=pre.length:=by omega
    subst this;simp at hd;subst hd;by_cases h3:o.core=c
    .right;refine⟨h3,?_⟩;rcases Int.lt_or_le (f:Int) o.fd with h4|h4
     .exact h4
     exfalso;obtain⟨y,hy,e1,e2⟩:=h.all o.fd.toNat (by omega);obtain⟨i,hi⟩:=a3 y hy;have:=a2 i y hi;omega
    left;omega
   obtain⟨d,hd,e1,e2⟩:=h.all v hv;exact⟨d,by simp[hd],e1,e2⟩
variable {S:PSt} {c v:Int}
theorem MayX.open_ (M:MayX S) (c:Int):OInv c S.op (dK c S.op 0 0 0).1 (dK c S.op 0 0 0).2:=by obtain⟨d1,d2,d3⟩:=pL S.op none M.descs;have:=aAV c S.op [] 0 0 (by simpa using d1) (λd hd=>(d3 d (by simpa using hd)).2.2.1) ⟨zC _,λj d hj=>by omega,λj d _ hd=>by simp at hd,λv hv=>by omega⟩;simpa using this
theorem MayX.fd_have (M:MayX S) (h:∃d∈S.op,d.core=c/\d.fd=v):nR S c v≠0:=by
 obtain⟨d,hd,e1,e2⟩:=h;obtain⟨d1,d2,d3⟩:=pL S.op none M.descs;unfold nR;rcases vL c v S.op 0 with⟨_,_,h3⟩|⟨k,y,h1,h2,h3,_⟩
 .have:=h3 d hd;simp[e1,e2]at this
 rw[h3];obtain⟨_,_,_,_,e5,x,e6,_⟩:=d3 y (mG h1);have a0:=bE M.tree.rise y.num;obtain⟨K,hK⟩:∃K:Nat,aJ S.nums y.num=K:=⟨(aJ S.nums y.num).toNat,by omega⟩;rw[hK,zJ]at e6;have a1:bM S y.num=K:=by rw[<-a0,hK]
 have hn:=M.num a1 e6;have h0:=M.pos e6;omega
theorem aUG (h:∀d∈S.op,¬(d.core=c/\d.fd=v)):nR S c v=0:=by
 unfold nR;rcases vL c v S.op 0 with⟨h1,_,_⟩|⟨k,y,h1,h2,_,_⟩
 .exact h1
 simp only[zE,beq_iff_eq]at h2;exact absurd h2 (h y (mG h1))
theorem sQ (S:PSt) (c:PCall) (r:PRes):rP S c r=match rD S c.path with
 |.error k=>.error k
 | .ok K=>match S.ins[K]? with
   |none=>.ok (S,r)
   | some x=>if x.dir=true then .error 8 else if 4<=(dK c.core S.op 0 0 0).1 then .error 10 else
     .ok ({ S with op:=uV S.op (dK c.core S.op 0 0 0).2 ⟨c.core,(dK c.core S.op 0 0 0).1,x.num⟩},{ r with fd:=(dK c.core S.op 0 0 0).1}):=by
 unfold rP rD rB;by_cases hp:(aA c.path).1≠0
 .rw[zB hp,zB hp]
 rw[zA hp,zA hp];by_cases hw:(aK S 0 (aA c.path).2).2≠0
 .rw[zB hw,zB hw]
 rw[zA hw,zA hw];simp only;rcases S.ins[(aK S 0 (aA c.path).2).1]? with _|x<;>rfl
theorem aZM (M:MayX S) (c:PCall) (B b:Nat) (iv ov mv:Value) (ww:World) (hb:Blk ww b #[iv,ov,mv] 26) (ho:StOwn B ww iv ov mv S) (hB:B<=ww.heap.size) (hBb:B<=b):
 Calls prog 94 #[.pointer b,.agg #[c.kind,c.core,c.fd,c.off,c.num,c.path,c.path2,c.data],.int .i64 (-1)] ww (aWX B b ww (rP S c PRes.zero)):=by
 rw[sQ];have hf:=M.find_ c.path;rcases hat:rD S c.path with k|K
 .rw[hat]at hf;obtain⟨hk0,n,hn⟩:=hf;exact aJR b S iv ov mv c.kind c.core c.fd c.off c.num c.path c.path2 c.data ww hb ho.read M.fineR n k hn hk0
 rw [hat]at hf;obtain⟨x,hn,hx,hK⟩:=hf;simp only[hx];cases hd:x.dir with
 |true=>exact aJS b S iv ov mv c.kind c.core c.fd c.off c.num c.path c.path2 c.data ww hb ho.read M.fineR x.num 0 hn rfl K x hK hx hd
 | false=>
   simp only[zP,if_false];have hI:=M.open_ c.core;generalize(dK c.core S.op 0 0 0).1=J at hI |-;generalize(dK c.core S.op 0 0 0).2=a at hI |-;by_cases h4:4<=J
   .rw[zB h4];exact aJT b S iv ov mv c.kind c.core c.fd c.off c.num c.path c.path2 c.data ww hb ho.read M.fineR x.num 0 hn rfl K x hK hx hd (λi h0 h3=>by
     obtain⟨d,hd1,e1,e2⟩:=hI.all i.toNat (by omega);exact M.fd_have ⟨d,hd1,e1,by omega⟩)
   rw[zA h4];have a0:nR S c.core J=0:=aUG λd hd1 e=>by
    obtain⟨j,hj⟩:=getElem?_of_mem hd1;rcases Nat.lt_or_ge j a with hl|hl
    .have:=hI.low j d hl hj;omega
    have:=hI.high j d hl hj;omega
   have:=aPA B b S iv ov mv c.kind c.core c.fd c.off c.num c.path c.path2 c.data x.num K x J ww hb ho hB hBb M.fineR hn hK hx hd (by omega) (by omega) a0 (λi h0 h3=>by
    obtain⟨d,hd1,e1,e2⟩:=hI.all i.toNat (by omega);exact M.fd_have ⟨d,hd1,e1,by omega⟩)
   have a1:cQ (fK c.core J) (⟨c.core,J,x.num⟩:PDesc) S.op false []=uV S.op a ⟨c.core,J,x.num⟩:=by
    refine xH hI.le (λi e hi he=>?_) (λe he=>?_)
    .have:=hI.low i e hi he;unfold fK;simp only[yV,yW,Bool.and_eq_false_iff,yF];omega
    have:=hI.high a e (zC _) he;unfold fK;simp only[yI,zI,zE,beq_iff_eq];omega
   rw[a1]at this;exact this
end
section
variable {K k:Nat} {S:PSt} {x y:PIn}
theorem gX (hx:S.ins[k]? =some x) (hd:x.dir=true):bC S k=x.ents.map λe=>(bM S e.num).toNat:=by unfold bC;rw[hx];simp[hd]
theorem MayX.once (M:MayX S) {j:Nat} (hx:S.ins[j]? =some x) (hd:x.dir=true) {k1 k2:Nat} (h1:j∈bC S k1) (h2:j∈bC S k2):k1=k2/\(bC S k1).count j=1:=by
 have a1:j≠0:=λe=>M.tree.root k1 (e ▸ h1);have ho:=M.tree.once j x hx hd a1;have a0:∀k,j∈bC S k->k<S.ins.length:=λk hk=>by
  rcases Nat.lt_or_ge k S.ins.length with h|h
  .exact h
  unfold bC at hk;rw[getElem?_eq_none h]at hk;cases hk
 have c1:1<=(bC S k1).count j:=count_pos_iff.2 h1;have c2:1<=(bC S k2).count j:=count_pos_iff.2 h2;have hs:cX (λk=>(bC S k).count j) S.ins.length=1:=by have h9:(bC S k1).count j<=cX (λk=>(bC S k).count j) S.ins.length:=aMC (f:=λk=>(bC S k).count j) (a0 k1 h1);omega
 obtain⟨p,hp,hp1,hp2⟩:=aAC hs;have e1:k1=p:=by
  rcases Nat.decEq k1 p with h|h
  .have:=hp2 k1 (a0 k1 h1) h;omega
  exact h
 have e2:k2=p:=by
  rcases Nat.decEq k2 p with h|h
  .have:=hp2 k2 (a0 k2 h2) h;omega
  exact h
 subst e1;exact⟨e2.symm,hp1⟩
theorem MayX.walk_self (M:MayX S) (hy:S.ins[K]? =some y) (hd:y.dir=true) (hK:K∈bC S K):∀(ns:List ByteArray) (k:Nat),k≠K->(aK S k ns).2=0->(aK S k ns).1≠K
 |[],k,hk,_=>hk
 | n :: r, k,hk,h=>by
   unfold aK at h |-;rcases hx:S.ins[k]? with _|x
   .rw[hx]at h;cases h
   rw [hx]at h;simp only at h |-;by_cases hxd:x.dir=true
   .rw [zB hxd]at h |-;by_cases hh:bR x.ents n=true
    .rw [zB hh]at h |-;rcases he:x.ents[cY x.ents n]? with _|e
     .rw[he]at h;cases h
     rw[he]at h;simp only at h |-;refine M.walk_self hy hd hK r _ (λe2=>?_) h;rw[bE M.tree.rise]at e2;have hm:K∈bC S k:=by rw[gX hx hxd,<-e2];exact mem_map_of_mem (mG he)
     exact hk (M.once hy hd hm hK).1
    rw[zA hh]at h;cases h
   rw[zA hxd]at h;cases h
theorem MayX.par_self (M:MayX S) {p:ByteArray} {l:ByteArray} (hp:bW S p=.ok (K,l)) (hy:S.ins[K]? =some y) (hd:y.dir=true):K∉bC S K:=by
 intro hK;have a0:K≠0:=λe=>M.tree.root K (by rw[<-e];exact hK);unfold bW at hp;split at hp
 .cases hp
 unfold bB at hp;split at hp
 .cases hp
 split at hp
 .cases hp
 rename_i hw;split at hp
 .split at hp
  .cases hp;exact M.walk_self hy hd hK _ 0 (λe=>a0 e.symm) (by simpa using hw) rfl
  cases hp
 cases hp
theorem vN (n:Int):∀xs:List PIn,(∀x∈xs,x.dir=true->∀e∈x.ents,e.num≠n)->dA n xs=0
 |[],_=>rfl
 | x :: r,h=>by
   unfold dA;rw[vN n r λy hy=>h y (zL _ hy)];have hx:=h x zQ;have:∀es:List PEnt,(x.dir=true->∀e∈es,e.num≠n)->cV n x es=0:=by
    intro es
    induction es with
    |nil=>intro _;rfl
    | cons e es ih=>
      intro hh;unfold cV;rw[ih λhd e' he'=>hh hd e' (zL _ he')];cases hd:x.dir with
      |false=>simp
      | true=>
        have:=hh hd e zQ;have hb:(e.num==n)=false:=by simpa using this
        simp[hb]
   rw[this x.ents hx]
theorem aAW {α:Type} {l:List α} {z:α} (h:z∈aM l k):∃i,i≠k/\l[i]? =some z:=by
 unfold aM at h;rcases mem_append.1 h with h|h
 .obtain⟨i,hi⟩:=getElem?_of_mem h;obtain⟨hl,_⟩:=gI.1 hi;rw[zU]at hl;rw[yO,zB (by omega)]at hi;exact⟨i,by omega,hi⟩
 obtain⟨i,hi⟩:=getElem?_of_mem h;rw[yN]at hi;exact⟨k+1+i,by omega,hi⟩
theorem sR {α:Type} (f:α->Nat) (j:Nat):∀(l:List α) (p q:Nat) (a b:α),l[p]? =some a->l[q]? =some b->p<q->f a=j->f b=j->2<=(l.map f).count j
 |[],p,q,a,b,h,_,_,_,_=>by simp at h
 | z::r,0,q,a,b,ha,hb,hpq,h1,h2=>by
   simp only[zH,zF]at ha;subst ha;obtain⟨q,rfl⟩:∃q',q=q'+1:=⟨q-1,by omega⟩;rw[xB,count_cons,h1];have:1<=(r.map f).count j:=count_pos_iff.2 (by
    rw[<-h2];exact mem_map_of_mem (mG (by simpa using hb)))
   rw[zB (by simp)];omega
 | z::r,p+1,q,a,b,ha,hb,hpq,h1,h2=>by obtain⟨q,rfl⟩:∃q',q=q'+1:=⟨q-1,by omega⟩;rw[xB,count_cons];have:=sR f j r p q a b (by simpa using ha) (by simpa using hb) (by omega) h1 h2;omega
theorem aKG (h:S.wf) (hx:S.ins[K]? =some x) {es:List PEnt} (hl:es.length<=1000000000) (he:∀e∈es,I64 e.num):(S.ents K x es).wf:=by
 obtain⟨h1,h2,h3,h4,h5,h6⟩:=h;refine⟨by show(S.ins.set K _).length<=_;rw[yB];exact h1,h2,h3,λz hz=>?_,h5,h6⟩;rcases mem_or_eq_of_mem_set hz with hz|rfl
 .exact h4 z hz
 exact⟨(h4 x (mG hx)).1,hl,he⟩
theorem aXC (M : MayX S) (c:PCall) (hk:c.kind=9\/c.kind=10) (B b:Nat) (iv ov mv:Value) (ww:World) (hb:Blk ww b #[iv,ov,mv] 26) (ho:StOwn B ww iv ov mv S) (hB:B<=ww.heap.size) (hBb:B<=b):
 Calls prog 96 #[.pointer b,.agg #[c.kind,c.core,c.fd,c.off,c.num,c.path,c.path2,c.data]] ww (ByOut B b ww (hJ S c PRes.zero)):=by
 unfold hJ;have hp:=M.par c.path;rcases hpx:bW S c.path with q|⟨K,l⟩
 .rw[hpx]at hp;obtain⟨hq,D,nm,hpar⟩:=hp;exact aCQ b S iv ov mv c.kind c.core c.fd c.off c.num c.path c.path2 c.data ww hb ho.read M.fineR (by omega) D nm q hpar hq
 rw [hpx] at hp;obtain⟨y,hpar,hy,hat1,hyd,hl⟩:=hp;simp only[hy];cases hh:bR y.ents l with
 | false=>have a1:=M.ent_miss hat1 hy hh;exact aCR b S iv ov mv c.kind c.core c.fd c.off c.num c.path c.path2 c.data ww hb ho.read M.fineR (by omega) y.num l 0 hpar rfl a1
 | true =>
   obtain⟨e,he,hen0,hen,h0,hm⟩:=M.ent_hit hat1 hy hh;have a3:=mG hy;obtain⟨K0,x,hat,hx,hxn,_⟩:=M.kid a3 hm;have a8:=aCJ (M.asc y a3) hh;simp only[Bool.true_eq_false,if_false,he];have a5:=M.wf.2.2.2.1 y a3;have a4:(S.ents K y (dS l y.ents)).wf:=aKG M.wf hy (zD (length_filter_le _ _) a5.2.1) λz hz=>a5.2.2 z (mem_filter.1 hz).1;have hn:=aSM B b S iv ov mv c.kind c.core c.fd c.off c.num c.path c.path2 c.data ww hb ho hB hBb M.fineR hk y.num l 0 hpar rfl e.num hen h0 K0 x hat hx K y hat1 hy a4;refine hn.mono λe' w' h'=>?_;have a9:=h'.up;have a0:K0∈bC S K:=by rw[gX hy hyd];refine mem_map.2 ⟨e,hm,?_⟩;rw[hat];rfl
   have b0:K0≠K:=λe2=>M.par_self hpx hy hyd (by rw[e2]at a0;exact a0);have a6:(S.ents K y (aM y.ents (cY y.ents l))).nums=S.nums:=nD hy _;have hf:aJ (S.ents K y (aM y.ents (cY y.ents l))).nums e.num=(K0:Int):=by rw[a6,bE M.tree.rise,hat]
   have a2:(S.ents K y (aM y.ents (cY y.ents l))).ins[K0]? =some x:=by show(S.ins.set K _)[K0]? =_;rw[zX (λe2=>b0 e2.symm)];exact hx
   have a7:Rise (S.ents K y (aM y.ents (cY y.ents l))).nums:=by rw[a6];exact M.tree.rise
   have hX : upX (aEC S c.kind x K y l e.num)=aJO (S.ents K y (aM y.ents (cY y.ents l))) c PRes.zero e.num:=by
    unfold aEC aJO;rw[hf,zJ,a2,a8];simp only;by_cases h9:c.kind=9
    .rw[zB h9,zB h9];cases hd:x.dir with
     |true=>rfl
     | false=>simp only[zP,if_false];have:=vM a7 a2 hd;rw[hxn]at this;rw[this];rfl
    rw [zA h9,zA h9];cases hd:x.dir with
    |false=>rfl
    | true =>
      simp only[Bool.true_eq_false,if_false];by_cases hle:0<x.ents.length
      .rw[zB hle,zB hle];rfl
      rw [zA hle,zA hle];have b1:=M.once hx hd a0 a0;have hz:bX (S.ents K y (aM y.ents (cY y.ents l))) e.num=0:=by
       rw[lS];unfold dO;rw[vN]
       .rfl
       intro z hz hzd e2 he2 hc;obtain⟨i,hi⟩:=getElem?_of_mem hz;by_cases hik:i=K
       .subst hik;have:z={ y with ents:=aM y.ents (cY y.ents l)}:=by
         have h7:(S.ins.set i { y with ents:=aM y.ents (cY y.ents l)})[i]? =some z:=hi;obtain⟨hl7,_⟩:=gI.1 hy;rw[zY hl7]at h7;exact(Option.some.inj h7).symm
        subst this;obtain⟨j,hj1,hj2⟩:=aAW he2;have h2:2<=(y.ents.map λe=>(bM S e.num).toNat).count K0:=by
         rcases Nat.lt_or_gt_of_ne hj1 with h|h
         .exact sR (λe=>(bM S e.num).toNat) K0 y.ents j (cY y.ents l) e2 e hj2 he h (by rw[hc,hat];rfl) (by rw[hat];rfl)
         exact sR (λe=>(bM S e.num).toNat) K0 y.ents (cY y.ents l) j e e2 he hj2 h (by rw[hat];rfl) (by rw[hc,hat];rfl)
        rw[<-gX hy hyd]at h2;omega
       have h7:S.ins[i]? =some z:=by have h8:(S.ins.set K { y with ents:=aM y.ents (cY y.ents l)})[i]? =some z:=hi;rw[zX (λe2=>hik e2.symm)]at h8;exact h8
       have b2:K0∈bC S i:=by rw[gX h7 hzd];refine mem_map.2 ⟨e2,he2,?_⟩;rw[hc,hat];rfl
       exact hik (M.once hx hd b2 a0).1
      have b3:fG (S.ents K y (aM y.ents (cY y.ents l))) e.num=false:=by show S.op.any (λd=>d.num==e.num)=false;rw[any_eq_false];intro d hd2 hc;rw[beq_iff_eq]at hc;obtain⟨_,_,d3⟩:=pL S.op none M.descs;obtain⟨_,_,_,_,_,z,hz1,hz2⟩:=d3 d hd2;rw[bE M.tree.rise,hc,hat,zJ,hx]at hz1;cases hz1;rw[hd]at hz2;cases hz2
      unfold lO;rw[hz,zA (by omega),b3];simp only[zP,if_false];have b4:(S.ents K y (aM y.ents (cY y.ents l))).ins.filter (λx=>!(x.num==e.num))=aM (S.ents K y (aM y.ents (cY y.ents l))).ins K0:=by refine kC _ K0 x a2 (by simp[hxn]) (λi z hi hz=>?_);rw[yL,yF];intro e3;have h2:=cC hz;have h3:=cC a2;rw[e3]at h2;rw[hxn]at h3;exact hi (a7.inj h2 h3)
      rw[b4];rfl
   rw[<-hX];exact a9
end
section
theorem nX (S:PSt) (i j:Nat):∀ns:List Nat,j∈bV S i ns↔∃k∈ns,j∈bV S i [k]
 |[]=>by rw[sO];simp
 | k ::r=>by
   rw[show k::r=[k]++r from rfl,kZ,yR,nX S i j r];constructor
   .rintro(h|⟨k2,h1,h2⟩)
    .exact⟨k,by simp,h⟩
    exact⟨k2,by simp[h1],h2⟩
   rintro⟨k2,h1,h2⟩;rcases mem_append.1 h1 with h|h
   .rw[mem_singleton.1 h]at h2;exact .inl h2
   exact .inr ⟨k2,h,h2⟩
theorem vO (S:PSt):∀(a b:Nat) (ns:List Nat),bV S (a+b) ns=bV S b (bV S a ns)
 |0,b,ns=>by rw[zM];rfl
 | a+1,b,ns=>by rw[show a+1+b=(a+b)+1 by omega];exact vO S a b (ns.flatMap (bC S))
theorem lT (S:PSt) (i k:Nat):bV S (i+1) [k]=bV S i (bC S k):=by show bV S i ([k].flatMap (bC S))=_;simp
variable {S:PSt} {k:Nat} {n:ByteArray}
theorem aEP {f:Nat} {ns:List Nat} (h:bV S f ns=[]) (hk:k∈ns):bV S f [k]=[]:=by
 rcases e:bV S f [k]with _|⟨j,r⟩
 .rfl
 exfalso;have:j∈bV S f ns:=(nX S f j ns).2 ⟨k,hk,by rw[e];simp⟩;rw[h]at this;cases this
theorem MayX.walk_lev (M:MayX S):∀(ns:List ByteArray) (k:Nat),(aK S k ns).2=0->(aK S k ns).1∈bV S ns.length [k]
 |[],k,_=>by simp[aK,bV]
 | n ::r,k,h=>by
   unfold aK at h |-;rcases hx:S.ins[k]? with _|x
   .rw[hx]at h;cases h
   rw [hx]at h;simp only at h |-;by_cases hxd:x.dir=true
   .rw[zB hxd]at h |-;by_cases hh:bR x.ents n=true
    .rw[zB hh]at h |-;rcases he:x.ents[cY x.ents n]? with _|e
     .rw[he]at h;cases h
     rw[he]at h;simp only at h |-;rw[zK,lT,nX];refine⟨(aJ S.nums e.num).toNat,?_,M.walk_lev r _ h⟩;rw[gX hx hxd,bE M.tree.rise];exact mem_map_of_mem (mG he)
    rw[zA hh]at h;cases h
   rw[zA hxd]at h;cases h
theorem aHH {r0:List ByteArray} (h:(aK S k (n::r0)).2=0):∃k2,∀r,aK S k (n::r)=aK S k2 r:=by
 unfold aK at h;rcases hx:S.ins[k]? with _|x
 .rw[hx]at h;cases h
 rw [hx]at h;simp only at h;by_cases hxd:x.dir=true
 .rw [zB hxd]at h;by_cases hh:bR x.ents n=true
  .rw[zB hh]at h;rcases he:x.ents[cY x.ents n]? with _|e
   .rw[he]at h;cases h
   refine⟨(aJ S.nums e.num).toNat,λr=>?_⟩
   conv=>lhs;unfold aK
   rw[hx];simp only;rw[zB hxd,zB hh,he]
  rw[zA hh]at h;cases h
 rw[zA hxd]at h;cases h
theorem sU:∀(a b:List ByteArray) (k:Nat),(aK S k (a++b)).2=0->(aK S k a).2=0/\aK S k (a++b)=aK S (aK S k a).1 b
 |[],b,k,h=>⟨rfl,rfl⟩
 | n::a,b,k,h=>by rw[cons_append]at h |-;obtain⟨k2,hk⟩:=aHH h;rw[hk]at h |-;rw[hk];exact sU a b k2 h
theorem aMI (h:(aK S k [n]).2=0) (hr:Rise S.nums):(aK S k [n]).1∈bC S k:=by
 unfold aK at h |-;rcases hx:S.ins[k]? with _|x
 .rw[hx]at h;cases h
 rw [hx]at h;simp only at h |-;by_cases hxd:x.dir=true
 .rw[zB hxd]at h |-;by_cases hh:bR x.ents n=true
  .rw[zB hh]at h |-;rcases he:x.ents[cY x.ents n]? with _|e
   .rw[he]at h;cases h
   simp only;rw[gX hx hxd,bE hr];exact mem_map_of_mem (mG he)
  rw[zA hh]at h;cases h
 rw[zA hxd]at h;cases h
theorem MayX.climb (M:MayX S) {K0:Nat}:∀(i:Nat) (ns:List ByteArray) (kT:Nat),(aK S 0 ns).2=0->(aK S 0 ns).1=kT->eN S kT=true->kT∈bV S i [K0]->∃q,q<=ns.length/\(aK S 0 (ns.take q)).1=K0
 | 0,ns,kT,h1,h2,_,h4=>by
   have:kT=K0:=by simpa[bV]using h4
   exact⟨ns.length,zC _,by rw[take_length,h2,this]⟩
 | i +1,ns,kT,h1,h2,h3,h4=>by
   rw[gV]at h4;obtain⟨p,hp,hkp⟩:=mem_flatMap.1 h4;obtain⟨y,hy,hyd⟩:∃y,S.ins[kT]? =some y/\y.dir=true:=by
    unfold eN at h3;split at h3
    .rename_i x hx;exact⟨x,hx,h3⟩
    cases h3
   rcases eq_nil_or_concat ns with rfl|⟨r,n,rfl⟩
   .have:kT=0:=by rw[<-h2];rfl
    subst this;exact absurd hkp (M.tree.root p)
   rw[concat_eq_append]at h1 h2 |-;obtain⟨w1,w2⟩:=sU r [n] 0 h1;rw[w2]at h1 h2;have hk:=aMI h1 M.tree.rise;rw[h2]at hk;have a0:=(M.once hy hyd hkp hk).1;have a1:eN S p=true:=aAD (by intro e;rw[e]at hkp;cases hkp);obtain⟨q,hq,hq2⟩:=M.climb i r p w1 a0.symm a1 hp;refine⟨q,by simp;omega,?_⟩;rw[take_append_of_le_length hq];exact hq2
theorem MayX.within_ (M:MayX S) {kT:Nat} {yT:PIn} (hT:S.ins[kT]? =some yT) (hTd:yT.dir=true):∀(n K:Nat) (x:PIn),S.ins[K]? =some x->x.dir=true->bV S n [K]=[]->∃B,iH S yT.num n x.num=some B/\(B=true↔∃i,kT∈bV S i [K])
 |0,K,x,hx,hd,hl=>by cases hl
 | n + 1, K, x, hx,hd,hl=>by
   have a3:=mG hx;have a0:=cP M.tree.rise hx;have a1:=cP M.tree.rise hT;unfold iH;by_cases he:yT.num=x.num
   .rw[zB he];refine⟨true,rfl,⟨λ_=>⟨0,?_⟩,λ_=>rfl⟩⟩;have:kT=K:=by rw[he,a0]at a1;omega
    subst this;simp[bV]
   rw [zA he, a0,zJ,hx];simp only;rw[lT]at hl;have key:∀es:List PEnt,(∀e∈es,e∈x.ents)->∃B,aJV S (iH S yT.num n) es=some B/\(B=true↔∃e∈es,∃i,kT∈bV S i [(bM S e.num).toNat]):=by
    intro es
    induction es with
    |nil=>exact λ_=>⟨false,rfl,by simp⟩
    | cons e es ih=>
      intro hs;obtain⟨B,hB1,hB2⟩:=ih λe' he'=>hs e' (zL _ he');have a2:=hs e zQ;obtain⟨k,z,hk,hz,hzn,_⟩:=M.kid a3 a2;unfold aJV;rw[hk,zJ,hz];simp only;cases hzd:z.dir with
      | false =>
        rw[zA (by decide),hB1];refine⟨B,rfl,?_⟩;rw[hB2];constructor
        .rintro⟨e',h1,h2⟩;exact⟨e',zL _ h1,h2⟩
        rintro⟨e',h1,i,h2⟩;rcases mem_cons.1 h1 with rfl|h1
        .exfalso;rw[hk,zJ]at h2;have a4:bC S k=[]:=by
          unfold bC;rw[hz];simp[hzd]
         rcases i with _|i
         .have:kT=k:=by simpa[bV]using h2
          subst this;rw[hT]at hz;cases hz;rw[hTd]at hzd;cases hzd
         rw[lT,a4,sO]at h2;cases h2
        exact⟨e',h1,i,h2⟩
      | true=>
        rw[zB rfl];have a5:k∈bC S K:=by rw[gX hx hd];exact mem_map.2 ⟨e,a2,by rw[hk];rfl⟩
        obtain⟨B2,h1,h2⟩:=M.within_ hT hTd n k z hz hzd (aEP hl a5);rw[<-hzn,h1];cases B2 with
        | true=>refine⟨true,rfl,⟨λ_=>?_,λ_=>rfl⟩⟩;obtain⟨i,hi⟩:=h2.1 rfl;exact⟨e,zQ,i,by rw[hk];exact hi⟩
        | false=>
          simp only;refine⟨B,hB1,?_⟩;rw[hB2];constructor
          .rintro⟨e',h3,h4⟩;exact⟨e',zL _ h3,h4⟩
          rintro⟨e',h3,i,h4⟩;rcases mem_cons.1 h3 with rfl|h3
          .rw[hk]at h4;have:=h2.2 ⟨i,h4⟩;cases this
          exact⟨e',h3,i,h4⟩
   obtain⟨B,h1,h2⟩:=key x.ents λe he=>he;refine⟨B,h1,?_⟩;rw[h2];constructor
   .rintro⟨e,h3,i,h4⟩;refine⟨i+1,?_⟩;rw[lT,nX];exact⟨_,by rw[gX hx hd];exact mem_map_of_mem h3,h4⟩
   rintro⟨i,h4⟩;rcases i with _|i
   .exfalso;have:kT=K:=by simpa[bV]using h4
    subst this;rw[hT]at hx;cases hx;exact he rfl
   rw[lT,nX]at h4;obtain⟨k,h5,h6⟩:=h4;rw[gX hx hd]at h5;obtain⟨e,h7,h8⟩:=mem_map.1 h5;exact⟨e,h7,i,by rw[h8];exact h6⟩
end
section
variable {S:PSt} {es:List PEnt} {p t:ByteArray}
theorem aEQ {K:Nat} {l:ByteArray} (h:bW S p=.ok (K,l)):∃ns,(aA p).1=0/\(aA p).2=ns++[l]/\(aK S 0 ns).2=0/\(aK S 0 ns).1=K:=by
 unfold bW at h;split at h
 .cases h
 rename_i hp;unfold bB at h;split at h
 .cases h
 rename_i l' hl;split at h
 .cases h
 rename_i hw;split at h
 .split at h
  .cases h;refine⟨(aA p).2.dropLast,by simpa using hp,?_,by simpa using hw,rfl⟩;have a0:(aA p).2≠[]:=λe=>by rw[e]at hl;cases hl
   have h1:=dropLast_concat_getLast a0;rw[getLast?_eq_some_getLast a0]at hl;rw[Option.some.inj hl]at h1;exact h1.symm
  cases h
 cases h
theorem vP {α:Type} {l:List α} {k i:Nat} {z:α} (h:(aM l k)[i]? =some z):(i<k/\l[i]? =some z)\/(k<=i/\l[i+1]? =some z):=by
 unfold aM at h;rcases Nat.lt_or_ge i (l.take k).length with h1|h1
 .rw[zZ h1]at h;rw[zU]at h1;rw[yO,zB (by omega)]at h;exact .inl ⟨by omega,h⟩
 rw[yC h1,yN]at h;rw[zU]at h1 h;obtain⟨hl,_⟩:=gI.1 h;right;refine⟨by omega,?_⟩;rw[show i+1=k+1+(i-min k l.length) by omega];exact h
theorem aUH (h:Asc es) (k:Nat):Asc (aM es k):=by
 intro i j a b ha hb hij;rcases vP ha with⟨h1,h2⟩|⟨h1,h2⟩<;>rcases vP hb with⟨h3,h4⟩|⟨h3,h4⟩
 .exact h i j a b h2 h4 hij
 .exact h i (j+1) a b h2 h4 (by omega)
 .exact h (i+1) j a b h2 h4 (by omega)
 exact h (i+1) (j+1) a b h2 h4 (by omega)
theorem aUI (h:Asc es) (hh:bR es t=false) (k:Nat):bR (aM es k) t=false:=by
 cases hd:bR (aM es k) t with
 |false=>rfl
 | true=>exfalso;obtain⟨e,he,hn⟩:=pV.1 hd;obtain⟨i,_,hi⟩:=aAW (mG he);exact sD h hh e (mG hi) hn
theorem nY (c:PCall) (r:PRes):hU S c r=match bW S c.path with
 |.error k=>.error k
 | .ok (K1,s)=>match S.ins[K1]? with
   |none=>.error 0
   | some x1=>if bR x1.ents s=false then .error 1 else match x1.ents[cY x1.ents s]? with
     |none=>.error 0
     | some e=>match bW S c.path2 with
       |.error k=>.error k
       |.ok (K2,t)=>if(rC S e.num&&jE S (aA c.path2).2 e.num)=true then .error 9 else uR S r K1 x1 s e.num K2 t:=by
 unfold hU;by_cases hp:(aA c.path).1≠0
 .rw[zB hp];unfold bW;rw[zB hp]
 rw [zA hp];have e1:bW S c.path=bB S (aA c.path).2:=by unfold bW;rw[zA hp]
 rw[e1];by_cases hp2:(aA c.path2).1=0
 .rw [zB hp2];have e2:bW S c.path2=bB S (aA c.path2).2:=by unfold bW;rw[zA (by simpa using hp2)]
  rw[e2];unfold fQ kP;rcases bB S (aA c.path).2 with k|⟨K1,s⟩
  .rfl
  simp only;rcases S.ins[K1]? with _|x1
  .rfl
  simp only;cases hh:bR x1.ents s with
  |false=>rfl
  | true=>
    simp only[Bool.true_eq_false,if_false];rcases x1.ents[cY x1.ents s]? with _|e
    .rfl
    simp only;rcases bB S (aA c.path2).2 with k|⟨K2,t⟩<;>rfl
 rw [zA hp2];have e2:bW S c.path2=.error (eC (aA c.path2).1):=by unfold bW;rw[zB hp2]
 rw[e2];unfold nM;rcases bB S (aA c.path).2 with k|⟨K1,s⟩
 .rfl
 simp only;rcases hx:S.ins[K1]? with _|x1
 .rfl
 simp only;cases hh:bR x1.ents s with
 |false=>rfl
 | true=>obtain⟨e,he,_⟩:=pV.1 hh;simp only[Bool.true_eq_false,if_false,he]
theorem MayX.thru (M:MayX S) {K2 K0:Nat} (hp:bW S p=.ok (K2,t)) {x:PIn} (hx:S.ins[K0]? =some x) (hd2:eN S K2=true):jE S (aA p).2 x.num=true↔∃i,K2∈bV S i [K0]:=by
 obtain⟨ns,_,e,w1,w2⟩:=aEQ hp;rw[e];unfold jE;rw[any_eq_true];have a0:∀q,q<=ns.length->(ns++[t]).take q=ns.take q:=λq hq=>take_append_of_le_length hq;have a1:∀q,(aK S 0 (ns.take q)).2=0/\aK S 0 ns=aK S (aK S 0 (ns.take q)).1 (ns.drop q):=λq=>by have h:=sU (S:=S) (ns.take q) (ns.drop q) 0 (by rw[take_append_drop];exact w1);rw[take_append_drop]at h;exact h
 constructor
 .rintro⟨q,hq,ht⟩;have a2:q<=ns.length:=by simp at hq;omega
  unfold tZ at ht;rw[a0 q a2]at ht;split at ht
  .rename_i z hz
   rw[beq_iff_eq]at ht;have h1:=cC hz;rw[ht]at h1;have hk:=M.tree.rise.inj h1 (cC hx);obtain⟨_,h2⟩:=a1 q;rw[hk]at h2;refine⟨(ns.drop q).length,?_⟩;have h3:=M.walk_lev (ns.drop q) K0 (by rw[<-h2];exact w1);rw[<-h2,w2]at h3;exact h3
  cases ht
 rintro⟨i,hi⟩;obtain⟨q,hq,hq2⟩:=M.climb i ns K2 w1 w2 hd2 hi;refine⟨q,by simp;omega,?_⟩;unfold tZ;rw[a0 q hq,hq2,hx];simp
theorem aXD (M :MayX S) (c:PCall) (hk:c.kind=11) (B b:Nat) (iv ov mv:Value) (ww:World) (hb:Blk ww b #[iv,ov,mv] 26) (ho:StOwn B ww iv ov mv S) (hB:B<=ww.heap.size) (hBb:B<=b):
 Calls prog 96 #[.pointer b,.agg #[c.kind,c.core,c.fd,c.off,c.num,c.path,c.path2,c.data]] ww (ByOut B b ww (hU S c PRes.zero)):=by
 rw[nY];have hp:=M.par c.path;rcases hpx:bW S c.path with q|⟨K,l⟩
 .rw[hpx]at hp;obtain⟨hq,D,nm,hpar⟩:=hp;exact aCQ b S iv ov mv c.kind c.core c.fd c.off c.num c.path c.path2 c.data ww hb ho.read M.fineR (by omega) D nm q hpar hq
 rw [hpx] at hp;obtain⟨y,hpar,hy,hat1,hyd,hl⟩:=hp;simp only[hy];cases hh:bR y.ents l with
 | false=>have a0:=M.ent_miss hat1 hy hh;exact aCR b S iv ov mv c.kind c.core c.fd c.off c.num c.path c.path2 c.data ww hb ho.read M.fineR (by omega) y.num l 0 hpar rfl a0
 | true =>
   obtain⟨e,he,hen0,hen,h0,hm⟩:=M.ent_hit hat1 hy hh;have a2:=mG hy;obtain⟨K0,x,hat,hx,hxn,_⟩:=M.kid a2 hm;simp only[Bool.true_eq_false,if_false,he];have key :∃X:Except Int PSt,(match bW S c.path2 with
    |.error k=>.error k
    | .ok (K2,t)=>if(rC S e.num&&jE S (aA c.path2).2 e.num)=true then .error 9 else uR S PRes.zero K y l e.num K2 t)=upX X/\∀(w2:World),Blk w2 b #[iv,ov,mv] 26->StOwn B w2 iv ov mv S->B<=w2.heap.size->
      Calls prog 127 #[.pointer b,.agg #[c.kind,c.core,c.fd,c.off,c.num,c.path,c.path2,c.data],y.num,l,e.num] w2 (RefOut B b w2 X):=by
    have a6:=M.par c.path2;rcases hpx2:bW S c.path2 with q|⟨K2,t⟩
    .rw[hpx2]at a6;obtain⟨hq,T,n2,hpar2⟩:=a6;exact⟨.error q,rfl,λw2 hb2 ho2 hB2=>aJP B b S iv ov mv c.kind c.core c.fd c.off c.num c.path c.path2 c.data l y.num e.num w2 hb2 ho2.read M.fineR T n2 q hpar2 hq⟩
    rw [hpx2]at a6;obtain⟨y2,hpar2,hy2,hat2,hy2d,hl2⟩:=a6;have a3:=mG hy2;have b2:=aCJ (M.asc y a2) hh;have b3:=M.wf.2.2.2.1 y a2;have b4:(S.ents K y (dS l y.ents)).nums=S.nums:=nD hy _;have b6:Rise (S.ents K y (dS l y.ents)).nums:=by rw[b4];exact M.tree.rise
    have a4:bM (S.ents K y (dS l y.ents)) y2.num=K2:=by rw[<-bE b6,b4,bE M.tree.rise,hat2]
    have a7:(S.ents K y (dS l y.ents)).wf:=aKG M.wf hy (zD (length_filter_le _ _) b3.2.1) λz hz=>b3.2.2 z (mem_filter.1 hz).1;have b7:∀e∈y2.ents,e.name.size<=1000000000:=λe he=>by have:=M.tree.name y2 a3 e he;omega
    have a5:rC S e.num=x.dir:=by unfold rC;rw[bE M.tree.rise,hat,zJ,hx]
    have b8:eN S K2=true:=by unfold eN;rw[hy2];exact hy2d
    have a1:=M.thru hpx2 hx b8;rw[hxn]at a1;have a8:bV S 258 [K0]=[]:=by
     obtain⟨ns,_,_,w1,w2⟩:=aEQ hpx;have h1:=M.walk_lev ns 0 w1;rw[w2]at h1;have h2:K0∈bV S (ns.length+1) [0]:=by rw[gV];refine mem_flatMap.2 ⟨K,h1,?_⟩;rw[gX hy hyd];exact mem_map.2 ⟨e,hm,by rw[hat];rfl⟩
     have h3:bV S 258 (bV S (ns.length+1) [0])=[]:=by rw[<-vO,Nat.add_comm,vO,M.tree.ends,sO]
     exact aEP h3 h2
    obtain⟨W,hW,hWt⟩:∃W:Bool,(x.dir=true->∃n,iH S y2.num n e.num=some W)/\(x.dir=true->W=jE S (aA c.path2).2 e.num):=by
     cases hd:x.dir with
     |false=>exact⟨false,λh=>by(cases h),λh=>by(cases h)⟩
     | true=>obtain⟨B2,h1,h2⟩:=M.within_ hy2 hy2d 258 K0 x hx hd a8;rw[hxn]at h1;refine⟨B2,λ_=>⟨258,h1⟩,λ_=>?_⟩;apply Bool.eq_iff_iff.2;rw[h2,a1]
    obtain⟨z',hz'⟩:∃z',(S.ents K y (dS l y.ents)).ins[K2]? =some z':=by obtain⟨hl7,_⟩:=gI.1 hy2;exact⟨_,gE (by show K2<(S.ins.set K _).length;rw[yB];exact hl7)⟩
    refine⟨aTT S x W y2.num t (if y2.num=y.num then l else⟨#[]⟩) e.num y2 K y l K2 z',?_,λw2 hb2 ho2 hB2=>aJQ B b S iv ov mv c.kind c.core c.fd c.off c.num c.path c.path2 c.data l y.num e.num w2 hb2 ho2 hB2 hBb M.fineR y2.num t 0 hpar2 rfl K0 x hat hx W hW K y hat1 hy K2 y2 hat2 hy2 (by omega) b7 z' hz' a4 a7 _ rfl⟩;simp only;unfold aTT uR;rw[a5,hy2];have a9:(x.dir&&jE S (aA c.path2).2 e.num)=(x.dir&&W):=by
     cases hd:x.dir with
     |false=>rfl
     |true=>rw[hWt hd]
    rw[a9];by_cases ha:(x.dir&&W)=true
    .rw[zB ha,zB ha];rfl
    rw [zA ha,zA ha];simp only;cases hh2:bR y2.ents t with
    | true=>obtain⟨e2,_,_,hen2,h02,_⟩:=M.ent_hit hat2 hy2 hh2;rw[zB rfl,zB (by rw[hen2];exact h02)];rfl
    | false=>
      have a0:=M.ent_miss hat2 hy2 hh2;have b0:¬aW S y2.num t≠0:=by rw[a0];exact λh=>h rfl
      rw[zA (show ¬(false=true) by decide),zA b0];have b1:(if y.num=y2.num then l else(⟨#[]⟩:ByteArray))=if y2.num=y.num then l else⟨#[]⟩:=by
       by_cases h:y.num=y2.num
       .rw[zB h,zB h.symm]
       rw[zA h,zA (λe=>h e.symm)]
      rw[b1,mU];cases hF:eZ y2.ents t (if y2.num=y.num then l else⟨#[]⟩)with
      |true=>rfl
      | false=>
        simp only[zP,if_false];unfold tT;rw[<-b2,hz'];have b5:Asc z'.ents/\bR z'.ents t=false:=by
         by_cases hKK:K2=K
         .subst hKK;rw[hy]at hy2;cases hy2;have h7:(S.ins.set K2 { y with ents:=dS l y.ents})[K2]? =some z':=hz';obtain⟨hl7,_⟩:=gI.1 hy;rw[zY hl7]at h7;cases h7;simp only;rw[b2];exact⟨aUH (M.asc y a2) _,aUI (M.asc y a2) hh2 _⟩
         have h7:(S.ins.set K { y with ents:=dS l y.ents})[K2]? =some z':=hz';rw[zX (λe2=>hKK e2.symm),hy2]at h7;cases h7;exact⟨M.asc y2 a3,hh2⟩
        rw[xL b5.1 b5.2];rfl
   obtain⟨X,hX,hin⟩:=key;rw[hX];rw[hk]at hin |-;exact(aSL B b S iv ov mv c.core c.fd c.off c.num c.path c.path2 c.data ww hb ho hB hBb M.fineR y.num l 0 hpar rfl e.num hen h0 K0 x hat hx X (λw2 hw=>hin w2 (aB hb hw) (ho.on hw) (zD hB hw.size))).mono λe w' h=>h.up
end
section
def Good (X:Except Int (PSt × PRes)):Prop:=(∀k,X=.error k->k≠0)/\∀S' r,X=.ok (S',r)->r.code=0/\r.names=[]
theorem Good.err {k:Int} (h:k≠0):Good (.error k):=⟨λk' e=>(by cases e;exact h),λS' r e=>(by cases e)⟩
theorem Good.ok_ {S':PSt} {r:PRes} (h:r.code=0) (h2:r.names=[]):Good (.ok (S',r)):=⟨λk' e=>(by cases e),λS' r e=>(by cases e;exact⟨h,h2⟩)⟩
theorem Good.up {X:Except Int PSt} (h:∀k,X=.error k->k≠0):Good (upX X):=by
 rcases X with k|S'
 .exact .err (h k rfl)
 exact .ok_ rfl rfl
theorem Good.up2 {X:Except Int (PSt × PRes)} {q:Int} (h:Good X):(∀k,X=.error k->k≠0)/\∀S' r,X=.ok (S',r)->r.code=0/\(q≠12->r.names=[]):=⟨h.1,λS' r e=>⟨(h.2 S' r e).1,λ_=>(h.2 S' r e).2⟩⟩
variable {S:PSt}
theorem aGI (M:MayX S) (c:PCall) (hc0:0<=c.core) (hc1:c.core<S.made.length):Good (jO S c PRes.zero):=by
 rw[nW];have hp:=M.par c.path;rcases hpx:bW S c.path with q|⟨K,l⟩
 .rw[hpx]at hp;exact .err hp.1
 rw[hpx]at hp;obtain⟨y,hpar,hy,hat1,hyd,hl⟩:=hp;simp only[hy];by_cases hh:bR y.ents l=true
 .rw[zB hh];exact .err (by decide)
 rw[zA hh,gE (show c.core.toNat<S.made.length by omega)];simp only;split
 .exact .err (by decide)
 exact .ok_ rfl rfl
theorem aOK (M:MayX S) (c:PCall):Good (rP S c PRes.zero):=by
 rw[sQ];have hf:=M.find_ c.path;rcases hat:rD S c.path with k|K
 .rw[hat]at hf;exact .err hf.1
 rw[hat]at hf;obtain⟨x,hn,hx,hK⟩:=hf;simp only[hx];split
 .exact .err (by decide)
 split
 .exact .err (by decide)
 exact .ok_ rfl rfl
theorem jS (c:PCall) (R:Except Int (PSt × PRes)) (hR:(c.kind=3/\R=lR S c PRes.zero)\/(c.kind=4/\R=rL S c PRes.zero)\/(c.kind=5/\R=lC S c PRes.zero)\/(c.kind=6/\R=lD S c PRes.zero)\/(c.kind=7/\R=rM S c PRes.zero)\/(c.kind=15/\R=lQ S c PRes.zero)):Good R:=by
 rcases hR with⟨-,rfl⟩|⟨-,rfl⟩|⟨-,rfl⟩|⟨-,rfl⟩|⟨-,rfl⟩|⟨-,rfl⟩
 .unfold lR
  split
  .exact .err (by decide)
  exact .ok_ rfl rfl
 .unfold rL
  split
  .exact .err (by decide)
  split
  .exact .ok_ rfl rfl
  exact .err (by decide)
 .unfold lC
  split
  .exact .err (by decide)
  split
  .split
   .exact .err (by decide)
   exact .ok_ rfl rfl
  exact .err (by decide)
 .unfold lD
  split
  .exact .err (by decide)
  split
  .exact .ok_ rfl rfl
  exact .err (by decide)
 .unfold rM
  split
  .exact .err (by decide)
  exact .ok_ rfl rfl
 unfold lQ;split
 .exact .err (by decide)
 exact .ok_ rfl rfl
theorem aOL (M:MayX S) (c:PCall):Good (nP S c PRes.zero):=by
 unfold nP;have hf:=M.find_ c.path;rcases hat:rD S c.path with k|K
 .rw[hat]at hf;exact .err hf.1
 rw [hat]at hf;obtain⟨x,hn,hx,hK⟩:=hf;simp only[hx];split
 .exact .err (by decide)
 have hp:=M.par c.path2;rcases hpx:bW S c.path2 with q|⟨K1,l⟩
 .rw[hpx]at hp;exact .err hp.1
 rw[hpx]at hp;obtain⟨y,hpar,hy,hat1,hyd,hl⟩:=hp;unfold wN;simp only[hy];split
 .exact .err (by decide)
 split
 .exact .err (by decide)
 exact .ok_ rfl rfl
theorem aTA (M:MayX S) (c:PCall):Good (hJ S c PRes.zero):=by
 unfold hJ;have hp:=M.par c.path;rcases hpx:bW S c.path with q|⟨K,l⟩
 .rw[hpx]at hp;exact .err hp.1
 rw [hpx]at hp;obtain⟨y,hpar,hy,hat1,hyd,hl⟩:=hp;simp only[hy];cases hh:bR y.ents l with
 |false=>exact .err (by decide)
 | true=>
   obtain⟨e,he,hen0,hen,h0,hm⟩:=M.ent_hit hat1 hy hh;obtain⟨K0,x,hat,hx,hxn,_⟩:=M.kid (mG hy) hm;simp only[Bool.true_eq_false,if_false,he];unfold aJO;have a0:=nD hy (aM y.ents (cY y.ents l));rw[a0,bE M.tree.rise,hat,zJ];obtain⟨z',hz'⟩:∃z',(S.ents K y (aM y.ents (cY y.ents l))).ins[K0]? =some z':=by obtain⟨hl7,_⟩:=gI.1 hx;exact⟨_,gE (by show K0<(S.ins.set K _).length;rw[yB];exact hl7)⟩
   rw[hz'];simp only;split
   .split
    .exact .err (by decide)
    exact .ok_ rfl rfl
   split
   .exact .err (by decide)
   split
   .exact .err (by decide)
   exact .ok_ rfl rfl
theorem aTB (M:MayX S) (c:PCall):Good (hU S c PRes.zero):=by
 rw[nY];have hp:=M.par c.path;rcases hpx:bW S c.path with q|⟨K,l⟩
 .rw[hpx]at hp;exact .err hp.1
 rw [hpx]at hp;obtain⟨y,hpar,hy,hat1,hyd,hl⟩:=hp;simp only[hy];cases hh:bR y.ents l with
 |false=>exact .err (by decide)
 | true=>
   obtain⟨e,he,hen0,hen,h0,hm⟩:=M.ent_hit hat1 hy hh;simp only[Bool.true_eq_false,if_false,he];have a0:=M.par c.path2;rcases hpx2:bW S c.path2 with q|⟨K2,t⟩
   .rw[hpx2]at a0;exact .err a0.1
   rw [hpx2]at a0;obtain⟨y2,hpar2,hy2,hat2,hy2d,hl2⟩:=a0;show Good (if (rC S e.num&&jE S (aA c.path2).2 e.num)=true then .error 9 else uR S PRes.zero K y l e.num K2 t);by_cases hA:(rC S e.num&&jE S (aA c.path2).2 e.num)=true
   .rw[zB hA];exact .err (by decide)
   rw [zA hA];unfold uR;rw[hy2];simp only;split
   .exact .err (by decide)
   generalize eZ y2.ents t _=F;cases F with
   |true=>exact .err (by decide)
   | false=>
     show Good (tT S PRes.zero K y l e.num K2 t);unfold tT;obtain⟨z',hz'⟩:∃z',(S.ents K y (aM y.ents (cY y.ents l))).ins[K2]? =some z':=by obtain⟨hl7,_⟩:=gI.1 hy2;exact⟨_,gE (by show K2<(S.ins.set K _).length;rw[yB];exact hl7)⟩
     rw[hz'];exact .ok_ rfl rfl
theorem aOM (M:MayX S) (c:PCall) (hk:c.kind=12\/c.kind=13\/c.kind=14):(∀k,mA S c=.error k->k≠0)/\∀S' r,mA S c=.ok (S',r)->r.code=0/\(c.kind≠12->r.names=[]):=by
 rw[aAT hk];have hf:=M.find_ c.path;rcases hat:rD S c.path with k|K
 .rw[hat]at hf;exact Good.up2 (.err hf.1)
 rw [hat]at hf;obtain⟨x,hn,hx,hK⟩:=hf;simp only[hx];split
 .rename_i h12
  split
  .exact⟨λk e=>(by cases e),λS' r e=>(by cases e;exact⟨rfl,λh=>absurd h12 h⟩)⟩
  exact Good.up2 (.err (by decide))
 split
 .exact Good.up2 (.ok_ rfl rfl)
 split
 .exact Good.up2 (.err (by decide))
 exact Good.up2 (.ok_ rfl rfl)
theorem aGJ (M:MayX S) (c:PCall) (hc0:0<=c.core) (hc1:c.core<S.made.length) (hk0:0<=c.kind) (hk1:c.kind<=16):(∀k,eJ S c=.error k->k≠0)/\∀S' r,eJ S c=.ok (S',r)->r.code=0/\(c.kind≠12->r.names=[]):=by
 unfold eJ;by_cases k1:c.kind=0\/c.kind=1
 .rw[zB k1];exact Good.up2 (aGI M c hc0 hc1)
 rw[zA k1];by_cases k2:c.kind=2
 .rw[zB k2];exact Good.up2 (aOK M c)
 rw[zA k2];by_cases k3:c.kind=3
 .rw[zB k3];exact Good.up2 (jS c _ (.inl ⟨k3,rfl⟩))
 rw[zA k3];by_cases k4:c.kind=5
 .rw[zB k4];exact Good.up2 (jS c _ (.inr (.inr (.inl ⟨k4,rfl⟩))))
 rw[zA k4];by_cases k5:c.kind=6
 .rw[zB k5];exact Good.up2 (jS c _ (.inr (.inr (.inr (.inl ⟨k5,rfl⟩)))))
 rw[zA k5];by_cases k6:c.kind=8
 .rw[zB k6];exact Good.up2 (aOL M c)
 rw[zA k6];by_cases k7:c.kind=9\/c.kind=10
 .rw[zB k7];exact Good.up2 (aTA M c)
 rw[zA k7];by_cases k8:c.kind=11
 .rw[zB k8];exact Good.up2 (aTB M c)
 rw[zA k8];by_cases k9:c.kind=15
 .rw[zB k9];exact Good.up2 (jS c _ (.inr (.inr (.inr (.inr (.inr ⟨k9,rfl⟩))))))
 rw[zA k9];by_cases k10:c.kind=16
 .rw[zB k10];exact Good.up2 (.ok_ rfl rfl)
 rw[zA k10];by_cases j4:c.kind=4
 .unfold mA;rw[zB j4];exact Good.up2 (jS c _ (.inr (.inl ⟨j4,rfl⟩)))
 by_cases j7:c.kind=7
 .unfold mA;rw[zA j4,zB j7];exact Good.up2 (jS c _ (.inr (.inr (.inr (.inr (.inl ⟨j7,rfl⟩))))))
 exact aOM M c (by omega)
theorem bAH (M:MayX S) (c:PCall) (hc0:0<=c.core) (hc1:c.core<S.made.length) (hk0:0<=c.kind) (hk1:c.kind<=16) (iv ov mv:Value) (w:World) (h:StRead w iv ov mv S) (hm:vB w 30 #[.agg #[iv,ov,mv]] (.bool true)):
 Calls prog 64 #[.agg #[iv,ov,mv],.agg #[c.kind,c.core,c.fd,c.off,c.num,c.path,c.path2,c.data],.int .i64 (-1)] w (DoOut w (aLR S (eJ S c))):=by
 obtain⟨g1,g2⟩:=aGJ M c hc0 hc1 hk0 hk1;refine bBD S iv ov mv c.kind c.core c.fd c.off c.num c.path c.path2 c.data w h M.wf hm hc0 hc1 hk0 hk1 (eJ S c) g1 (λS' r e=>(g2 S' r e).1) (λS' r e=>(g2 S' r e).2) ?_ ?_ ?_ ?_ ?_ ?_
 .intro k B b iv' ov' mv' ww hb ho hB hBb;unfold eJ;rw[zB k];exact aZI M c k hc0 hc1 B b iv' ov' mv' ww hb ho hB hBb
 .intro k B b iv' ov' mv' ww hb ho hB hBb;unfold eJ;rw[zA (by omega),zB k];exact aZM M c B b iv' ov' mv' ww hb ho hB hBb
 .intro k B b iv' ov' mv' ww hb ho hB hBb;refine aZL M c (eJ S c) ?_ B b iv' ov' mv' ww hb ho hB hBb;unfold eJ;rw[zA (by omega),zA (by omega)];by_cases k3:c.kind=3
  .rw[zB k3];exact .inl ⟨k3,rfl⟩
  rw[zA k3];by_cases k5:c.kind=5
  .rw[zB k5];exact .inr (.inr (.inl ⟨k5,rfl⟩))
  rw[zA k5];by_cases k6:c.kind=6
  .rw[zB k6];exact .inr (.inr (.inr (.inl ⟨k6,rfl⟩)))
  rw[zA k6,zA (by omega),zA (by omega),zA (by omega)];by_cases k15:c.kind=15
  .rw[zB k15];exact .inr (.inr (.inr (.inr (.inr ⟨k15,rfl⟩))))
  rw[zA k15,zA (by omega)];unfold mA;by_cases k4:c.kind=4
  .rw[zB k4];exact .inr (.inl ⟨k4,rfl⟩)
  rw[zA k4,zB (by omega)];exact .inr (.inr (.inr (.inr (.inl ⟨by omega,rfl⟩))))
 .intro k B b iv' ov' mv' ww hb ho hB hBb;unfold eJ;rw[zA (by omega),zA (by omega),zA (by omega),zA (by omega),zA (by omega)];by_cases k8:c.kind=8
  .rw[zB k8];exact aXB M c k8 B b iv' ov' mv' ww hb ho hB hBb
  rw[zA k8];by_cases k9:c.kind=9\/c.kind=10
  .rw[zB k9];exact aXC M c k9 B b iv' ov' mv' ww hb ho hB hBb
  rw[zA k9,zB (by omega)];exact aXD M c (by omega) B b iv' ov' mv' ww hb ho hB hBb
 .intro k iv' ov' mv' ww hh;unfold eJ;rw[zA (by omega),zA (by omega),zA (by omega),zA (by omega),zA (by omega),zA (by omega),zA (by omega),zA (by omega),zA (by omega),zA (by omega)];exact aZH M c (by omega) iv' ov' mv' ww hh
 intro k;unfold eJ;rw[zA (by omega),zA (by omega),zA (by omega),zA (by omega),zA (by omega),zA (by omega),zA (by omega),zA (by omega),zA (by omega),zB k];rfl
theorem aTC {c:PCall} (h:gB S c=true):aLR S (eJ S c)=lX S c:=by
 unfold lX doM aLR;rw[zB h];rcases eJ S c with k|⟨S',r⟩<;>rfl
theorem bAI (hwf:S.wf) (c:PCall) (iv ov mv:Value) (w:World) (h:StRead w iv ov mv S) (hm:vB w 30 #[.agg #[iv,ov,mv]] (.bool (cS S))):
 Calls prog 31 #[.agg #[iv,ov,mv],.agg #[c.kind,c.core,c.fd,c.off,c.num,c.path,c.path2,c.data]] w λe w'=>Bl w w'/\aDL w.heap.size (lX S c).1 (lX S c).2 e w':=by
 refine bAN (lX S c) S iv ov mv c.kind c.core c.fd c.off c.num c.path c.path2 c.data w h λww hb=>?_;have hr:=h.below hb (zC _);have a0:∀w3,Bl ww w3->vR w3 30 #[.agg #[iv,ov,mv]] (.bool (cS S)):=λw3 hb3=>hm w3 (hb.trans (hb3.mono hb.size));cases hc:gB S c with
 | true=>rw[<-aTC hc];unfold gB at hc;simp only[zE,zI]at hc;obtain⟨⟨⟨⟨k0,k1⟩,c0⟩,c1⟩,hM⟩:=hc;rw[hM]at a0;exact bAH (pX hwf hM) c c0 c1 k0 k1 iv ov mv ww hr a0
 | false=>
   have e:lX S c=(S,⟨9,0,0,false,⟨#[]⟩,[]⟩):=by unfold lX doM;rw[hc];rfl
   rw[e];refine bAO S iv ov mv c.kind c.core c.fd c.off c.num c.path c.path2 c.data ww hr hwf (cS S) a0 ?_;cases hM:cS S with
   |false=>exact .inl rfl
   | true=>unfold gB at hc;rw[hM]at hc;simp only[Bool.and_true,Bool.and_eq_false_iff,yW]at hc;simp only[Bool.true_eq_false,true_and,false_or];omega
end
section
theorem aFM (s:ByteArray):∀b p,bZ s b p=true->s.size<=p+b->∀j,p<=j->j<s.size->(s.get! j).toNat≠47
 |0,p,h,hb,j,h1,h2=>by omega
 | b + 1,p,h,hb,j,h1,h2=>by
   unfold bZ at h;rw[zB (by omega),zE]at h;obtain⟨hr,hn⟩:=h;have hd:(Utf8.decode s p).1≠47:=by intro e;unfold fP at hr;rw[e]at hr;simp at hr
   obtain⟨w1,w2,w3⟩:=aSV (t:=s) (p:=p);by_cases e:j<p+(Utf8.decode s p).2
   .by_cases e2:j=p
    .subst e2;exact λh=>hd (aJC.2 h)
    have:=(w3 (j-p) (by omega) (by omega)).2
    rwa [show p+(j-p)=j by omega]at this
   exact aFM s b _ hn (by omega) j (by omega) h2
variable {j:Nat} {p s u x:ByteArray}
theorem aDW (h:dM x=true):(∀j,j<x.size->(x.get! j).toNat≠47)/\0<x.size/\bI x=0:=by
 unfold dM at h;have h0:cT x=0:=by simpa using h
 refine⟨?_,?_,by rw[sC];exact h0⟩
 .unfold cT at h0
  split at h0
  .cases h0
  split at h0
  .cases h0
  split at h0
  .rename_i hc
   exact λj hj=>aFM x _ 0 hc (by omega) j (by omega) hj
  cases h0
 unfold cT at h0;split at h0
 .cases h0
 split at h0
 .cases h0
 rename_i h1;rcases Nat.eq_zero_or_pos x.size with e|e
 .exfalso;apply h1;have:x.toList=[]:=by rw[zW];exact zT e
  rw[this];rfl
 exact e
theorem aVK (h1:bI x≠801) (h2:bI x≠800):dM x=true:=by
 rw[sC]at h1 h2;unfold dM;rcases uN x with h|h|h
 .rw[h];rfl
 .exact absurd h h2
 exact absurd h h1
theorem tJ:∀(ns ms:List ByteArray) (s:ByteArray),bH (ns++ms) s=bH ms (bH ns s)
 |[],_,_=>rfl
 |n::r,ms,s=>tJ r ms _
theorem mM:∀(ns:List ByteArray) (s:ByteArray),∃u,bH ns s=s++u
 | [],s=>⟨⟨#[]⟩,by
   show s=s++⟨#[]⟩;apply ByteArray.ext;rw[ByteArray.data_append];simp⟩
 | n::r,s=>by
   obtain⟨u,hu⟩:=mM r (s++((⟨#[47]⟩:ByteArray)++n));exact⟨((⟨#[47]⟩:ByteArray)++n)++u,by
    show bH r _=_;rw[hu,ByteArray.append_assoc]⟩
theorem aFN (ns:List ByteArray) (s:ByteArray):s.size<=(bH ns s).size:=by obtain⟨u,hu⟩:=mM ns s;rw[hu,xA];omega
theorem aFO (h:j<s.size):(s++u).get! j=s.get! j:=by
 have h2:j<(s++u).size:=by rw[xA];omega
 rw[dQ _ _ h2,dQ _ _ h];exact ByteArray.getElem_append_left h
theorem aRU (h:j<u.size):(s++u).get! (s.size+j)=u.get! j:=by
 have h2:s.size+j<(s++u).size:=by rw[xA];omega
 rw[dQ _ _ h2,dQ _ _ h,ByteArray.getElem_append_right (by omega)];simp only[Nat.add_sub_cancel_left]
theorem aVL (a n u:ByteArray):(a++n++u).extract a.size (a.size+n.size)=n:=by
 apply ByteArray.ext;rw[ByteArray.data_extract,ByteArray.data_append,ByteArray.data_append];rcases a with⟨⟨a⟩⟩
 rcases n with⟨⟨n⟩⟩
 rcases u with⟨⟨u⟩⟩
 apply Array.toList_inj.1;simp only[Array.toList_extract,Array.toList_append,extract_eq_take_drop];show List.take (a.length+n.length-a.length) (List.drop a.length (a++n++u))=n;rw[yU,drop_left,Nat.add_sub_cancel_left,take_left]
theorem nH (n:ByteArray):((⟨#[47]⟩:ByteArray)++n).size=1+n.size:=by rw[xA];rfl
theorem aKX:∀(ns:List ByteArray) (s0:ByteArray) (acc:List ByteArray),(∀x∈ns,dM x=true)->ns≠[]->aY (bH ns s0) ((bH ns s0).size-s0.size) (s0.size+1) (s0.size+1) acc=(0,acc++ns)
 |[],_,_,_,h=>absurd rfl h
 | n :: r,s0,acc,hn,_=>by
   obtain⟨c47,c0,cR⟩:=aDW (hn n zQ);have IH:=fun(s1:ByteArray) (hr:r≠[])=>aKX r s1 (acc++[n]) (λx hx=>hn x (zL _ hx)) hr;have e0:bH (n::r) s0=bH r (s0++((⟨#[47]⟩:ByteArray)++n)):=rfl;rw[e0];obtain⟨s1,hs1⟩:∃s1,s1=s0++((⟨#[47]⟩:ByteArray)++n):=⟨_,rfl⟩;rw[<-hs1];have h1:s1.size=s0.size+1+n.size:=by rw[hs1,xA,nH];omega
   have a0:s1=(s0++(⟨#[47]⟩:ByteArray))++n:=by rw[hs1,ByteArray.append_assoc]
   have h0:(s0++(⟨#[47]⟩:ByteArray)).size=s0.size+1:=by rw[xA];rfl
   obtain⟨u,hu⟩:=mM r s1;have hT:(bH r s1).size=s1.size+u.size:=by rw[hu,xA]
   have hg:∀j,j<n.size->(bH r s1).get! (s0.size+1+j)=n.get! j:=λj hj=>by rw[hu,aFO (by omega),a0,<-h0,aRU hj]
   have hx:(bH r s1).extract (s0.size+1) s1.size=n:=by have:=aVL (s0++(⟨#[47]⟩:ByteArray)) n u;rw[<-a0,<-hu,h0,<-h1]at this;exact this
   rw[show (bH r s1).size-s0.size=(u.size+1)+n.size by omega,aEE _ n.size (u.size+1) _ _ acc (by omega) (λj hj=>by rw[hg j hj];exact c47 j hj),<-h1];unfold aY;by_cases hlt:s1.size<(bH r s1).size
   .rw [dif_pos hlt];cases r with
    |nil=>exact absurd hlt (Nat.lt_irrefl _)
    | cons m r'=>
      have hb:((bH (m::r') s1)[s1.size]'hlt).toNat=47:=by rw[<-dQ _ _ hlt];obtain⟨v,hv⟩:=mM r' (s1++((⟨#[47]⟩:ByteArray)++m));have e1:bH (m::r') s1=bH r' (s1++((⟨#[47]⟩:ByteArray)++m)):=rfl;rw[e1,hv,aFO (by rw[xA,nH];omega)];have:=aRU (s:=s1) (u:=(⟨#[47]⟩:ByteArray)++m) (j:=0) (by rw[nH];omega);rw[zN]at this;rw[this,aFO (by decide)];rfl
      rw[zB hb,hx,cR,zA (by decide),zA (by decide)];have:=IH s1 (by simp);rw[show (bH (m::r') s1).size-s1.size=u.size by omega]at this;rw[this,yU];rfl
   rw[dif_neg hlt,hx,cR,zA (by decide),zA (by decide)];cases r with
   | nil=>
     have:u.size=0:=by omega
     rw[this];rfl
   | cons m r'=>exfalso;have h2:=aFN r' (s1++((⟨#[47]⟩:ByteArray)++m));have e1:bH (m::r') s1=bH r' (s1++((⟨#[47]⟩:ByteArray)++m)):=rfl;rw[<-e1,xA,nH]at h2;omega
theorem aNL (acc:List ByteArray) (z:ByteArray):(bH (acc++[z]) ⟨#[]⟩).size=(bH acc ⟨#[]⟩).size+1+z.size:=by rw[tJ];show(bH acc ⟨#[]⟩++((⟨#[47]⟩:ByteArray)++z)).size=_;rw[xA,nH];omega
theorem rU (s:ByteArray):∀(n fr i:Nat) (acc:List ByteArray),n=s.size+1-i->fr<=i->i<=s.size+1->(bH acc ⟨#[]⟩).size+1=fr->(i=s.size+1->fr=i)->(∀x∈acc,dM x=true)->(aY s n fr i acc).1=0->(∀x∈(aY s n fr i acc).2,dM x=true)/\(bH (aY s n fr i acc).2 ⟨#[]⟩).size=s.size
 | 0,fr,i,acc,hn,h1,h2,h3,h4,h5,_=>⟨h5,by
   show(bH acc ⟨#[]⟩).size=s.size;have:=h4 (by omega);omega⟩
 | n + 1,fr,i,acc,hn,h1,h2,h3,h4,h5,h=>by
   have hz:∀j,j<=s.size->fr<=j->bI (s.extract fr j)≠801->bI (s.extract fr j)≠800->(∀x∈acc++[s.extract fr j],dM x=true)/\(bH (acc++[s.extract fr j]) ⟨#[]⟩).size+1=j+1:=λj hj hf a b=>by
    refine⟨λx hx=>?_,?_⟩
    .rcases mem_append.1 hx with hx|hx
     .exact h5 x hx
     rw[mem_singleton.1 hx];exact aVK a b
    rw[aNL,ByteArray.size_extract,Nat.min_eq_left hj];omega
   unfold aY at h |-;by_cases hi:i<s.size
   .rw[dif_pos hi]at h |-;by_cases hb:(s[i]'hi).toNat=47
    .rw[zB hb]at h |-;by_cases a:bI (s.extract fr i)=801
     .rw[zB a]at h;cases h
     by_cases b:bI (s.extract fr i)=800
     .rw[zA a,zB b]at h;cases h
     rw[zA a,zA b]at h |-;obtain⟨z1,z2⟩:=hz i (by omega) h1 a b;exact rU s n _ _ _ (by omega) (by omega) (by omega) z2 (λ_=>rfl) z1 h
    rw[zA hb]at h |-;exact rU s n _ _ _ (by omega) (by omega) (by omega) h3 (λe=>by omega) h5 h
   rw[dif_neg hi]at h |-;have a0:i=s.size:=by omega
   by_cases a:bI (s.extract fr i)=801
   .rw[zB a]at h;cases h
   by_cases b:bI (s.extract fr i)=800
   .rw[zA a,zB b]at h;cases h
   rw[zA a,zA b]at h |-;obtain⟨z1,z2⟩:=hz i (by omega) h1 a b;exact rU s n _ _ _ (by omega) (by omega) (by omega) z2 (λ_=>rfl) z1 h
theorem uK (hp:(aA p).1=0):(∀x∈(aA p).2,dM x=true)/\(aA p).2.length<=4/\(bH (aA p).2 ⟨#[]⟩).size<=64:=by
 rw[<-eW]at hp |-;unfold bU at hp |-;by_cases a:64<p.size
 .rw[zB a]at hp;cases hp
 rw[zA a]at hp |-;by_cases b:0<p.size;rotate_left
 .rw[dif_neg b]at hp;cases hp
 rw[dif_pos b]at hp |-;by_cases c:(p[0]'b).toNat=47;rotate_left
 .rw[zA c]at hp;cases hp
 rw[zB c]at hp |-;by_cases d:p.size=1
 .rw[zB d];refine⟨λx hx=>?_,by decide,by decide⟩;cases hx
 rw[zA d]at hp |-;by_cases e:(aY p p.size 1 1 []).1≠0
 .rw[zB e]at hp;exact absurd hp e
 rw[zA e]at hp |-;by_cases f:4<(aY p p.size 1 1 []).2.length
 .rw[zB f]at hp;cases hp
 rw[zA f];obtain⟨n1,n2⟩:=rU p p.size 1 1 [] (by omega) (by omega) (by omega) rfl (λe=>by omega) (λx hx=>by cases hx) (Decidable.of_not_not e);exact⟨n1,by show(aY p p.size 1 1 []).2.length<=4;omega,by show(bH (aY p p.size 1 1 []).2 ⟨#[]⟩).size<=64;omega⟩
theorem aIF {ns:List ByteArray} (h:∀x∈ns,dM x=true) (h4:ns.length<=4) (hs:(bH ns ⟨#[]⟩).size<=64) (hne:ns≠[]):0<(bH ns ⟨#[]⟩).size/\aA (bH ns ⟨#[]⟩)=(0,ns):=by
 have hg:=aKX ns ⟨#[]⟩ [] h hne;have a0:aY (bH ns ⟨#[]⟩) (bH ns ⟨#[]⟩).size 1 1 []=(0,ns):=hg;have h1:2<=(bH ns ⟨#[]⟩).size/\((bH ns ⟨#[]⟩).get! 0).toNat=47:=by
  cases ns with
  |nil=>exact absurd rfl hne
  | cons n r=>
    obtain⟨_,c0,_⟩:=aDW (h n zQ);obtain⟨u,hu⟩:=mM r ((⟨#[]⟩:ByteArray)++((⟨#[47]⟩:ByteArray)++n));have e1:bH (n::r) ⟨#[]⟩=bH r ((⟨#[]⟩:ByteArray)++((⟨#[47]⟩:ByteArray)++n)):=rfl;have z:((⟨#[]⟩:ByteArray)++((⟨#[47]⟩:ByteArray)++n)).size=1+n.size:=by rw[xA,nH];exact zM _
    rw[e1,hu];refine⟨by rw[xA,z];omega,?_⟩;rw[aFO (by omega)];have:=aRU (s:=(⟨#[]⟩:ByteArray)) (u:=(⟨#[47]⟩:ByteArray)++n) (j:=0) (by rw[nH];omega);have h0:((⟨#[]⟩:ByteArray)++((⟨#[47]⟩:ByteArray)++n)).get! 0=((⟨#[47]⟩:ByteArray)++n).get! 0:=this;rw[h0,aFO (by decide)];rfl
 refine⟨by omega,?_⟩;rw[<-eW];unfold bU;have hb:0<(bH ns ⟨#[]⟩).size:=by omega
 rw[zA (by omega),dif_pos hb,zB (by rw[<-dQ _ _ hb];exact h1.2),zA (by omega),a0,zA (by simp),zA (by simp;omega)]
theorem aIG (hp:(aA p).1=0) (k:Nat):∃q,eB ((aA p).2.take k)=(q,0)/\aA q=(0,(aA p).2.take k):=by
 obtain⟨h1,h2,h3⟩:=uK hp;generalize(aA p).2=ns at *;have t1:∀x∈ns.take k,dM x=true:=λx hx=>h1 x (mem_of_mem_take hx);have t2:(ns.take k).length<=4:=by rw[zU];omega
 have t3:(bH (ns.take k) ⟨#[]⟩).size<=64:=by have:=aFN (ns.drop k) (bH (ns.take k) ⟨#[]⟩);rw[<-tJ,take_append_drop]at this;omega
 unfold eB;rw[zB (all_eq_true.2 t1),zA (by omega),zA (by omega)];rcases e:ns.take k with _|⟨n,r⟩
 .exact⟨⟨#[47]⟩,rfl,by rw[<-eW];rfl⟩
 rw[<-e];obtain⟨p1,p2⟩:=aIF t1 t2 t3 (by rw[e];simp);rw[zA (by omega)];exact⟨_,rfl,p2⟩
theorem aNM {S:PSt} (hm:cS S=true) (hp:(aA p).1=0) (k:Nat):eU S (eB ((aA p).2.take k)).1=(if (aK S 0 ((aA p).2.take k)).2≠0 then(0,(aK S 0 ((aA p).2.take k)).2)else(gK S (aK S 0 ((aA p).2.take k)).1,0)):=by obtain⟨q,h1,h2⟩:=aIG hp k;rw[h1];unfold eU;rw[h2,zB hm,zA (by simp)]
end
section
section
variable {α:Type}
theorem aEA {R:α->α->Prop} {l:List α}:l.Pairwise R↔∀(i j:Nat) (a b:α),l[i]? =some a->l[j]? =some b->i<j->R a b:=by
 rw[pairwise_iff_getElem];constructor
 .intro h i j a b ha hb hij;obtain⟨h1,rfl⟩:=gI.1 ha;obtain⟨h2,rfl⟩:=gI.1 hb;exact h i j h1 h2 hij
 intro h i j hi hj hij;exact h i j _ _ (gE hi) (gE hj) hij
theorem aCA {l:List α} {k:Nat} {a:α} (h:a∈l.take k):∃i,i<k/\l[i]? =some a:=by
 obtain⟨i,hi⟩:=mem_iff_getElem?.1 h;rw[yO]at hi;split at hi
 .exact⟨i,by assumption,hi⟩
 cases hi
theorem aNT {l:List α} {k:Nat} {a:α} (h:a∈l.drop k):∃i,k<=i/\l[i]? =some a:=by obtain⟨i,hi⟩:=mem_iff_getElem?.1 h;rw[yN]at hi;exact⟨k+i,by omega,hi⟩
theorem aIR {R:α->α->Prop} {l:List α} {k:Nat} {x:α} (h:l.Pairwise R) (h1:∀(i:Nat) (a:α),i<k->l[i]? =some a->R a x) (h2:∀(i:Nat) (a:α),k<=i->l[i]? =some a->R x a):(aX l k x).Pairwise R:=by
 unfold aX;have h3:=h;rw[<-take_append_drop k l,pairwise_append]at h3;obtain⟨p1,p2,p3⟩:=h3;rw[pairwise_append,pairwise_cons];refine⟨p1,⟨λb hb=>?_,p2⟩,λa ha b hb=>?_⟩
 .obtain⟨i,hi,hb⟩:=aNT hb;exact h2 i b hi hb
 rcases mem_cons.1 hb with rfl|hb
 .obtain⟨i,hi,ha⟩:=aCA ha;exact h1 i a hi ha
 exact p3 a ha b hb
theorem dY {l:List α} {k:Nat} {x a:α}:a∈aX l k x↔a=x\/a∈l:=by
 unfold aX;rw[yR,mem_cons]
 have:a∈l↔a∈l.take k\/a∈l.drop k:=by rw[<-yR,take_append_drop]
 rw[this];constructor
 iterate 2
  .rintro(h|h|h)
   .exact .inr (.inl h)
   .exact .inl h
   exact .inr (.inr h)
theorem uM (p:α->Bool) (l:List α) (k:Nat) (x:α):(aX l k x).countP p=l.countP p+if p x=true then 1 else 0:=by
 have h:l.countP p=(l.take k).countP p+(l.drop k).countP p:=by rw[<-countP_append,take_append_drop]
 unfold aX;rw[countP_append,countP_cons,h];omega
end
def rY (b:Nat) (es:List PEnt):Nat:=es.countP λe=>(aU e.name).toNat==b
theorem rA {ns:List Int}:∀(es:List PEnt) (prev:Option ByteArray) (sl:List Int),eY ns prev sl es=true->(∀x∈sl,x<=4)->(∀e∈es,dM e.name=true/\e.num≠1/\0<=aJ ns e.num)/\∀(b:Nat) (x:Int),sl[b]? =some x->x+rY b es<=4
 | [],_,sl,_,h=>⟨λe he=>(by cases he),λb x hx=>by
   have:=h x (mG hx);simp[rY];omega⟩
 | e ::r,prev,sl,h,h4=>by
   unfold eY at h;split at h
   .cases h
   rename_i n1;split at h
   .cases h
   split at h
   .cases h
   rename_i n2;split at h
   .cases h
   rename_i n3;split at h;rotate_left
   .cases h
   rename_i x hx;split at h
   .cases h
   rename_i n4;obtain⟨a1,a2⟩:=rA r _ _ h (λy hy=>by
    rcases mem_or_eq_of_mem_set hy with hy|hy
    .exact h4 y hy
    omega)
   refine⟨λa ha=>?_,λb y hy=>?_⟩
   .rcases mem_cons.1 ha with rfl|ha
    .exact⟨by simpa using n1,n2,by omega⟩
    exact a1 a ha
   unfold rY;rw[countP_cons];by_cases e1:(aU e.name).toNat=b
   .subst e1;rw[hx]at hy;cases hy;obtain⟨hl,_⟩:=gI.1 hx;have:=a2 (aU e.name).toNat (x+1) (by rw[zY hl]);unfold rY at this;simp only[beq_self_eq_true,if_true];omega
   have:=a2 b y (by rw[zX e1];exact hy);unfold rY at this;rw[zA (by simpa using e1)];omega
theorem tM {ns:List Int}:∀(es:List PEnt) (prev:Option ByteArray) (sl:List Int),sl.length=8->es.Pairwise (λa b=>dF a.name b.name<0)->(∀q,prev=some q->∀a∈es,dF q a.name<0)->(∀e∈es,dM e.name=true/\e.num≠1/\0<=aJ ns e.num)->(∀(b:Nat) (x:Int),sl[b]? =some x->x+rY b es<=4)->eY ns prev sl es=true
 |[],_,_,_,_,_,_,_=>rfl
 | e::r,prev,sl,hl,hp,hq,he,hs=>by
   obtain⟨n1,n2,n3⟩:=he e zQ;rw[pairwise_cons]at hp;unfold eY;rw[zA (by rw[n1];decide)];have a0:gY prev e.name=false:=by
    cases prev with
    |none=>rfl
    | some q=>have:=hq q rfl e zQ;unfold gY;simp only;rw[mT,decide_eq_true this];rfl
   rw[zA (by rw[a0];decide),zA n2,zA (by omega)];have hb:=gO e.name;obtain⟨x,hx⟩:∃x,sl[(aU e.name).toNat]? =some x:=⟨_,gE (by omega)⟩;rw[hx];simp only;have h0:=hs _ x hx;unfold rY at h0;rw[countP_cons]at h0;simp only[beq_self_eq_true,if_true]at h0;rw[zA (by omega)];refine tM r _ _ (by rw[yB];exact hl) hp.2 (λq hq a ha=>by cases hq;exact hp.1 a ha) (λa ha=>he a (zL _ ha)) (λb y hy=>?_);by_cases e1:(aU e.name).toNat=b
   .subst e1;rw[zY (by omega)]at hy;cases hy;unfold rY;omega
   rw[zX e1]at hy;have:=hs b y hy;unfold rY at this |-;rw[countP_cons,zA (by simpa using e1)]at this;omega
theorem aCB (s:ByteArray):∀es:List PEnt,(∀e∈es,dM e.name=true)->oL s ⟨#[]⟩ es=rY (aU s).toNat es
 |[],_=>rfl
 | e::r,h=>by
   have ih:=aCB s r λa ha=>h a (zL _ ha);have h0:=(aDW (h e zQ)).2.1;have h1:(e.name.toList==(⟨#[]⟩:ByteArray).toList)=false:=by rw[Bool.eq_false_iff];intro hh;have:=pW.1 hh;rw[this]at h0;exact absurd h0 (by decide)
   have b1:=gO s;have b2:=gO e.name;have h2:(aU e.name==aU s)=((aU e.name).toNat==(aU s).toNat):=by rw[Bool.eq_iff_iff,beq_iff_eq,beq_iff_eq];omega
   unfold oL oK rY;rw[countP_cons,h1,h2,ih];unfold rY;simp only[Bool.not_false,xC];split<;>omega
theorem nK (n:Int):∀(a b:List PIn),dA n (a++b)=dA n a+dA n b
 |[],b=>by simp[dA]
 | x::r,b=>by show cV n x x.ents+dA n (r++b)=cV n x x.ents+dA n r+dA n b;rw[nK n r b];omega
theorem aGA (n:Int) (l:List PIn) (k:Nat) (z:PIn):dA n (aX l k z)=dA n l+cV n z z.ents:=by
 have h:dA n l=dA n (l.take k)+dA n (l.drop k):=by rw[<-nK,take_append_drop]
 unfold aX;rw[nK];show _+(cV n z z.ents+dA n (l.drop k))=_;omega
theorem aCC (n:Int):∀(l:List PIn) (k:Nat) (x y:PIn),l[k]? =some x->dA n (l.set k y)+cV n x x.ents=dA n l+cV n y y.ents
 |[],k,x,y,h=>by simp at h
 | a::r,0,x,y,h=>by simp at h;subst h;show cV n y y.ents+dA n r+cV n a a.ents=cV n a a.ents+dA n r+cV n y y.ents;omega
 | a::r,k+1,x,y,h=>by have:=aCC n r k x y (by simpa using h);show cV n a a.ents+dA n (r.set k y)+cV n x x.ents=cV n a a.ents+dA n r+cV n y y.ents;omega
theorem kN (n:Int) (x:PIn):∀es:List PEnt,cV n x es=es.countP λe=>x.dir&&(e.num==n)
 |[]=>rfl
 | e::r=>by unfold cV;rw[kN n x r,countP_cons];omega
theorem wO (n:Int):∀(l:List PIn),(∀x∈l,∀e∈x.ents,e.num≠n)->dA n l=0
 |[],_=>rfl
 | x::r,h=>by
   show cV n x x.ents+dA n r=0;rw[wO n r λy hy=>h y (zL _ hy),kN,countP_eq_zero.2 (λe he hh=>by
    rw[zE,beq_iff_eq]at hh;exact h x zQ e he hh.2)]
theorem wP {S S':PSt} (hm:S'.made.length=S.made.length) (hk:∀n,0<=aJ S.nums n->(∀x,S.ins[(aJ S.nums n).toNat]? =some x->x.dir≠true)->0<=aJ S'.nums n/\∃y,S'.ins[(aJ S'.nums n).toNat]? =some y/\y.dir≠true):∀(ds:List PDesc) (p:Option PDesc),fJ S p ds=true->fJ S' p ds=true
 |[],_,_=>rfl
 | d::r,p,h=>by
   unfold fJ at h |-;rw[hm];by_cases a1:d.core<0
   .rw[zB a1]at h;cases h
   rw[zA a1]at h |-;by_cases a2:S.made.length<=d.core
   .rw[zB a2]at h;cases h
   rw[zA a2]at h |-;by_cases a3:d.fd<0
   .rw[zB a3]at h;cases h
   rw[zA a3]at h |-;by_cases a4:4<=d.fd
   .rw[zB a4]at h;cases h
   rw[zA a4]at h |-;by_cases a5:kB p d=true
   .rw[zB a5]at h;cases h
   rw[zA a5]at h |-;by_cases a6:aJ S.nums d.num<0
   .rw[zB a6]at h;cases h
   rw[zA a6]at h;rcases hx:S.ins[(aJ S.nums d.num).toNat]? with _|x
   .rw[hx]at h;cases h
   rw[hx]at h;simp only at h;by_cases a7:x.dir=true
   .rw[zB a7]at h;cases h
   rw[zA a7]at h;obtain⟨k1,y,k2,k3⟩:=hk d.num (by omega) (λz hz=>by rw[hx]at hz;cases hz;exact a7);rw[zA (by omega),k2];simp only;rw[zA k3];exact wP hm hk r _ h
theorem rZ {S:PSt} (hr:Rise S.nums) {n:Int}:0<=aJ S.nums n↔∃x∈S.ins,x.num=n:=by
 rw[bE hr];constructor
 .intro h;rcases fW S n with⟨k,x,hx,hn⟩|⟨_,h2⟩
  .exact⟨x,mG hx,hn⟩
  omega
 rintro⟨x,hx,rfl⟩;obtain⟨k,hk⟩:=getElem?_of_mem hx;rw[cP hr hk];omega
theorem aGB {S:PSt} (hr:Rise S.nums) {x:PIn} (hx:x∈S.ins):S.ins[(aJ S.nums x.num).toNat]? =some x:=by obtain⟨k,hk⟩:=getElem?_of_mem hx;rw[bE hr,cP hr hk];exact hk
theorem aSH {S:PSt} (M:MayX S) (Q:MayQ S) (c:PCall) {K k:Nat} {x:PIn} {l:ByteArray} {m:Int} (hc:c.core=k) (hk:k<8) (hx:S.ins[K]? =some x) (hd:x.dir=true) (hl:dM l=true) (hh:bR x.ents l=false) (hf:eZ x.ents l ⟨#[]⟩=false) (hm:S.made[k]? =some m) (h32:m<32) (hwf:(dC S c K x l m).wf):MayQ (dC S c K x l m):=by
 have h0:=(M.made m (mG hm)).1;have d4:c.core.toNat=k:=by omega
 obtain⟨kl,_⟩:=gI.1 hm;obtain⟨Kl,_⟩:=gI.1 hx;have a8:=mG hx;obtain⟨b1,b2,b3⟩:=aAU M.tree.rise (2+(k:Int)+8*m) M.small (by omega);have c8:=M.fresh hk hm h0;obtain⟨x0,hx0,h01,h0d⟩:=M.head;have d5:1<=lB S.nums (2+(k:Int)+8*m):=by
  rcases Nat.eq_zero_or_pos (lB S.nums (2+(k:Int)+8*m))with e|e
  .have:=b3 0 1 (by omega) (by rw[<-h01];exact cC hx0);omega
  exact e
 have e6:S.nums.length=S.ins.length:=by unfold PSt.nums;simp
 obtain⟨nw,hnw⟩:∃nw,nw=2+(k:Int)+8*m:=⟨_,rfl⟩;have d1:(nw-2)%8=k/\(nw-2)/8=m/\2<=nw:=by omega
 obtain⟨x',hx'⟩:∃x':PIn,x'={ x with ents:=aX x.ents (cY x.ents l) ⟨l,nw⟩}:=⟨_,rfl⟩;obtain⟨z,hz⟩:∃z:PIn,z=⟨nw,c.kind==1,[],⟨#[]⟩⟩:=⟨_,rfl⟩;have a1:(dC S c K x l m).ins=aX (S.ins.set K x') (lB S.nums nw) z:=by unfold dC PSt.ents;simp only;rw[hx',hz,hnw,hc]
 have a0:(dC S c K x l m).made=S.made.set k (m+1):=by unfold dC;simp only;rw[d4]
 have d2:(dC S c K x l m).op=S.op:=rfl;generalize dC S c K x l m=S' at *;rw[<-hnw]at b1 b2 b3 c8 d5;have a9:x'.num=x.num:=by rw[hx']
 have b7:x'.dir=x.dir:=by rw[hx']
 have c9:x'.data=x.data:=by rw[hx']
 have c6:x'.ents=aX x.ents (cY x.ents l) ⟨l,nw⟩:=by rw[hx']
 have c7:z.num=nw:=by rw[hz]
 have d0:z.ents=[]:=by rw[hz]
 have d6:z.data.size=0:=by rw[hz];rfl
 have b8:∀y∈S.ins,y.num≠nw:=λy hy=>by obtain⟨i,hi⟩:=getElem?_of_mem hy;exact c8 i _ (cC hi)
 have b6:∀y∈S'.ins,y=z\/y=x'\/y∈S.ins:=λy hy=>by
  rw[a1,dY]at hy;rcases hy with rfl|hy
  .exact .inl rfl
  rcases mem_or_eq_of_mem_set hy with hy|hy
  .exact .inr (.inr hy)
  exact .inr (.inl hy)
 have b9:x'∈S'.ins:=by rw[a1,dY];exact .inr (mG (i:=K) (by rw[zY Kl]))
 have d7:z∈S'.ins:=by rw[a1,dY];exact .inl rfl
 have a4:∀y∈S.ins,∃y'∈S'.ins,y'.num=y.num/\y'.dir=y.dir/\∀e∈y.ents,e∈y'.ents:=λy hy=>by
  obtain⟨i,hi⟩:=getElem?_of_mem hy;by_cases e:K=i
  .subst e;rw[hx]at hi;cases hi;exact⟨x',b9,a9,b7,λe he=>by rw[c6,dY];exact .inr he⟩
  exact⟨y,by rw[a1,dY];exact .inr (mG (i:=i) (by rw[zX e];exact hi)),rfl,rfl,λe he=>he⟩
 have d8:(S.ins.set K x').map PIn.num=S.nums:=by
  unfold PSt.nums;rw[map_set,a9];apply ext_getElem?;intro i;rw[getElem?_set];split
  .rename_i h
   subst h;rw[gM,hx];simp[Kl]
  rfl
 have c0:S'.nums=aX S.nums (lB S.nums nw) nw:=by unfold PSt.nums;rw[a1,pY,d8,c7];rfl
 have a3:Rise S'.nums:=by
  rw[c0];exact aEA.1 (aIR (R:=λa b:Int=>a<b) (aEA.2 M.tree.rise) b2 (λi a hi ha=>by
   have:=b3 i a hi ha;have:=c8 i a ha;omega))
 have a5:∀n,0<=aJ S.nums n->0<=aJ S'.nums n:=λn hn=>by obtain⟨y,hy,e⟩:=(rZ M.tree.rise).1 hn;obtain⟨y',hy',e',_⟩:=a4 y hy;exact(rZ a3).2 ⟨y',hy',by rw[e',e]⟩
 have a2:∀n,Reach S n->Reach S' n:=by
  intro n hn
  induction hn with
  |root=>exact .root
  | @step y e hy hym hem ih=>obtain⟨y',hy',e',_,he'⟩:=a4 y hym;rw[<-e']at ih;exact .step ih hy' (he' e hem)
 have d9:Reach S' x'.num:=by
  rw[a9];by_cases e:x.num=1
  .rw[e];exact .root
  exact a2 _ (((Q.tree x a8 e).1 hd).2)
 have d3:Reach S' nw:=Reach.step (e:=⟨l,nw⟩) d9 b9 (by rw[c6,dY];exact .inl rfl);have a7:∀n,bX S' n=bX S n+if nw=n then 1 else 0:=λn=>by
  rw[lS,lS];unfold dO;have h1:=aCC n S.ins K x x' hx;rw[a1,aGA,d0];rw[kN n x,kN n x',c6,uM,b7,hd]at h1;have h2:cV n z []=0:=rfl;rw[h2];simp only[xC,beq_iff_eq]at h1;split at h1
  .rw[zB (by assumption)];omega
  rw[zA (by assumption)];omega
 have e0:bX S nw=0:=by
  rw[lS];unfold dO;rw[wO]
  .rfl
  intro y hy e he e2;have:=nJ _ _ _ _ (Q.ents y hy) e he;obtain⟨y2,hy2,e3⟩:=(rZ M.tree.rise).1 this;exact b8 y2 hy2 (by rw[e3,e2])
 obtain⟨s1,s2⟩:=rA x.ents none _ (Q.ents x a8) (by decide);have b0:eY S'.nums none [0,0,0,0,0,0,0,0] x'.ents=true:=by
  rw[c6];have b4:=M.asc x a8;obtain⟨c1,c2,c3⟩:=xJ b4 l;have c4:=sD b4 hh;refine tM _ _ _ rfl (aIR (aEA.2 b4) c2 (λi a hi ha=>?_)) (λq hq=>by cases hq) (λe he=>?_) (λb y hy=>?_)
  .have h1:=c3 i a hi ha;have h2:=c4 a (mG ha);rcases xW a.name l with h|h|h
   .exact absurd h h1
   .exact absurd h h2
   exact h
  .rcases dY.1 he with rfl|he
   .exact⟨hl,by show nw≠1;omega,(rZ a3).2 ⟨z,d7,c7⟩⟩
   obtain⟨t1,t2,t3⟩:=s1 e he;exact⟨t1,t2,a5 _ t3⟩
  have h1:=s2 b y hy;have e7:y=0:=by have:=mG hy;simpa using this
  unfold rY at h1 |-;rw[uM];split
  .rename_i hb
   have e4:(aU l).toNat=b:=by simpa using hb
   unfold eZ at hf;rw[aCB l x.ents λe he=>(s1 e he).1,e4]at hf;have:=of_decide_eq_false hf;unfold rY at this;omega
  omega
 have a6:∀y∈S'.ins,y≠z->∃u∈S.ins,u.num=y.num/\u.dir=y.dir/\u.data=y.data:=λy hy hne=>by
  rcases b6 y hy with h|h|h
  .exact absurd h hne
  .rw[h];exact⟨x,a8,a9.symm,b7.symm,c9.symm⟩
  exact⟨y,h,rfl,rfl,rfl⟩
 refine⟨hwf,a3,?_,?_,?_,?_,?_,?_,?_,?_,?_,?_⟩
 .rw[a1,pO _ _ _ (by rw[yB];omega),zB (by omega)];by_cases e:K=0
  .rw[e]at hx |-;rw[hx0]at hx;cases hx;rw[zY (by omega)];exact⟨x',rfl,by rw[a9];exact h01,by rw[b7];exact h0d⟩
  rw[zX e];exact⟨x0,hx0,h01,h0d⟩
 .rw[a0,yB];exact Q.core
 .intro y hy;rw[a0]at hy;rcases mem_or_eq_of_mem_set hy with hy|hy
  .exact M.made y hy
  omega
 .intro y hy hne;have c5:∀n,dH S.made n=true->dH S'.made n=true:=λn hn=>by
   unfold dH at hn |-;split at hn
   .cases hn
   rename_i h2;rw[zA h2,a0];by_cases e:k=((n-2)%8).toNat
   .rw[<-e]at hn |-;rw[hm]at hn;rw[zY kl];simp only[zI]at hn |-;omega
   rw[zX e];exact hn
  rcases b6 y hy with h|h|h
  .rw[h,c7];unfold dH;rw[zA (by omega),a0,d1.1,zJ,zY kl,d1.2.1];simp only[zI];omega
  .rw[h,a9];exact c5 _ (Q.nums x a8 (by rw[h,a9]at hne;exact hne))
  exact c5 _ (Q.nums y h hne)
 .intro y hy;rcases b6 y hy with h|h|h
  .rw[h];omega
  .rw[h,c9];exact Q.data x a8
  exact Q.data y h
 .intro y hy b5;rcases b6 y hy with h|h|h
  .rw[h];exact d0
  .rw[h,b7,hd]at b5;cases b5
  exact Q.file y h b5
 .intro y hy b5;rcases b6 y hy with h|h|h
  .rw[h];exact d6
  .rw[h,c9];exact Q.bare x a8 hd
  exact Q.bare y h b5
 .intro y hy;rcases b6 y hy with h|h|h
  .rw[h,d0];rfl
  .rw[h];exact b0
  have e5:=M.asc y h;obtain⟨t1,t2⟩:=rA y.ents none _ (Q.ents y h) (by decide);exact tM _ _ _ rfl (aEA.2 e5) (λq hq=>by cases hq) (λe he=>⟨(t1 e he).1,(t1 e he).2.1,a5 _ (t1 e he).2.2⟩) t2
 .rw[d2];refine wP (S:=S) (by rw[a0,yB]) (λn hn hf=>?_) _ _ Q.descs;obtain⟨y,hy,rfl⟩:=(rZ M.tree.rise).1 hn;have b5:=hf y (aGB M.tree.rise hy);obtain⟨y',hy',e1,e2,_⟩:=a4 y hy;refine⟨a5 _ hn,y',?_,by rw[e2];exact b5⟩;rw[<-e1];exact aGB a3 hy'
 intro y hy hne;by_cases e:y=z
 .rw[e,c7,a7,zB rfl,e0];exact⟨λ_=>⟨rfl,d3⟩,λ_=>.inl d3⟩
 obtain⟨u,hu,e1,e2,_⟩:=a6 y hy e;rw[<-e1]at hne |-;rw[<-e2,a7,zA (λh=>b8 u hu h.symm),d2];obtain⟨t1,t2⟩:=Q.tree u hu hne;refine⟨λhd=>?_,λhd=>?_⟩
 .obtain⟨v1,v2⟩:=t1 hd;exact⟨by rw[v1];rfl,a2 _ v2⟩
 rcases t2 hd with v|v
 .exact .inl (a2 _ v)
 exact .inr v
end
end Go.Proofs.YtmkapobnfigedaaGreatDoor
