/- A part of a proof of a law. Conditions: none. -/
import Derived.Test.YtmkapobnfigedaaGreatDoorDp01
import Derived.Shelf.Small.Strs
import Derived.ArgAppend
import Derived.Lib.AppendIntMem
import Derived.Test.YtmkapobnfigedaaGreatDoorProg
import Derived.Shelf.Strings.Builder1
import Derived.Shelf.Strings.Builder2
import Derived.Shelf.Strings.OnBuilder
import Derived.Shelf.Strconv.Itoa0
import Derived.Shelf.Strconv.Itoa1
import Derived.Shelf.LaysM
import Derived.Shelf.Strconv.Itoa2
import Derived.Shelf.Strconv.Itoa3
import Derived.Shelf.Slices.Turned
import Derived.Shelf.Slices.Empties2
set_option linter.unusedVariables false
set_option linter.unusedSimpArgs false
set_option maxRecDepth 100000
set_option maxHeartbeats 40000000
namespace Go.Proofs.YtmkapobnfigedaaGreatDoor
open Go.Proofs.Tryz List Go.RowKit
def dJ (a b:ByteArray):Int:=Lib.compareBytes a.data.toList b.data.toList
theorem aYG (a b:ByteArray) (w:World):
 vR w 211 #[.string a,.string b] (.int .i64 (dJ a b)):=by
 unfold vR;go_in;go_wp2;rw[run_callFunc_extern func220 (by kernel_rfl) (by kernel_rfl) (by kernel_rfl) (e:=Extern.BytealgCompare.compare) (by kernel_rfl),Lib.run_compareString];simp only[Result.andThen];rw[Oper.upon_value];go_wp2;go_ret;exact gAC
theorem aYH (a b:ByteArray) (w:World):
 vR w 201 #[.string a,.string b] (.int .i64 (dJ a b)):=by
 unfold vR;go_in;go_wp2_with((go_at_call 211;refine aE (aYG _ _ _) λp=>?_));go_ret;exact gAC
theorem aRT (a b:ByteArray) (n:Int) (w:World):
 vR w 200 #[.agg #[a,n],.string b] (.int .i64 (dJ a b)):=by
 unfold vR;go_in;go_wp2_with((go_at_call 201;refine aE (aYH _ _ _) λp=>?_));go_ret;exact gAC
def aBE (es:List PEnt) (s:ByteArray) (q:Nat):Int:=match es[q]? with|some x=>dJ x.name s|none=>0
def cZ (es:List PEnt) (s:ByteArray):Nat:=dO (aBE es s) es.length 0 es.length
def bT (es:List PEnt) (s:ByteArray):Bool:=decide (cZ es s<es.length)&&(aBE es s (cZ es s)==0)
theorem bAL (is:List PEnt) (v:Value) (n:ByteArray) (w:World) (h:RowAt w 2 v (is.map PEnt.cells)) (hlen:is.length<=1000000000):
 vR w 199 #[v,.string n,.func (.func 200) #[] #[]] (.tuple #[.int .i64 (cZ is n),.bool (bT is n)]):=by
 obtain⟨a,cap,rfl,_,hrow⟩:=h;rw[lM]at hrow |-;have cell:∀(wr:World),Bl w wr->∀(q:Nat),q<is.length->∃(b off:Nat) (x:PEnt),a=some ⟨b,off,none⟩/\BlockLt b wr/\is[q]? =some x/\aBE is n q=dJ x.name n/\wr.cell? ⟨b,off+q*2,none⟩=some (.string x.name)/\wr.cell? ⟨b,off+q*2+1,none⟩=some (.int .i64 x.num):=by
  intro wr hb q hq;obtain⟨b,off,rfl,hlt,hc⟩:=hrow (by omega);obtain⟨x,hx⟩:=gAA hq;have hm:(is.map PEnt.cells)[q]? =some x.cells:=by rw[gM,hx];rfl
  have hs:=hb.size;have key:∀(t:Nat) (u:Value),x.cells[t]? =some u->wr.cell? ⟨b,off+q*2+t,none⟩=some u:=λt u hu=>(hb.cell (p:=⟨b,_,none⟩) hlt).trans (hc q _ hm t u hu);exact⟨b,off,x,rfl,⟨by omega⟩,hx,by unfold aBE;rw[hx],key 0 _ rfl,key 1 _ rfl⟩
 have HC:=aC cell;clear cell hrow;obtain⟨P,hP⟩:=gAB (cZ is n);obtain⟨T,hT⟩:=gAB (bT is n);rw[hP,hT];have HP:=bJ hP hT;clear hP hT;unfold vR;go_in;go_wp2
 go_loopw[9,10] (λi j wr=>∃(lo hi b:Nat),i=.int .i64 lo/\j=.int .i64 hi/\lo<=hi/\hi<=is.length/\hi<=lo+b/\dO (aBE is n) b lo hi=P/\Bl w wr) (λi j _=>(intOf j-intOf i).toNat)
 case atStart=>exact⟨0,is.length,is.length,rfl,rfl,by omega,by omega,by omega,HP.out.1,bel _ _⟩
 obtain⟨lo,hi,b,rfl,rfl,hlh,hhn,hfu,hbs,hb⟩:=hrel;have iB:Bel w wr:=⟨hb⟩;by_cases hlt:lo<hi
 .obtain⟨b',rfl⟩:∃b',b=b'+1:=⟨b-1,by omega⟩
  obtain⟨m,hm⟩:=gAB ((lo+hi)/2);obtain⟨b0,off,x,rfl,iG,hx,hcm,c0,c1⟩:=HC.out wr hb m (by omega);rw[dO,zB hlt,hm,hcm]at hbs;have HS:=aC hbs;clear hbs hcm;have a5:((lo:Int)+hi)/2=m:=by omega
  have a6:m<is.length:=by omega
  have a3:(m:Int)<is.length:=by omega
  have a0:∀ww,vR ww 200 #[.agg #[x.name,x.num],.string n] (.int .i64 (dJ x.name n)):=λww=>aRT x.name n x.num ww;have HM:=aC hm;clear hm;by_cases hneg:dJ x.name n<0
  .generalize hcv:dJ x.name n=cv at a0 hneg;go_wp2_with(go_at_call 200;refine aE (a0 _) λp=>?_)
   go_roundw
   case rel=>exact⟨m+1,hi,b',by go_num,rfl,by have:=HM.out;omega,by omega,by have:=HM.out;omega,by have:=HS.out;rw[hcv,zB hneg]at this;exact this,bel _ _⟩
   have:=HM.out;simp[intOf];omega
  generalize hcv:dJ x.name n=cv at a0 hneg;go_wp2_with(go_at_call 200;refine aE (a0 _) λp=>?_);go_roundw
  case rel=>exact⟨lo,m,b',rfl,rfl,by have:=HM.out;omega,by omega,by have:=HM.out;omega,by have:=HS.out;rw[hcv,zA (by omega)]at this;exact this,bel _ _⟩
  have:=HM.out;simp[intOf];omega
 obtain rfl:lo=hi:=by omega
 rw[rB _ _ _ _ hlt]at hbs;have a4:P=lo:=hbs.symm;subst a4;by_cases hln:P<is.length
 .obtain⟨b0,off,x,rfl,iG,hx,hcm,c0,c1⟩:=HC.out wr hb P hln;have a2:(P:Int)<is.length:=by omega
  have a0:∀ww,vR ww 200 #[.agg #[x.name,x.num],.string n] (.int .i64 (dJ x.name n)):=λww=>aRT x.name n x.num ww;have a1:T=(dJ x.name n==0):=by have h1:=HP.out.2;have h2:=HP.out.1;rw[<-h1];unfold bT;rw[h2,hcm];simp[hln]
  clear hcm;generalize dJ x.name n=cv at a0 a1;subst a1;go_wp2_with(go_at_call 200;refine aE (a0 _) λp=>?_)
  go_ret2;refine⟨rfl,bel _ _⟩
 have a2:¬(P:Int)<is.length:=by omega
 have a1:T=false:=by have h1:=HP.out.2;have h2:=HP.out.1;rw[<-h1];unfold bT;rw[h2];simp[hln]
 subst a1;go_wp2
 go_ret2;refine⟨rfl,bel _ _⟩
theorem oS (es:List PEnt) (v:Value) (s:ByteArray) (w:World) (h:RowAt w 2 v (es.map PEnt.cells)) (hlen:es.length<=1000000000):
 vR w 171 #[v,.string s] (.tuple #[.int .i64 (cZ es s),.bool (bT es s)]):=by
 have hv:=h.one;have a0:=bAL es v s w h hlen;generalize cZ es s=P at a0 |-;generalize bT es s=T at a0 |-;clear h;unfold vR;go_in;go_wp2_with(go_at_call 199;refine a0.mono ?_;rintro e w' ⟨rfl,hb⟩;obtain⟨p,rfl⟩:=hb.rest;clear hb)
 go_ret2;exact gAC
section
theorem aAS:(prog.info? 3).map (λi=>(i.zero,i.size,i.bytes))=some (some (.int .i64 0),1,8):=by kernel_rfl
theorem aMZ:(prog.info? 4).map (λi=>(i.zero,i.size,i.bytes))=some (some (.bool false),1,1):=by kernel_rfl
def TodoAt (X:Nat->Prop) (w:World) (v:Value) (xs:List Nat):Prop:=
 ∃g off cap arr,v=.slice (some ⟨g,off,none⟩) xs.length cap/\¬X g/\Blk w g arr 3/\xs.length<=cap/\off+cap<=arr.size/\∀(i x:Nat),xs[i]? =some x->arr[off+i]? =some (.int .i64 x)
variable {v:Value} {w:World}
theorem TodoAt.alloc {X:Nat->Prop} {xs:List Nat} (h:TodoAt X w v xs) (o:Obj):TodoAt X (w.alloc o) v xs:=by obtain⟨g,off,cap,arr,e,hx,hb,r⟩:=h;exact⟨g,off,cap,arr,e,hx,hb.alloc o,r⟩
theorem TodoAt.junk {X:Nat->Prop} {xs:List Nat} (h:TodoAt X w v xs) (o:Behind):TodoAt X (w.junk o) v xs:=by obtain⟨g,off,cap,arr,e,hx,hb,r⟩:=h;exact⟨g,off,cap,arr,e,hx,hb.junk o,r⟩
theorem TodoAt.far {X:Nat->Prop} {xs:List Nat} (h:TodoAt X w v xs) {a:Addr} (ha:X a.block) (u:Value):TodoAt X (w.setCell a u) v xs:=by obtain⟨g,off,cap,arr,e,hx,hb,r⟩:=h;exact⟨g,off,cap,arr,e,hx,hb.far (λe=>hx (by rw[e];exact ha)) u,r⟩
theorem rQ {P:Program} (hP:P.underlying 24=some (.slice 3)) (hI:(P.info? 3).map (λi=>(i.zero,i.size,i.bytes))=some (some (.int .i64 0),1,8))
 (w:World) {ops:Array Oper} {rest:List Oper} {o:Oper} {a:Act} {Q:Exit->Act->World->Prop} (hg:o.guard=none) (s x:Operand)
 (hop:o.op=Op.call { callee:=Callee.builtin Builtin.append,args:=#[s,x],argTypes:=#[24,24]}) (X:Nat->Prop) (v:Value) (xs:List Nat) (hs:a.eval s=v) (ht:TodoAt X w v xs) (hX:∀g,w.heap.size<=g->¬X g)
 (ad:Addr) (c k:Nat) (hx:a.eval x=.slice (some ad) 1 c) (hc:w.cell? ad=some (.int .i64 k)) (hlen:xs.length<=1000000)
 (hK:∀v' w',TodoAt X w' v' (xs++[k])->Keep (λg=>¬X g) w w'->wpList P ops Q rest (a.put o.dst v') w'):
 wpList P ops Q (o::rest) a w:=by
 obtain⟨i0,hi,hz0,hz1,hz2⟩:=info_parts hI;obtain⟨g,off,cap,arr,rfl,hnx,hb,hle,har,hel⟩:=ht;refine wpList_append_arg w hg s x 24 hop 3 i0 (.int .i64 0) 1 8 hP hi hz0 hz1 hz2 rfl (by decide) g off xs.length cap (xs.map λy:Nat=>.int .i64 y) hs (by simp) ?_ ad 1 c [.int .i64 k] hx rfl ?_ ?_ ?_ (by unfold maxLen;omega) (by omega) ?_ ?_
 .intro j u hj;rw[gM]at hj;obtain⟨y,hy,rfl⟩:=Option.map_eq_some_iff.1 hj;rw[hb.cell];exact hel j y hy
 .intro j u hj;have:j=0:=by
   rcases j with _|j
   .rfl
   simp at hj
  subst this;simp only[zH,zF]at hj;subst hj;have e:ad.add 0=ad:=by unfold Addr.add;split<;>simp_all
  rw[e];exact hc
 .intro u hu;simp only[yZ]at hu;subst hu;rfl
 .intro hr j hj;simp only[zK,yX]at hj;obtain rfl:j=0:=by omega
  rw[hb.cell,hb.frozen,zN,Nat.mul_one];refine⟨?_,rfl⟩;rw[yA (by omega)];rfl
 .intro hr;refine hK _ _ ⟨g,off,cap,arr.setIfInBounds (off+xs.length) (.int .i64 k),by simp,hnx,?_,by simp;omega,by simp;omega,?_⟩ ?_
  .simp only[Nat.mul_one,World.setCells];exact hb.set_ _ _
  .intro i y hy;rw[yE];by_cases hi:i<xs.length
   .rw[zZ hi]at hy;rw[zA (by omega)];exact hel i y hy
   rw[yC (by omega)]at hy;have h0:i-xs.length=0:=by
    rcases hq:i-xs.length with _|j
    .rfl
    rw[hq]at hy;simp at hy
   rw[h0]at hy;simp only[zH,zF]at hy;subst hy;obtain rfl:i=xs.length:=by omega
   rw[zB rfl,zB (by omega)]
  simp only[Nat.mul_one,World.setCells];exact(Keep.refl _ w).setCell (p:=⟨g,_,none⟩) (.inl hnx) _
 intro hr v' w' hown hgr;refine hK _ _ ?_ ((Keep.refl _ w).grown hgr (by simp));obtain⟨hl,h0|⟨g',cap',cur,rfl,hge,hcur,hnc,hcm,hsz,htk⟩⟩:=hown
 .omega
 refine⟨g',0,cap',cur,by simp,hX g' hge,hcur,by simp;omega,by omega,?_⟩;intro i y hy;have a0:i<xs.length+1:=by obtain⟨h,_⟩:=gI.1 hy;simpa using h
 have h2:(cur.toList.take ((xs.length+1)*1))[i]? =some (.int .i64 y):=by
  rw[htk];have:(xs.map (λy:Nat=>Value.int .i64 y)++[.int .i64 k])=(xs++[k]).map (λy:Nat=>Value.int .i64 y):=by simp
  rw[this,gM,hy];rfl
 rw[yO,zB (by omega)]at h2;rw[zM];simpa using h2
end
section
variable {e:PEnt} {es:List PEnt} {m ns:List Int} {q:Nat} {w:World}
theorem StRead.ins_at2 {iv ov mv:Value} {S:PSt} (h:StRead w iv ov mv S):
 ∃a cap,iv=.slice a S.ins.length cap/\∀(q:Nat) (x:PIn),S.ins[q]? =some x->∃b off ev,a=some ⟨b,off,none⟩/\BlockLt b w/\ev.oneCell'=true/\RowAt w 2 ev (x.ents.map PEnt.cells)/\
  ∀wr,Bl w wr->BlockLt b wr/\wr.cell? ⟨b,off+q*4,none⟩=some (.int .i64 x.num)/\wr.cell? ⟨b,off+q*4+1,none⟩=some (.bool x.dir)/\wr.cell? ⟨b,off+q*4+2,none⟩=some ev/\wr.cell? ⟨b,off+q*4+3,none⟩=some (.string x.data):=by
 obtain⟨_,_,is,h3,h4,h5⟩:=h;obtain⟨a,cap,rfl,hat⟩:=h3.at_;rw[lM];refine⟨a,cap,by rw[h4],λq x hx=>?_⟩;obtain⟨hq,_⟩:=gI.1 hx;have hr:is[q]? =some is[q]:=gE (by omega);have hm:(is.map IRec.cells)[q]? =some is[q].cells:=by rw[gM,hr];rfl
 obtain⟨b,off,rfl,i1,_,_⟩:=hat w (Below.refl _ _) q is[q].cells hm;obtain⟨e1,e2,e3,e4⟩:=h5 q _ x hr hx;refine⟨b,off,is[q].ev,rfl,i1,is[q].one,e4,λwr hb=>?_⟩;obtain⟨b',off',e,_,i2,hc⟩:=hat wr hb q is[q].cells hm;cases e;refine⟨i2,?_,?_,?_,?_⟩
 .rw[<-e1];exact hc 0 _ rfl
 .rw[<-e2];exact hc 1 _ rfl
 .exact hc 2 _ rfl
 rw[<-e3];exact hc 3 _ rfl
def aO (x:Bool):List Value:=[.bool x]
def lX (m:List Int) (k:Int):List Int:=m.set k.toNat (wrap64 (m.getD k.toNat 0+1))
def nH (ns:List Int) (m:List Int) (es:List PEnt):List Int:=es.foldl (λm e=>lX m (aK ns e.num)) m
def vD (ns:List Int) (m:List Int) (xs:List PIn):List Int:=xs.foldl (λm x=>nH ns m x.ents) m
def nI (ns:List Int) (s:List Nat × List Bool) (e:PEnt):List Nat × List Bool:=
 if s.2.getD (aK ns e.num).toNat false=true then s else(s.1++[(aK ns e.num).toNat],s.2.set (aK ns e.num).toNat true)
def dA (ns:List Int) (s:List Nat × List Bool) (es:List PEnt):List Nat × List Bool:=es.foldl (nI ns) s
def bfs (ns:List Int) (ins:List PIn):Nat->List Nat->List Bool->List Bool
 |0,_,fd=>fd
 |_+1,[],fd=>fd
 |b+1,k::td,fd=>let r:=dA ns (td,fd) (match ins[k]? with|some x=>x.ents|none=>[]);bfs ns ins b r.1 r.2
def fD (S:PSt):List Int:=vD S.nums (List.replicate S.ins.length 0) S.ins
def eK (S:PSt):List Bool:=bfs S.nums S.ins S.ins.length [0] ((List.replicate S.ins.length false).set 0 true)
theorem aAC (m:List Int) (k:Int):(lX m k).length=m.length:=by simp[lX]
theorem aDE (ns:List Int) (es:List PEnt):∀m,(nH ns m es).length=m.length:=by
 induction es with
 |nil=>intro m;rfl
 |cons e es ih=>intro m;show(nH ns (lX m (aK ns e.num)) es).length=_;rw[ih,aAC]
theorem aPM (ns:List Int) (xs:List PIn):∀m,(vD ns m xs).length=m.length:=by
 induction xs with
 |nil=>intro m;rfl
 |cons x xs ih=>intro m;show(vD ns (nH ns m x.ents) xs).length=_;rw[ih,aDE]
theorem aKG (h:es[q]? =some e):nH ns m (es.drop q)=nH ns (lX m (aK ns e.num)) (es.drop (q+1)):=by rw[cQ h];rfl
theorem aKH {xs:List PIn} {x:PIn} (h:xs[q]? =some x):vD ns m (xs.drop q)=vD ns (nH ns m x.ents) (xs.drop (q+1)):=by rw[cQ h];rfl
theorem aKI {s:List Nat × List Bool} (h:es[q]? =some e):dA ns s (es.drop q)=dA ns (nI ns s e) (es.drop (q+1)):=by rw[cQ h];rfl
theorem RowAt.of_blk {α:Type} {b cap:Nat} {t:TypeId} (f:α->Value) (xs:List α) (h:Blk w b (xs.map f).toArray t) (hm:xs.length<=maxLen):RowAt w 1 (.slice b xs.length cap) (xs.map λx=>[f x]):=by
 refine⟨_,_,by rw[lM],by rw[lM];exact hm,λ_=>⟨b,0,rfl,h.lt.lt,λq cs hq t u hu=>?_⟩⟩;rw[gM]at hq;obtain⟨x,hx,rfl⟩:=Option.map_eq_some_iff.1 hq;rcases t with _|t
 .simp only[zH,zF]at hu;subst hu;rw[h.cell];simp[hx]
 simp at hu
theorem count_set (l:List Bool) (f:Nat) (h:l[f]? =some false):(l.set f true).count false+1=l.count false:=by
 obtain⟨hf,he⟩:=gI.1 h;rw[List.count_set (h:=hf)];have hm:false∈l:=by rw[<-he];exact getElem_mem hf
 have:0<l.count false:=count_pos_iff.2 hm;simp[he];omega
theorem aPN (ns:List Int) (s:List Nat × List Bool) (e:PEnt):(nI ns s e).2.length=s.2.length:=by
 unfold nI;split
 .rfl
 simp
theorem aDF (ns:List Int) (es:List PEnt):∀s,(dA ns s es).2.length=s.2.length:=by
 induction es with
 |nil=>intro s;rfl
 |cons e es ih=>intro s;show(dA ns (nI ns s e) es).2.length=_;rw[ih,aPN]
theorem sQ {α:Type} (f:α->Value) (z:α) (n:Nat):madeCells #[f z] n=((List.replicate n z).map f).toArray:=by apply Array.toList_inj.1;rw[toList_madeCells_one];simp
theorem aPO (b : Nat) (S:PSt) (w:World) (h:SP w b S) (hwf:S.wf) (hpos:0<S.ins.length) (hsm:S.ins.length<=1000) (hfind:∀x∈S.ins,∀e∈x.ents,0<=aK S.nums e.num):
 Calls prog 71 #[.pointer b] w λe w'=>∃mv fv,e=.returned (.tuple #[mv,fv])/\Bl w w'/\RowAt w' 1 mv ((fD S).map aJ)/\RowAt w' 1 fv ((eK S).map aO):=by
 have hf:∀ww,Bl w ww->∀n,vR ww 102 #[.pointer b,.int .i64 n] (.int .i64 (aK S.nums n)):=
  λww hb n=>jU b S n ww (h.below hb (zC _)) hwf
 obtain⟨hl,iv,ov,mv,c0,c1,c2,hr⟩:=h;have ib:BlockLt b w:=⟨hl⟩;have c8:=hwf.1;have b3:=aC hwf.2.2.2.1;obtain⟨ai,capi,rfl,hati⟩:=hr.ins_at2;have HI:=aC hati;clear hr hwf hati c1 c2;obtain⟨i0,hi,hz0,hz1,hz2⟩:=info_parts aAS;obtain⟨j0,ji,jz0,jz1,jz2⟩:=info_parts aMZ;have e2:∀u:World,(Instr.makeSlice 24 (.int .i64 S.ins.length) (.int .i64 S.ins.length)).run prog u=.ok (.slice (some ⟨u.heap.size,0,none⟩) S.ins.length S.ins.length) (u.alloc (.cells ((List.replicate S.ins.length (0:Int)).map λx=>Value.int .i64 x).toArray 3)):=λu=>by have:=run_makeSlice (P:=prog) u 24 3 i0 _ underlying24 hi hz0 .i64 .i64 S.ins.length S.ins.length (by omega) (Int.le_refl _) (by rw[hz1];omega) (by rw[hz2];omega) (by omega);rw[<-sQ (λx=>Value.int .i64 x)];simpa[hz1,Value.cells]using this
 have c9:∀u:World,(Instr.makeSlice 39 (.int .i64 S.ins.length) (.int .i64 S.ins.length)).run prog u=.ok (.slice (some ⟨u.heap.size,0,none⟩) S.ins.length S.ins.length) (u.alloc (.cells ((List.replicate S.ins.length false).map λx=>Value.bool x).toArray 4)):=λu=>by have:=run_makeSlice (P:=prog) u 39 4 j0 _ underlying39 ji jz0 .i64 .i64 S.ins.length S.ins.length (by omega) (Int.le_refl _) (by rw[jz1];omega) (by rw[jz2];omega) (by omega);rw[<-sQ (λx=>Value.bool x)];simpa[jz1,Value.cells]using this
 obtain⟨MM,hMM⟩:=gAB (fD S);obtain⟨FF,hFF⟩:=gAB (eK S);rw[hMM,hFF];have b4:=bJ hMM hFF;clear hMM hFF;go_in;go_upto_region 1 with fail;go_cut [4,5] (λs4 s5 wx=>∃M F:Nat,s4=.slice M S.ins.length S.ins.length/\s5=.slice F S.ins.length S.ins.length/\Bl w wx/\Blk wx M (Array.replicate S.ins.length (.int .i64 0)) 3/\Blk wx F (Array.replicate S.ins.length (.bool false)) 4/\M≠F/\w.heap.size<=M/\w.heap.size<=F)
 case first=>
  go_region_held3 (λw'=>w'.cell? b=some (.slice ai S.ins.length capi))
   (first|(try dsimp only)<;>go_simp)
   (fail)
  all_goals go_wp2_with fail
  all_goals go_meet
  all_goals(refine ⟨_,_,rfl,rfl,bel _ _,?_,?_,by omega,by omega,by omega⟩)
  all_goals(repeat (first|exact Blk.new_i _ _ _ _|refine Blk.alloc ?_ _|refine Blk.drew ?_))
 obtain⟨M,F,rfl,rfl,hb,hM,hF,hMF,hMg,hFg⟩:=hcut;have iM:=hM.lt;have iF:=hF.lt;have iB:Bel w wc:=⟨hb⟩;have e3:BlockLt b wc:=⟨by have:=hb.size;have:=ib.lt;omega⟩;have e4:wc.cell? b=some (.slice ai S.ins.length capi):=(hb.cell (p:=b) ib.lt).trans c0;have b5:Blk wc M ((List.replicate S.ins.length (0:Int)).map λx=>Value.int .i64 x).toArray 3:=by simpa using hM
 have b6:Blk wc F ((List.replicate S.ins.length false).map λx=>Value.bool x).toArray 4:=by simpa using hF
 have b7:=bJ b5 b6;have HG:=eH hMF hMg hFg;have d0:=aC c0;clear hM hF b5 b6 hMF hMg hFg c0;go_wp2
 go_loopw[32] (λi wr=>∃(q:Nat) (m:List Int),i=.int .i64 q/\q<=S.ins.length/\m.length=S.ins.length/\vD S.nums m (S.ins.drop q)=MM/\Bl w wr/\Blk wr M (m.map λx=>Value.int .i64 x).toArray 3/\Blk wr F ((List.replicate S.ins.length false).map λx=>Value.bool x).toArray 4) (λi _=>(S.ins.length-intOf i).toNat)
 case atStart=>exact⟨0,List.replicate S.ins.length 0,rfl,by omega,by simp,b4.out.1,bel _ _,b7.out.1,b7.out.2⟩
 obtain⟨q,m,rfl,hq,hml,a1,hbr,hMr,hFr⟩:=hrel
 rename World=>wo
 have d1:Bel w wo:=⟨hbr⟩;have d2:=hMr.lt;have d3:=hFr.lt;have d4:BlockLt b wo:=⟨by have:=hbr.size;have:=ib.lt;omega⟩;by_cases hlt:q<S.ins.length
 .obtain⟨z,hz⟩:=gAA hlt
  rw[aKH hz]at a1;obtain⟨bi,off,ev1,rfl,iG0,ho1,hev,hcl⟩:=HI.out q z hz;obtain⟨iGr,y0,y1,y2,y3⟩:=hcl wo hbr;obtain⟨hez,_⟩:=(b3.out z (mG hz)).2;have b8:=hfind z (mG hz);obtain⟨ae,ce,rfl,hat⟩:=hev.at_;rw[lM]at y2;have HE:=aC hat;have HR:=mJ a1 hml hMr hFr;have HZ:=aC b8;clear hat hev hz a1 hMr hFr hml b8 ho1 hcl;go_wp2
  go_loopw[39] (λi w2=>∃(k:Nat) (m2:List Int),i=.int .i64 k/\k<=z.ents.length/\m2.length=S.ins.length/\nH S.nums m2 (z.ents.drop k)=nH S.nums m z.ents/\Keep (λg=>g=M) wo w2/\Blk w2 M (m2.map λx=>Value.int .i64 x).toArray 3) (λi _=>(z.ents.length-intOf i).toNat)
  case atStart=>exact⟨0,m,rfl,by omega,HR.out.2.1,rfl,((Keep.refl _ _).alloc _),HR.out.2.2.1.alloc _⟩
  obtain⟨k,m2,rfl,hk,hm2,hre2,hkp,hM2⟩:=hrel;have b0:Bl w wr:=hbr.trans (hkp.below hbr.size (λi hi e=>by have:=HG.out.2.1;omega));have e5:Bel w wr:=⟨b0⟩;have e6:=hM2.lt;have e7:BlockLt b wr:=⟨by have:=b0.size;have:=ib.lt;omega⟩;by_cases hlk:k<z.ents.length
  .obtain⟨e,he⟩:=gAA hlk
   rw[aKG he]at hre2;obtain⟨be,offe,rfl,iE0,iE,hce⟩:=HE.out wr b0 k e.cells (by rw[gM,he];rfl);have e0:=hce 0 _ rfl;have e1:=hce 1 _ rfl;rw[zN]at e0;have a3:∀ww,Bl w ww->Calls prog 102 #[.pointer b,e.num] ww _:=λww hww=>hf ww hww e.num;have a4:=cX S.nums e.num;have a8:S.nums.length=S.ins.length:=by unfold PSt.nums;rw[lM]
   have a5:=HZ.out e (mG he);generalize aK S.nums e.num=fv at a3 a4 a5 hre2;obtain⟨f,rfl⟩:∃f:Nat,fv=f:=⟨fv.toNat,by omega⟩;have a6:f<S.ins.length:=by omega
   obtain⟨x,hx⟩:∃x,m2[f]? =some x:=⟨_,gE (by omega)⟩;have c3:wr.cell? ⟨M,f,none⟩=some (.int .i64 x):=by rw[hM2.cell f];simp[hx]
   have fz:wr.frozen? ⟨M,f,none⟩=false:=hM2.frozen f;have a2:lX m2 (f:Int)=m2.set f (wrap64 (x+1)):=by unfold lX;rw[zJ,zG,hx];rfl
   rw[a2]at hre2;have HN:=mJ hre2 hkp hM2 hm2;have e8:BlockGe M w:=⟨HG.out.2.1⟩;clear hce he a4 a8 a2 hx hre2 hkp hM2 hm2 a5;go_wp2_with((go_at_call 102;refine aE (a3 _ (bel _ _)) λp=>?_));go_roundw
   case rel=>refine⟨k+1,m2.set f (wrap64 (x+1)),by go_num,by omega,by rw[yB];exact HN.out.2.2.2,HN.out.1,((HN.out.2.1.setCell (p:=⟨M,f,none⟩) (.inl rfl) _).alloc _).junk _,?_⟩;have:=((HN.out.2.2.1.set_ f (.int .i64 (wrap64 (x+1)))).alloc (Obj.cells #[Value.string e.name,Value.int IntKind.i64 e.num] 97)).junk p;rw[sA,<-map_set (f:=λx=>Value.int .i64 x)]at this;exact this
   simp[intOf];omega
  rw[zS (by omega)]at hre2;have a7:m2=nH S.nums m z.ents:=hre2;have HN:=mJ a7 hkp hM2 hm2;clear hre2 a7 hkp hM2 hm2;go_wp2;go_roundw
  case rel=>exact⟨q+1,m2,by go_num,by omega,HN.out.2.2.2,by rw[HN.out.1];exact HR.out.1,bel _ _,HN.out.2.2.1,HN.out.2.1.blk HR.out.2.2.2 (λe=>by have:=HG.out.1;omega)⟩
  simp[intOf];omega
 rw [zS (by omega)]at a1;have d5:m=MM:=a1;subst d5;have HN:=eH hml hMr hFr;have e9:BlockGe F w:=⟨HG.out.2.2⟩;have f0:wo.cell? F=some (.bool false):=by rw[hFr.cell 0];simp[yQ,hpos]
 have f1:wo.frozen? F=false:=hFr.frozen 0;clear a1 hMr hFr hml;obtain⟨X,hX⟩:∃X:Nat->Prop,X=λg=>g<w.heap.size\/g=M\/g=F:=⟨_,rfl⟩;have XM:X M:=by rw[hX];exact .inr (.inl rfl)
 have XF:X F:=by rw[hX];exact .inr (.inr rfl)
 have Xw:∀i,i<w.heap.size->X i:=λi hi=>by rw[hX];exact .inl hi
 have b9:∀(wz:World),BlockLt M wz->BlockLt F wz->Bel w wz->∀g,wz.heap.size<=g->¬X g:=by
  intro wz i1 i2 i3 g hg hx;rw[hX]at hx;have:=i1.lt;have:=i2.lt;have:=i3.below.size;rcases hx with h|h|h<;>omega
 have HX:=mJ XM XF Xw b9;clear XM XF Xw b9 hX;go_wp2
 go_loopg [10] S.ins.length (λgk td wr=>∃(todo:List Nat) (fd:List Bool),TodoAt X wr td todo/\fd.length=S.ins.length/\(∀k∈todo,k<S.ins.length)/\fd.count false+todo.length<=gk/\bfs S.nums S.ins gk todo fd=FF/\Bl w wr/\Blk wr M (m.map λx=>Value.int .i64 x).toArray 3/\Blk wr F (fd.map λx=>Value.bool x).toArray 4/\gk<=S.ins.length)
 case atStart=>
  refine⟨[0],(List.replicate S.ins.length false).set 0 true,?_,by simp,by simpa using hpos,?_,b4.out.2,bel _ _,(HN.out.2.1.far (λe=>by have:=HG.out.1;simp at e;omega) _).alloc _,?_,zC _⟩
  .have h0:SizeIs (wo.setCell F (.bool true)) wo.heap.size:=inferInstance;exact⟨wo.heap.size,0,1,#[.int .i64 0],rfl,HX.out.2.2.2 wo d2 d3 d1 _ (zC _),Blk.new_i _ _ _ _,by simp,by simp,λi x hx=>by
    rcases i with _|i
    .simp at hx;subst hx;rfl
    simp at hx⟩
  .have:=count_set (List.replicate S.ins.length false) 0 (by simp[yQ,hpos]);rw[count_replicate_self]at this;simp only[zK,yX];omega
  have:=(HN.out.2.2.set_ 0 (.bool true)).alloc (Obj.cells #[Value.int IntKind.i64 0] 3);rw[sA,<-map_set (f:=λx=>Value.bool x)]at this;exact this
 obtain⟨todo,fd,hT,a6,htd,hcnt,a1,hb3,hM3,hF3,hgk⟩:=hrel
 rename World=>wq
 have f2:Bel w wq:=⟨hb3⟩;have f3:=hM3.lt;have f4:=hF3.lt;have f5:BlockLt b wq:=⟨by have:=hb3.size;have:=ib.lt;omega⟩;have f6:wq.cell? b=some (.slice ai S.ins.length capi):=(hb3.cell (p:=b) ib.lt).trans d0.out;obtain⟨g,off,cap,arr,rfl,hng,hbk,hle,har,hel⟩:=hT;rcases todo with _|⟨at_,td⟩
 .have d6:fd=FF:=by rw[<-a1];rcases gk with _|gk<;>rfl
  subst d6;have HP:=qM hM3 hF3 a6 HN.out.1 hb3;clear hM3 hF3 a1 hcnt htd hel a6;simp only[yX]at *;go_wp2
  go_ret2;refine⟨_,_,rfl,bel _ _,?_,?_⟩
  .have:=RowAt.of_blk (cap:=S.ins.length) (λx=>Value.int .i64 x) m HP.out.1 (by unfold maxLen;have:=HP.out.2.2.2.1;omega);rw[HP.out.2.2.2.1]at this;exact this
  have:=RowAt.of_blk (cap:=S.ins.length) (λx=>Value.bool x) fd HP.out.2.1 (by unfold maxLen;have:=HP.out.2.2.1;omega);rw[HP.out.2.2.1]at this;exact this
 rcases gk with _|gk
 .simp at hcnt
 have b1:at_<S.ins.length:=htd at_ (by simp);obtain⟨x,hx⟩:=gAA b1;have a1:bfs S.nums S.ins gk (dA S.nums (td,fd) x.ents).1 (dA S.nums (td,fd) x.ents).2=FF:=by rw[<-a1];show _=bfs S.nums S.ins gk (dA S.nums (td,fd) (match S.ins[at_]? with|some x=>x.ents|none=>[])).1 (dA S.nums (td,fd) (match S.ins[at_]? with|some x=>x.ents|none=>[])).2;rw[hx]
 obtain⟨bi,offi,ev1,rfl,iG0,ho1,hev,hcl⟩:=HI.out at_ x hx;obtain⟨iGq,y0,y1,y2,y3⟩:=hcl wq hb3;obtain⟨hez,_⟩:=(b3.out x (mG hx)).2;have c4:=hfind x (mG hx);obtain⟨ae,ce,rfl,hat⟩:=hev.at_;rw[lM]at y2;have f7:wq.cell? ⟨g,off,none⟩=some (.int .i64 at_):=by rw[hbk.cell];exact hel 0 at_ rfl
 have f8:=hbk.lt;have HE:=aC hat;have HZ:=qM c4 a1 htd hel hcnt;have HB:=jj6 hbk hng hM3 hF3 a6 har;have c5:(td.length:Int)+1<=cap:=by simp only[zK]at hle;omega
 clear hat hev hx a1 hM3 hF3 a6 c4 ho1 hcl htd hel hcnt hbk hng har;simp only[zK]at *;go_upto_region 15 with fail;go_cut [10] (λv10 wx=>TodoAt X wx v10 td/\wx=wq)
 case first=>
  go_wp2_with fail
  all_goals go_meet
  .have h1:cap=1:=by assumption
   refine⟨⟨g,off,0,arr,by simp,HB.out.2.1,HB.out.1,by omega,by have:=HB.out.2.2.2.2.2;omega,?_⟩,rfl⟩;intro i y hy;obtain⟨h,_⟩:=gI.1 hy;omega
  refine⟨⟨g,off+1,cap-1,arr,rfl,HB.out.2.1,HB.out.1,by omega,by have:=HB.out.2.2.2.2.2;omega,?_⟩,rfl⟩;intro i y hy;have:=HZ.out.2.2.2.1 (i+1) y (by simpa using hy);rw[<-this];congr 1;omega
 obtain⟨hT,rfl⟩:=hcut
 rename World=>wq
 have HT:=aC hT;have d7:=hT;obtain⟨g1,off1,cap1,arr1,rfl,-⟩:=d7;clear hT;go_wp2
 go_loopw[10,74] (λv10 i wr=>∃(k:Nat) (td2:List Nat) (fd2:List Bool),i=.int .i64 k/\k<=x.ents.length/\TodoAt X wr v10 td2/\fd2.length=S.ins.length/\(∀y∈td2,y<S.ins.length)/\dA S.nums (td2,fd2) (x.ents.drop k)=dA S.nums (td,fd) x.ents/\fd2.count false+td2.length<=gk/\Bl w wr/\Blk wr M (m.map λx=>Value.int .i64 x).toArray 3/\Blk wr F (fd2.map λx=>Value.bool x).toArray 4) (λ_ i _=>(x.ents.length-intOf i).toNat)
 case atStart=>exact⟨0,td,fd,rfl,by omega,HT.out,HB.out.2.2.2.2.1,λy hy=>HZ.out.2.2.1 y (zL _ hy),rfl,by have:=HZ.out.2.2.2.2;(try simp only[zK]at this);omega,hb3,HB.out.2.2.1,HB.out.2.2.2.1⟩
 obtain⟨k,td2,fd2,rfl,hk,hT2,hf2,htd2,hpu,hcn,hb4,hM4,hF4⟩:=hrel;have f9:Bel w wr:=⟨hb4⟩;have g0:=hM4.lt;have g4:=hF4.lt;have g5:BlockLt b wr:=⟨by have:=hb4.size;have:=ib.lt;omega⟩;by_cases hlk:k<x.ents.length
 .obtain⟨e,he⟩:=gAA hlk
  rw[aKI he]at hpu;obtain⟨be,offe,rfl,iE0,iE,hce⟩:=HE.out wr hb4 k e.cells (by rw[gM,he];rfl);have e0:=hce 0 _ rfl;have e1:=hce 1 _ rfl;rw[zN]at e0;have a3:∀ww,Bl w ww->Calls prog 102 #[.pointer b,e.num] ww _:=λww hww=>hf ww hww e.num;have a4:=cX S.nums e.num;have a8:S.nums.length=S.ins.length:=by unfold PSt.nums;rw[lM]
  have a5:=HZ.out.1 e (mG he);unfold nI at hpu;generalize aK S.nums e.num=fv at a3 a4 a5 hpu;obtain⟨f,rfl⟩:∃f:Nat,fv=f:=⟨fv.toNat,by omega⟩;have a6:f<S.ins.length:=by omega
  have d8:(f:Int)<S.ins.length:=by omega
  obtain⟨y,hy⟩:∃y,fd2[f]? =some y:=⟨_,gE (by omega)⟩;have c3:wr.cell? ⟨F,f,none⟩=some (.bool y):=by rw[hF4.cell f];simp[hy]
  have fz:wr.frozen? ⟨F,f,none⟩=false:=hF4.frozen f;simp only[zJ,zG,hy,Option.getD_some]at hpu;obtain⟨g2,off2,cap2,arr2,rfl,-⟩:=id hT2;rcases y with _|_
  .simp only[zP,if_false]at hpu;have c6:=count_set fd2 f hy;have a0:=jj7 hpu htd2 hM4 hF4 hf2 hcn c6;have b2:=aC hT2;have d9:td2.length<=1000000:=by
    omega
   clear hce he a4 a8 hy hpu hT2 hM4 hF4 htd2 hf2 c6 a5;go_wp2_with(first|(go_at_call 102;refine aE (a3 _ (bel _ _)) λp=>?_)|(at_builtin;refine rQ (by kernel_rfl) aAS _ rfl (.tmp 90) (.tmp 92) rfl X _ td2 rfl (by repeat(first|exact b2.out|refine TodoAt.alloc ?_ _|refine TodoAt.junk ?_ _|refine TodoAt.far ?_ HX.out.2.1 _)) (HX.out.2.2.2 _ inferInstance inferInstance ⟨bel _ _⟩) _ _ f rfl (by go_simp) d9 ?_));intro v' w' hT3 hkp3;have a9:=bJ hT3 hkp3;obtain⟨g3,off3,cap3,arr3,rfl,-⟩:=id hT3;clear hT3 hkp3;go_wp2;go_roundw
   case rel=>
    refine⟨k+1,td2++[f],fd2.set f true,by go_num,by omega,a9.out.1,by rw[yB];exact a0.out.2.2.2.2.1,?_,a0.out.1,?_,(bel w _).trans (a9.out.2.below (bel w _).size (λi hi hn=>hn (HX.out.2.2.1 i hi))),?_,?_⟩
    .intro y hy;rcases mem_append.1 hy with h|h
     .exact a0.out.2.1 y h
     simp only[yZ]at h;omega
    .have h1:=a0.out.2.2.2.2.2.1;have h2:=a0.out.2.2.2.2.2.2;simp only[lP,zK,yX];omega
    .exact a9.out.2.blk ((((a0.out.2.2.1.far (λe=>by have:=HG.out.1;simp at e;omega) _).alloc _).junk _).alloc _) (λhn=>hn HX.out.1)
    have:=a9.out.2.blk ((((a0.out.2.2.2.1.set_ f (.bool true)).alloc _).junk _).alloc _) (λhn=>hn HX.out.2.1);rw[sA,<-map_set (f:=λx=>Value.bool x)]at this;exact this
   simp[intOf];omega
  simp only[if_true]at hpu;have a0:=qM hpu htd2 hM4 hF4 hf2;have b2:=aC hT2;clear hce he a4 a8 hy hpu hT2 hM4 hF4 htd2 hf2 a5;go_wp2_with((go_at_call 102;refine aE (a3 _ (bel _ _)) λp=>?_));go_roundw
  case rel=>exact⟨k+1,td2,fd2,by go_num,by omega,by repeat(first|exact b2.out|refine TodoAt.alloc ?_ _|refine TodoAt.junk ?_ _),a0.out.2.2.2.2,a0.out.2.1,a0.out.1,hcn,bel _ _,(a0.out.2.2.1.alloc _).junk _,(a0.out.2.2.2.1.alloc _).junk _⟩
  simp[intOf];omega
 rw[zS (by omega)]at hpu;have c7:(td2,fd2)=dA S.nums (td,fd) x.ents:=hpu;have a0:=jj7 c7 htd2 hM4 hF4 hf2 hT2 hcn;obtain⟨g2,off2,cap2,arr2,rfl,-⟩:=id hT2;clear hpu c7 hT2 hM4 hF4 htd2 hf2 hcn;go_wp2
 go_roundg gk
 case rel=>exact⟨td2,fd2,a0.out.2.2.2.2.2.1,a0.out.2.2.2.2.1,a0.out.2.1,a0.out.2.2.2.2.2.2,by have h1:=HZ.out.2.1;rw[<-a0.out.1]at h1;exact h1,bel _ _,a0.out.2.2.1,a0.out.2.2.2.1,by omega⟩
 omega
end
theorem wL:(prog.info? 68).map (λi=>(i.zero,i.size,i.bytes))=some (some (.agg #[.int .i64 0,false,.slice none 0 0,ByteArray.empty]),4,56):=by kernel_rfl
theorem aDU:(prog.info? 97).map (λi=>(i.zero,i.size,i.bytes))=some (some (.agg #[ByteArray.empty,.int .i64 0]),2,24):=by kernel_rfl
theorem aDV:(prog.info? 95).map (λi=>(i.zero,i.size,i.bytes))=some (some (.agg #[.int .i64 0,.int .i64 0,.int .i64 0]),3,24):=by kernel_rfl
theorem pS {α:Type} (k:Nat):∀(rows:List (List α)),(∀cs∈rows,cs.length=k)->∀q t,t<k->rows.flatten[q*k+t]? =(rows[q]?).bind λcs=>cs[t]?
 |[],_,q,t,_=>by simp
 | c::r,h,q,t,ht=>by
   have hc:c.length=k:=h c (by simp);rw[flatten_cons];rcases q with _|q
   .rw[Nat.zero_mul,zM,zZ (by omega)];rfl
   rw[yC (by rw[hc,Nat.add_mul];omega),hc,show(q+1)*k+t-k=q*k+t by rw[Nat.add_mul];omega,pS k r (λcs hcs=>h cs (by simp[hcs])) q t ht];rfl
theorem eU {α:Type} (k:Nat):∀(rows:List (List α)),(∀cs∈rows,cs.length=k)->rows.flatten.length=rows.length*k
 |[],_=>by simp
 | c::r,h=>by rw[flatten_cons,lP,eU k r (λcs hcs=>h cs (by simp[hcs])),h c (by simp),zK,Nat.add_mul];omega
theorem RowAt.flat {w:World} {k:Nat} {v:Value} {rows:List (List Value)} (h:RowAt w k v rows) (hk:0<k) (hu:∀cs∈rows,cs.length=k):
 ∃a cap,v=.slice a rows.length cap/\∀x,a=some x->∀j u,rows.flatten[j]? =some u->w.cell? (x.add j)=some u:=by
 obtain⟨a,cap,rfl,hm,hr⟩:=h;refine⟨a,cap,rfl,λx hx j u hj=>?_⟩;have a1:j<rows.length*k:=by
  obtain⟨h,_⟩:=gI.1 hj
  rwa [eU k rows hu]at h
 have a0:0<rows.length:=by
  rcases Nat.eq_zero_or_pos rows.length with h0|h0
  .rw[h0,Nat.zero_mul]at a1;omega
  exact h0
 obtain⟨b,off,hab,_,hc⟩:=hr a0;subst hx;obtain rfl:x=⟨b,off,none⟩:=by simpa using hab
 have a2:j=j/k*k+j%k:=by rw[Nat.mul_comm];exact(Nat.div_add_mod j k).symm
 rw[a2]at hj |-;have ht:j%k<k:=Nat.mod_lt _ hk;rw[pS k rows hu _ _ ht]at hj;obtain⟨cs,hcs,hcu⟩:=Option.bind_eq_some_iff.1 hj;rw[Addr.add_lit];show w.cell? ⟨b,off+(j/k*k+j%k),none⟩=some u;rw[<-Nat.add_assoc];exact hc _ _ hcs _ _ hcu
structure InsT (sl e m bytes:Nat) (z:Value) (i0:TypeInfo):Prop where
 ht:prog.underlying sl=some (.slice e)
 hi:prog.info? e=some i0
 hz:i0.zero=some z
 h1:i0.size=m
 h2:i0.bytes=bytes
 hc:z.cells.size=m
 hk:0<m
 hm:m<=100
 hb:bytes<=100
def oL (n e k:Nat):Prop:=∀(rows:List (List Value)) (v:Value) (w:World),RowAt w k v rows->(∀cs∈rows,cs.length=k)->(∀cs∈rows,∀u∈cs,u.oneCell'=true)->rows.length<=1000000000->
 Calls prog n #[v] w λx w'=>∃v',x=.returned v'/\w'.ownsRow w.heap.size e k v' rows.length rows.flatten/\Bl w w'
theorem aDW:oL 137 68 4/\oL 138 97 2/\oL 139 95 3/\oL 140 3 1:=by
 obtain⟨i1,hi1,hz1,hs1,hb1⟩:=info_parts wL;obtain⟨i2,hi2,hz2,hs2,hb2⟩:=info_parts aDU;obtain⟨i3,hi3,hz3,hs3,hb3⟩:=info_parts aDV;obtain⟨i4,hi4,hz4,hs4,hb4⟩:=info_parts aAS;refine⟨have T:InsT 22 68 4 56 (.agg #[.int .i64 0,false,.slice none 0 0,ByteArray.empty]) i1:=⟨underlying22,hi1,hz1,hs1,hb1,rfl,by decide,by decide,by decide⟩;?_,have T:InsT 66 97 2 24 (.agg #[ByteArray.empty,.int .i64 0]) i2:=⟨underlying66,hi2,hz2,hs2,hb2,rfl,by decide,by decide,by decide⟩;?_,have T:InsT 23 95 3 24 (.agg #[.int .i64 0,.int .i64 0,.int .i64 0]) i3:=⟨underlying23,hi3,hz3,hs3,hb3,rfl,by decide,by decide,by decide⟩;?_,have T:InsT 24 3 1 8 (.int .i64 0) i4:=⟨underlying24,hi4,hz4,hs4,hb4,rfl,by decide,by decide,by decide⟩;?_⟩
 all_goals
  intro rows v w h hu h1 hn;have hl:=eU _ rows hu;have a0:∀u∈rows.flatten,u.oneCell'=true:=λu hm=>by obtain⟨cs,hc,hm⟩:=mem_flatten.1 hm;exact h1 cs hc u hm
  have a1:=h;obtain⟨a,cap,rfl,hc⟩:=h.flat T.hk hu;have q:=fun(w:World) (a:Option Addr) (n c n' c':Nat)=>Lib.run_eql_slice_nil w _ _ a n c n' c' T.ht;rcases a with _|x
  .obtain⟨a',c',e1,_,hr⟩:=a1;have hz:rows.length=0:=by
    rcases Nat.eq_zero_or_pos rows.length with h0|h0
    .exact h0
    obtain⟨b,off,hb,_⟩:=hr h0;rw[hb]at e1;simp at e1
   obtain rfl:rows=[]:=zT hz;clear hc h1 a0 hr h
   go_in
   go_wp2;go_ret;exact⟨_,rfl,⟨rfl,.inl ⟨rfl,rfl⟩⟩,bel _ _⟩
  have A:=aC (hc x rfl);clear hc h a1
  go_in
  go_wp2_with(at_builtin;refine wpList_append_own _ rfl _ _ _ rfl w.heap.size _ _ _ _ _ T.ht T.hi T.hz T.h1 T.h2 T.hc T.hk _ _ _ rfl (World.ownsRow_made w #[] 0 (zC _) (Nat.zero_le _) (by simp)) x rows.length cap rows.flatten rfl ?qc1 ?qc2 ?qc3 ?qc4 ?qc5 ?qc6 ?_)
  case qc1=>exact hl
  case qc2=>intro j u hj;exact Lib.cell?_alloc_some _ (A.out j u hj)
  case qc3=>exact a0
  case qc4=>unfold maxLen;omega
  case qc5=>omega
  case qc6=>simp
  intro v' w1 hown hgrow hnil;go_wp2;go_ret;refine⟨v',rfl,by simpa using hown,?_⟩;exact((Keep.refl (λ_=>False) w).alloc _ |>.grown hgrow (λk hk=>.inr (by simp[Value.ownBlock]at hk;omega))).below (zC _) (λi _ h=>h)
theorem aVG:oL 137 68 4:=aDW.1
theorem aVH:oL 138 97 2:=aDW.2.1
theorem aVI:oL 139 95 3:=aDW.2.2.1
theorem aVJ:oL 140 3 1:=aDW.2.2.2
section
def RowsIn (arr:Array Value) (k:Nat) (rows:List (List Value)):Prop:=∀(q:Nat) (cs:List Value),rows[q]? =some cs->∀(t:Nat) (u:Value),cs[t]? =some u->arr[q*k+t]? =some u
def OwnP (B:Nat) (w:World) (e:TypeId) (k:Nat) (v:Value) (rows:List (List Value)):Prop:=
 (v=.slice none 0 0/\rows=[])\/∃g cap arr,v=.slice (some ⟨g,0,none⟩) rows.length cap/\B<=g/\Blk w g arr e/\rows.length<=cap/\cap<=maxLen/\arr.size=cap*k/\RowsIn arr k rows
variable {B g k:Nat} {e t:TypeId} {rows:List (List Value)} {v:Value} {w:World}
theorem OwnP.of_own (h:w.ownsRow B e k v rows.length rows.flatten) (hk:0<k) (hu:∀cs∈rows,cs.length=k):OwnP B w e k v rows:=by
 obtain⟨hl,h0|⟨g,cap,cur,rfl,hg,hb,hn,hm,hs,ht⟩⟩:=h
 .exact .inl ⟨h0.1,zT h0.2⟩
 refine .inr ⟨g,cap,cur,rfl,hg,hb,hn,hm,hs,λq cs hq t u hc=>?_⟩;have a0:t<k:=by have:=hu cs (mG hq);obtain⟨h,_⟩:=gI.1 hc;omega
 obtain⟨hql,_⟩:=gI.1 hq;have h1:rows.flatten[q*k+t]? =some u:=by rw[pS k rows hu q t a0,hq];exact hc
 rw[<-ht,yO]at h1;have:q*k+t<rows.length*k:=by have h2:(q+1)*k<=rows.length*k:=Nat.mul_le_mul_right _ (by omega);rw[Nat.add_mul,Nat.one_mul]at h2;omega
 rw[zB this]at h1;simpa using h1
theorem OwnP.own (h:OwnP B w e k v rows) (hk:0<k) (hu:∀cs∈rows,cs.length=k):w.ownsRow B e k v rows.length rows.flatten:=by
 refine⟨eU k rows hu,?_⟩;rcases h with⟨rfl,rfl⟩|⟨g,cap,cur,rfl,hg,hb,hn,hm,hs,hr⟩
 .exact .inl ⟨rfl,rfl⟩
 refine .inr ⟨g,cap,cur,rfl,hg,hb,hn,hm,hs,?_⟩;apply ext_getElem?;intro i;have hl:=eU k rows hu;rw[yO];by_cases hi:i<rows.length*k
 .rw[zB hi];have a0:i=i/k*k+i%k:=by rw[Nat.mul_comm];exact(Nat.div_add_mod i k).symm
  have ht:i%k<k:=Nat.mod_lt _ hk;have hq:i/k<rows.length:=Nat.div_lt_of_lt_mul (by rwa [Nat.mul_comm]);have a1:=hu rows[i/k] (getElem_mem hq);have h1:=hr (i/k) rows[i/k] (gE hq) (i%k) rows[i/k][i%k] (gE (by omega));have key:∀j,j=i/k*k+i%k->cur.toList[j]? =rows.flatten[j]? :=by intro j hj;rw[hj,pS k rows hu _ _ ht,gE hq];show _=rows[i/k][i%k]?;rw[show rows[i/k][i%k]? =some rows[i/k][i%k]from gE (by omega),<-h1];simp
  exact key i a0
 rw[zA hi,getElem?_eq_none (by omega)]
theorem OwnP.row (h:OwnP B w e k v rows):RowAt w k v rows:=by
 rcases h with⟨rfl,rfl⟩|⟨g,cap,cur,rfl,hg,hb,hn,hm,hs,hr⟩
 .exact⟨none,0,rfl,by simp,λh=>absurd h (by simp)⟩
 exact⟨_,_,rfl,by omega,λ_=>⟨g,0,rfl,hb.lt.lt,λq cs hq t u hc=>by rw[hb.cell,zM];exact hr q cs hq t u hc⟩⟩
theorem OwnP.keep {w':World} {S:Nat->Prop} (h:OwnP B w e k v rows) (hk:Keep S w w') (hn:∀g,v.ownBlock=some g->¬S g):OwnP B w' e k v rows:=by
 rcases h with h|⟨g,cap,cur,rfl,hg,hb,r⟩
 .exact .inl h
 exact .inr ⟨g,cap,cur,rfl,hg,hk.blk hb (hn g rfl),r⟩
theorem OwnP.mono {B':Nat} (h:OwnP B w e k v rows) (hb:B'<=B):OwnP B' w e k v rows:=by
 rcases h with h|⟨g,cap,cur,rfl,hg,r⟩
 .exact .inl h
 exact .inr ⟨g,cap,cur,rfl,by omega,r⟩
theorem OwnP.ge (h:OwnP B w e k v rows) (hg:v.ownBlock=some g):B<=g:=by
 rcases h with⟨rfl,_⟩|⟨g',cap,cur,rfl,hg',r⟩
 .simp[Value.ownBlock]at hg
 simp[Value.ownBlock]at hg;omega
theorem OwnP.lt (h:OwnP B w e k v rows) (hg:v.ownBlock=some g):g<w.heap.size:=by
 rcases h with⟨rfl,_⟩|⟨g',cap,cur,rfl,hg',hb,r⟩
 .simp[Value.ownBlock]at hg
 simp[Value.ownBlock]at hg;subst hg;exact hb.lt.lt
theorem OwnP.ne_blk {b:Nat} {c:Array Value} (h:OwnP B w e k v rows) (hb:Blk w b c t) (hne:e≠t) (hg:v.ownBlock=some g):g≠b:=by
 rcases h with⟨rfl,_⟩|⟨g',cap,cur,rfl,hg',hb',r⟩
 .simp[Value.ownBlock]at hg
 simp[Value.ownBlock]at hg;subst hg;exact hb'.ne_ hb hne
theorem OwnP.one (h:OwnP B w e k v rows):v.oneCell'=true:=by
 rcases h with⟨rfl,_⟩|⟨g',cap,cur,rfl,_⟩<;>rfl
theorem RowsIn.set {arr:Array Value} (h:RowsIn arr k rows) (hu:∀cs∈rows,cs.length=k) {q t:Nat} {cs:List Value} (hq:rows[q]? =some cs) (ht:t<k) (hs:q*k+t<arr.size) (u:Value):RowsIn (arr.setIfInBounds (q*k+t) u) k (rows.set q (cs.set t u)):=by
 intro q' cs' hq' t' u' hc';obtain⟨hql,_⟩:=gI.1 hq;have a0:=hu cs (mG hq);by_cases e:q=q'
 .subst e;rw[zY hql]at hq';cases hq';by_cases e2:t=t'
  .subst e2;rw[zY (by omega)]at hc';cases hc';rw[yE,zB rfl,zB hs]
  rw[zX e2]at hc';rw[yE,zA (by omega)];exact h q cs hq t' u' hc'
 rw[zX e]at hq';have a1:t'<k:=by have:=hu cs' (mG hq');obtain⟨h,_⟩:=gI.1 hc';omega
 rw[yE,zA ?_]
 .exact h q' cs' hq' t' u' hc'
 intro hh;rcases Nat.lt_or_gt_of_ne e with h|h
 .have:=Nat.mul_le_mul_right k (show q+1<=q' from h);rw[Nat.add_mul]at this;omega
 have:=Nat.mul_le_mul_right k (show q'+1<=q from h);rw[Nat.add_mul]at this;omega
theorem gL:∀(is:List IRec),∀cs∈is.map IRec.cells,cs.length=4:=by intro is cs h;obtain⟨r,_,rfl⟩:=mem_map.1 h;rfl
theorem pJ:∀(es:List PEnt),∀cs∈es.map PEnt.cells,cs.length=2:=by intro es cs h;obtain⟨r,_,rfl⟩:=mem_map.1 h;rfl
theorem nD:∀(es:List PDesc),∀cs∈es.map PDesc.cells,cs.length=3:=by intro es cs h;obtain⟨r,_,rfl⟩:=mem_map.1 h;rfl
theorem vP:∀(es:List Int),∀cs∈es.map aJ,cs.length=1:=by intro es cs h;obtain⟨r,_,rfl⟩:=mem_map.1 h;rfl
theorem pK:∀(is:List IRec),∀cs∈is.map IRec.cells,∀u∈cs,u.oneCell'=true:=by
 intro is cs h u hu;obtain⟨r,_,rfl⟩:=mem_map.1 h;simp only[IRec.cells,mem_cons,not_mem_nil,or_false]at hu;rcases hu with rfl|rfl|rfl|rfl<;>first|rfl|exact r.one
theorem sJ:∀(is:List PEnt),∀cs∈is.map PEnt.cells,∀u∈cs,u.oneCell'=true:=by
 intro is cs h u hu;obtain⟨r,_,rfl⟩:=mem_map.1 h;simp only[PEnt.cells,mem_cons,not_mem_nil,or_false]at hu;rcases hu with rfl|rfl<;>rfl
theorem qA:∀(is:List PDesc),∀cs∈is.map PDesc.cells,∀u∈cs,u.oneCell'=true:=by
 intro is cs h u hu;obtain⟨r,_,rfl⟩:=mem_map.1 h;simp only[PDesc.cells,mem_cons,not_mem_nil,or_false]at hu;rcases hu with rfl|rfl|rfl<;>rfl
theorem aMF:∀(is:List Int),∀cs∈is.map aJ,∀u∈cs,u.oneCell'=true:=by intro is cs h u hu;obtain⟨r,_,rfl⟩:=mem_map.1 h;simp only[aJ,mem_cons,not_mem_nil,or_false]at hu;subst hu;rfl
def StOwn (B:Nat) (w:World) (iv ov mv:Value) (S:PSt):Prop:=
 OwnP B w 95 3 ov (S.op.map PDesc.cells)/\OwnP B w 3 1 mv (S.made.map aJ)/\∃is:List IRec,OwnP B w 68 4 iv (is.map IRec.cells)/\is.length=S.ins.length/\
  (∀(q:Nat) (r:IRec) (x:PIn),is[q]? =some r->S.ins[q]? =some x->r.num=x.num/\r.dir=x.dir/\r.data=x.data/\OwnP B w 97 2 r.ev (x.ents.map PEnt.cells))/\
  ∀(p q:Nat) (r r':IRec),p≠q->is[p]? =some r->is[q]? =some r'->∀g,r.ev.ownBlock=some g->r'.ev.ownBlock≠some g
theorem StOwn.read {iv ov mv:Value} {S:PSt} (h:StOwn B w iv ov mv S):StRead w iv ov mv S:=by
 obtain⟨h1,h2,is,h3,h4,h5,_⟩:=h;exact⟨h1.row,h2.row,is,h3.row,h4,λq r x hr hx=>by
  obtain⟨a1,a2,a3,a4⟩:=h5 q r x hr hx;exact⟨a1,a2,a3,a4.row⟩⟩
end
theorem pT {w:World} {B n k:Nat} {e:TypeId} {v:Value} {xs:List Value} (h:w.ownsRow B e k v n xs):v.oneCell'=true:=by
 obtain⟨_,⟨rfl,_⟩|⟨g,cap,cur,rfl,_⟩⟩:=h<;>rfl
structure ClAt (w:World) (iv iv' ov mv:Value) (S:PSt) (q:Nat) (wr:World):Prop where
 le:q<=S.ins.length
 rows:∃is:List IRec,OwnP w.heap.size wr 68 4 iv' (is.map IRec.cells)/\is.length=S.ins.length/\
  (∀(j:Nat) (r:IRec) (x:PIn),is[j]? =some r->S.ins[j]? =some x->r.num=x.num/\r.dir=x.dir/\r.data=x.data/\(j<q->OwnP w.heap.size wr 97 2 r.ev (x.ents.map PEnt.cells))/\(q<=j->RowAt w 2 r.ev (x.ents.map PEnt.cells)))/\
  ∀(p j:Nat) (r r':IRec),p≠j->p<q->j<q->is[p]? =some r->is[j]? =some r'->∀g,r.ev.ownBlock=some g->r'.ev.ownBlock≠some g
 below:Bl w wr
 box:Blk wr w.heap.size #[iv',ov,mv] 26
 out:∃c,Blk wr (w.heap.size+1) c 26/\c.size=3
theorem aLJ (iv ov mv:Value) (S:PSt) (w:World) (h:StRead w iv ov mv S) (hwf:S.wf):
 Calls prog 106 #[.agg #[iv,ov,mv]] w λe w'=>∃iv' ov' mv',e=.returned (.agg #[iv',ov',mv'])/\Bl w w'/\StOwn w.heap.size w' iv' ov' mv' S:=by
 have g3:iv.oneCell'=true:=by obtain⟨_,_,_,h3,_⟩:=h;exact h3.one
 have g4:=h.1.one;have g5:=h.2.1.one;obtain⟨hop,hmade,is0,hrow,his,hrec⟩:=h;have d9:=hwf.1;have e0:∀ww,Bl w ww->Calls prog 137 #[iv] ww _:=λww hb=>aVG (is0.map IRec.cells) iv ww (hrow.below hb (zC _)) (gL _) (pK _) (by rw[lM];omega);have H0:=jj6 hop hmade hrow his hrec hwf;clear hop hmade hrow hrec hwf;go_in;go_wp2_with(go_at_call 137;refine(e0 _ (bel _ _)).mono ?_;rintro e w1 ⟨iv',rfl,hown,hb1⟩;have hP:=(OwnP.of_own hown (by decide) (gL _)).mono (bel w _).size;rw[lM,his]at hown;obtain⟨ga,gc,rfl⟩:=oZ hown;have a6:Blk w1 w.heap.size #[iv,ov,mv] 26:=((Blk.new w _ 26).alloc _).below hb1 (by simp;omega);have a9:Blk w1 (w.heap.size+1) #[.slice none 0 0,.slice none 0 0,.slice none 0 0] 26:=(Blk.new_i (w.alloc (.cells #[iv,ov,mv] 26)) _ 26 _).below hb1 (by simp);have c5:=(bel w _).trans (hb1.mono (bel w _).size);have g6:Bel w w1:=⟨c5⟩;have iX:=a6.lt;have iR:=a9.lt;have x0:=a6.cell 0;have g7:=a6.frozen 0;have x1:=a6.cell 1;have x2:=a6.cell 2;simp only[yD,zH,zV]at x0 x1 x2;have H1:=mJ hP c5 a6 a9;clear hown hb1 hP c5 a6 a9)
 go_loopw[11] (λi wr=>∃(q:Nat),i=.int .i64 q/\ClAt w iv (.slice ga S.ins.length gc) ov mv S q wr) (λi _=>(S.ins.length-intOf i).toNat)
 case atStart=>
  obtain⟨hP,c5,a6,a9⟩:=H1.out;have hk:Keep (λg=>g=w.heap.size) w1 (w1.setCell w.heap.size (.slice ga S.ins.length gc)):=Keep.setCell (S:=λg=>g=w.heap.size) (p:=w.heap.size) (Keep.refl _ w1) (.inl rfl) _;refine⟨0,rfl,by omega,⟨is0,hP.keep hk (λg hg=>hP.ne_blk a6 (by decide) hg),his,?_,λp j r r' _ h=>by omega⟩,bel _ _,?_,⟨_,hk.blk a9 (by omega),rfl⟩⟩
  .intro j r x hr hx;obtain⟨e1,e2,e3,e4⟩:=H0.out.2.2.2.2.1 j r x hr hx;exact⟨e1,e2,e3,λh=>by omega,λ_=>e4⟩
  exact a6.set_ 0 _
 obtain⟨q,rfl,hc⟩:=hrel;have b9:=hc.below;have iB:Bel w wr:=⟨b9⟩;have c9:=hc.box.lt;have e5:=hc.box.cell 0;have d0:=hc.box.cell 1;have e6:=hc.box.cell 2;simp only[yD,zH,zV]at e5 d0 e6;have g8:=hc.le;by_cases hlt:q<S.ins.length
 .obtain⟨is,hO,hil,hrec,hdis⟩:=hc.rows;have e7:=hO;rcases e7 with⟨h0,h1⟩|⟨g,cap,arr,he,hgB,hgb,hnc,hcm,hsz,hri⟩
  .have:is.length=0:=by
    have:=congrArg List.length h1;simpa using this
   omega
  rw[lM,hil]at he hnc;simp only[zO]at he;obtain⟨rfl,-,rfl⟩:=he;obtain⟨r,hr⟩:∃r,is[q]? =some r:=⟨_,gE (by omega)⟩;obtain⟨x,hx⟩:=gAA hlt;obtain⟨r1,r2,r3,_,r4⟩:=hrec q r x hr hx;have hm:(is.map IRec.cells)[q]? =some r.cells:=by rw[gM,hr];rfl
  have g2:wr.cell? ⟨g,q*4+2,none⟩=some r.ev:=by rw[hgb.cell];exact hri q _ hm 2 _ rfl
  have iG:=hgb.lt;have d1:=(H0.out.2.2.2.2.2.2.2.2.1 x (mG hx)).2.1;have e8:=r.one;have e9:∀ww,Bl w ww->Calls prog 138 #[r.ev] ww _:=λww hb=>aVH (x.ents.map PEnt.cells) r.ev ww ((r4 (zC _)).below hb (zC _)) (pJ _) (sJ _) (by rw[lM];exact d1);have HC:=aC (And.intro hc (And.intro hO (And.intro hgb (And.intro hri (And.intro hrec (And.intro hdis (And.intro hr (And.intro hx (And.intro hsz hil)))))))));clear hc hO hgb hri hrec hdis hr hx r1 r2 r3 r4 hm d1 hsz hil;go_upto_region 5 with fail;have iQ:0<=(q:Int)/\(q:Int)<S.ins.length:=by omega
  refine aH [9,12] true (λw'=>w'.cell? w.heap.size=some (.slice g S.ins.length gc)/\w'.cell? ⟨g,q*4+2,none⟩=some r.ev) (by kernel_rfl) (by kernel_rfl) ?_ ?_
  · (try dsimp only);(repeat' apply And.intro)<;>go_simp
  repeat
   apply aI0 rfl rfl
   focus
    rintro w' ⟨s0,s1⟩;go_simp
    first|done|rfl
   simp only[Act.put,sA,sZ,sS]
  refine bB rfl rfl ?_;refine aS 138 #[r.ev] ?hr ?_
  case hr=>
   go_simp
   first|done|rfl
  refine(e9 wr.drew (bel w _)).mono ?_;rintro e w2 ⟨v',rfl,hown2,hb2⟩;have b4:=OwnP.of_own hown2 (by decide) (pJ _);have d2:=pT hown2;rw[lM]at hown2;obtain⟨va,vc,rfl⟩:=oZ hown2;have a7:=(HC.out.1.box.drew).below hb2 c9.lt;have a8:=(HC.out.2.2.1.drew).below hb2 iG.lt;have g9:=a7.lt;have h4:=a8.lt;have y0:=a7.cell 0;simp only[yD,zH,zV]at y0;have y2:w2.cell? ⟨g,q*4+2,none⟩=some r.ev:=by rw[a8.cell];exact HC.out.2.2.2.1 q _ (by rw[gM,HC.out.2.2.2.2.2.2.1];rfl) 2 _ rfl
  have fz:=a8.frozen (q*4+2);have H2:=mJ b4 hb2 a7 a8;clear hown2 b4 hb2 a7 a8;refine⟨_,rfl,.inl ⟨y0,y2⟩,?_⟩;simp only[Act.put,sA,sZ,sS]
  repeat
   apply aI0 rfl rfl
   focus
    rintro w' ⟨s0,s1⟩;go_simp
    first|done|rfl
   simp only[Act.put,sA,sZ,sS]
  refine aW rfl rfl ?_;apply Exists.intro;refine⟨?_,.inr ⟨rfl,rfl⟩,?_⟩
  focus
   go_simp;rfl
  simp only[Act.put];refine aU ?_;go_wp2;go_roundw
  case rel=>
   obtain⟨hc,hO,hgb,hri,hrec,hdis,hr,hx,hsz,hil⟩:=HC.out;obtain⟨b4,hb2,a7,a8⟩:=H2.out;obtain⟨r1,r2,r3,_,_⟩:=hrec q r x hr hx;obtain⟨c,hout,hcs⟩:=hc.out;have h5:=hgb.lt.lt;have b7:=b9.size;have hK:Keep (λk=>k=g) wr (w2.setCell ⟨g,q*4+2,none⟩ (.slice va x.ents.length vc)):=
    Keep.setCell (S:=λk=>k=g) (p:=⟨g,q*4+2,none⟩) (Keep.of_below (show Bl wr w2 from(Below.refl wr.heap.size wr).drew.trans hb2) _) (.inl rfl) _
   have b8:Keep (λk=>k=g) w2 (w2.setCell ⟨g,q*4+2,none⟩ (.slice va x.ents.length vc)):=
    Keep.setCell (S:=λk=>k=g) (p:=⟨g,q*4+2,none⟩) (Keep.refl _ _) (.inl rfl) _
   have c7:q<is.length:=by omega
   have h6:∀k,w.heap.size<=k->∀(hk:k<wr.heap.size),k≠g->True:=λ_ _ _ _=>trivial;have c0:(is.map IRec.cells).set q (r.cells.set 2 (.slice va x.ents.length vc))=(is.set q ⟨r.num,r.dir,.slice va x.ents.length vc,r.data,rfl⟩).map IRec.cells:=by rw[map_set];rfl
   refine⟨q+1,by go_num,by omega,⟨is.set q ⟨r.num,r.dir,.slice va x.ents.length vc,r.data,rfl⟩,.inr ⟨g,gc,arr.setIfInBounds (q*4+2) (.slice va x.ents.length vc),by rw[lM,yB,hil],hgB,a8.set_ _ _,by rw[lM,yB];omega,hcm,by rw[Array.size_setIfInBounds];exact hsz,?_⟩,by rw[yB];exact hil,?_,?_⟩,?_,?_,?_⟩
   .rw[<-c0];exact hri.set (gL _) (by rw[gM,hr];rfl) (by decide) (by omega) _
   .intro j r'' x'' hr'' hx'';by_cases e:q=j
    .subst e;rw[zY c7]at hr'';rw[hx]at hx'';cases hr'';cases hx'';exact⟨r1,r2,r3,λ_=>((b4.mono (show w.heap.size<=wr.drew.heap.size from b7)).keep b8 (λk hk=>b4.ne_blk a8 (by decide) hk)),λh=>by omega⟩
    rw[zX e]at hr'';obtain⟨a1,a2,a3,a4,a5⟩:=hrec j r'' x'' hr'' hx'';exact⟨a1,a2,a3,λh=>(a4 (by omega)).keep hK (λk hk=>(a4 (by omega)).ne_blk hgb (by decide) hk),λh=>a5 (by omega)⟩
   .intro p j ra rb hpj hp hj ha hb k hk;have c1:∀(j:Nat) (rb:IRec),j<q->is[j]? =some rb->∀k,rb.ev.ownBlock=some k->k<wr.heap.size:=by
     intro j rb hj hb k hk;obtain⟨xb,hxb⟩:∃xb,S.ins[j]? =some xb:=⟨_,gE (by omega)⟩;exact((hrec j rb xb hb hxb).2.2.2.1 hj).lt hk
    by_cases e:q=p
    .subst e;rw[zY c7]at ha;rw[zX hpj]at hb;cases ha;intro h;have h1:=c1 j rb (by omega) hb k h;have h2:=b4.ge hk;have h3:wr.drew.heap.size=wr.heap.size:=rfl;omega
    rw[zX e]at ha;by_cases e2:q=j
    .subst e2;rw[zY c7]at hb;cases hb;intro h;have h1:=c1 p ra (by omega) ha k hk;have h2:=b4.ge h;have h3:wr.drew.heap.size=wr.heap.size:=rfl;omega
    rw[zX e2]at hb;exact hdis p j ra rb hpj (by omega) (by omega) ha hb k hk
   .exact b9.trans (hK.below b7 (λi hi h=>by omega))
   .exact a7.far (λe=>(hgb.ne_ hc.box (by decide)) (by simpa using e.symm)) _
   exact⟨c,hK.blk hout (λe=>(hgb.ne_ hout (by decide)) e.symm),hcs⟩
  simp[intOf];omega
 have hq:q=S.ins.length:=by omega
 have HC:=aC hc;have HQ:=aC hq;obtain⟨c,hout,hcs⟩:=hc.out;have h7:=hout.lt;have b3:∀i,i<3->∃u,wr.cell? ⟨w.heap.size+1,i,none⟩=some u:=λi hi=>by rw[hout.cell];exact⟨_,yA (by omega)⟩
 obtain⟨u0,z0⟩:=b3 0 (by omega);obtain⟨u1,z1⟩:=b3 1 (by omega);obtain⟨u2,z2⟩:=b3 2 (by omega);have f0:=hout.frozen 0;have f1:=hout.frozen 1;have f2:=hout.frozen 2;have h8:=hc.box.frozen 1;have h9:=hc.box.frozen 2;have f3:∀ww,Bl w ww->Calls prog 139 #[ov] ww _:=λww hb=>aVI (S.op.map PDesc.cells) ov ww (H0.out.1.below hb (zC _)) (nD _) (qA _) (by rw[lM];exact H0.out.2.2.2.2.2.2.1);have f4:∀ww,Bl w ww->Calls prog 140 #[mv] ww _:=λww hb=>aVJ (S.made.map aJ) mv ww (H0.out.2.1.below hb (zC _)) (vP _) (aMF _) (by rw[lM];exact H0.out.2.2.2.2.2.2.2.1);clear hc hq hout b3 hcs;go_upto_region 7 with fail;have i0:=d0;go_cut [] (λwx=>∃ov' mv',Blk wx w.heap.size #[.slice ga S.ins.length gc,ov',mv'] 26/\Keep (λk=>k=w.heap.size) wr wx/\OwnP wr.heap.size wx 95 3 ov' (S.op.map PDesc.cells)/\OwnP wr.heap.size wx 3 1 mv' (S.made.map aJ))
 case first=>
  refine aH [1,2,5,7,9] true (λw'=>w'.cell? ⟨w.heap.size,2,none⟩=some mv) (by kernel_rfl) (by kernel_rfl) ?_ ?_
  .go_simp
  repeat
   apply aI0 rfl rfl
   focus
    rintro w' s0;go_simp
    first|done|rfl
   simp only[Act.put,sA,sZ,sS]
  refine nS rfl rfl ?_;refine⟨ov,wr.drew,?_,.inl (by go_simp),?_⟩
  focus
   go_simp
   first|done|rfl
  simp only[Act.put,sA,sZ,sS];refine bB rfl rfl ?_;refine aS 139 #[ov] ?hr ?_
  case hr=>
   go_simp
   first|done|rfl
  refine(f3 wr.drew (bel w _)).mono ?_;rintro e w5 ⟨ov',rfl,hownO,hb5⟩;have d3:=OwnP.of_own hownO (by decide) (nD _);have d4:=pT hownO;rw[lM]at hownO;obtain⟨oa,oc,rfl⟩:=oZ hownO;have c2:=(HC.out.box.drew).below hb5 c9.lt;have f5:=c2.lt;have f6:=c2.cell 1;have d5:=c2.cell 2;simp only[yD,zH,zV]at f6 d5;have i1:Bel w w5:=⟨(bel w wr.drew).trans (hb5.mono (bel w wr.drew).size)⟩;have HO:=eH d3 hb5 c2;clear hownO d3 hb5 c2;refine⟨_,rfl,.inl d5,?_⟩;simp only[Act.put,sA,sZ,sS]
  repeat
   apply aI0 rfl rfl
   focus
    rintro w' s0;go_simp
    first|done|rfl
   simp only[Act.put,sA,sZ,sS]
  refine bB rfl rfl ?_;refine aS 140 #[mv] ?hr2 ?_
  case hr2=>
   go_simp
   first|done|rfl
  refine(f4 w5 (bel w _)).mono ?_;rintro e w6 ⟨mv',rfl,hownM,hb6⟩;have d6:=OwnP.of_own hownM (by decide) (vP _);have d7:=pT hownM;rw[lM]at hownM;obtain⟨ma,mc,rfl⟩:=oZ hownM;have b5:=(HO.out.2.2).below hb6 f5.lt;have i2:=b5.lt;have f7:=b5.cell 1;have d8:=b5.cell 2;have f8:=b5.frozen 1;have f9:=b5.frozen 2;simp only[yD,zH,zV]at f7 d8;have HM:=eH d6 hb6 b5;clear hownM d6 hb6 b5;refine⟨_,rfl,.inl d8,?_⟩;simp only[Act.put,sA,sZ,sS]
  repeat
   apply aI0 rfl rfl
   focus
    rintro w' s0;go_simp
    first|done|rfl
   simp only[Act.put,sA,sZ,sS]
  refine aW rfl rfl ?_;refine⟨w6.setCell ⟨w.heap.size,1,none⟩ (.slice oa S.op.length oc),?_,.inl (by go_simp),?_⟩
  focus
   go_simp
   first|done|rfl
  simp only[Act.put,sA,sZ,sS]
  repeat
   apply aI0 rfl rfl
   focus
    rintro w' s0;go_simp
    first|done|rfl
   simp only[Act.put,sA,sZ,sS]
  refine aW rfl rfl ?_;refine⟨(w6.setCell ⟨w.heap.size,1,none⟩ (.slice oa S.op.length oc)).setCell ⟨w.heap.size,2,none⟩ (.slice ma S.made.length mc),?_,.inr ⟨rfl,rfl⟩,?_⟩
  focus
   go_simp
   first|done|rfl
  simp only[Act.put];refine aU ?_;go_wp2_with fail;go_meet;have b6:Bl wr w5:=(Below.refl wr.heap.size wr).drew.trans HO.out.2.1;have c8:Bl wr w6:=b6.trans (HM.out.2.1.mono b6.size);refine⟨_,_,((HM.out.2.2.set_ 1 _).set_ 2 _),Keep.setCell (S:=λk=>k=w.heap.size) (p:=⟨w.heap.size,2,none⟩) (Keep.setCell (S:=λk=>k=w.heap.size) (p:=⟨w.heap.size,1,none⟩) (Keep.of_below c8 _) (.inl rfl) _) (.inl rfl) _,?_,?_⟩
  .exact HO.out.1.keep (Keep.setCell (S:=λk=>k=w.heap.size) (p:=⟨w.heap.size,2,none⟩) (Keep.setCell (S:=λk=>k=w.heap.size) (p:=⟨w.heap.size,1,none⟩) (Keep.of_below HM.out.2.1 _) (.inl rfl) _) (.inl rfl) _) (λk hk=>HO.out.1.ne_blk HO.out.2.2 (by decide) hk)
  exact(HM.out.1.mono b6.size).keep (Keep.setCell (S:=λk=>k=w.heap.size) (p:=⟨w.heap.size,2,none⟩) (Keep.setCell (S:=λk=>k=w.heap.size) (p:=⟨w.heap.size,1,none⟩) (Keep.refl _ _) (.inl rfl) _) (.inl rfl) _) (λk hk=>HM.out.1.ne_blk HM.out.2.2 (by decide) hk)
 obtain⟨ov',mv',c3,hk,hO,hM⟩:=hcut
 rename World=>wx
 obtain⟨c,hout,hcs⟩:=HC.out.out;have a0:=hk.blk hout (by omega);have i3:=c3.lt;have i4:=a0.lt;obtain⟨-,b0,b1,b2⟩:=gR c3;have b3:∀i,i<3->∃u,wx.cell? ⟨w.heap.size+1,i,none⟩=some u:=λi hi=>by rw[a0.cell];exact⟨_,yA (by omega)⟩
 obtain⟨v0,q0⟩:=b3 0 (by omega);obtain⟨v1,q1⟩:=b3 1 (by omega);obtain⟨v2,q2⟩:=b3 2 (by omega);have g0:=a0.frozen 0;have g1:=a0.frozen 1;have g2:=a0.frozen 2;have i5:=hO.one;have i6:=hM.one;obtain⟨oa,oc,rfl,-⟩:=hO.row;obtain⟨ma,mc,rfl,-⟩:=hM.row;have HE:=qM hk hO hM a0 c3;clear hout a0 hk hO hM b3 c3;go_wp2_with fail;refine xD (v:=.agg #[.slice ga S.ins.length gc,.slice oa S.op.length oc,.slice ma S.made.length mc]) (by unfold results;simp only[results106];go_simp) rfl ?_;have c3:=HE.out.2.2.2.2;obtain⟨is,hO,hil,hrec,hdis⟩:=HC.out.rows;have b7:=b9.size;have c6:Keep (λk=>k=w.heap.size+1) wx (((wx.setCell ⟨w.heap.size+1,0,none⟩ (.slice ga S.ins.length gc)).setCell ⟨w.heap.size+1,1,none⟩ (.slice oa (S.op.map PDesc.cells).length oc)).setCell ⟨w.heap.size+1,2,none⟩ (.slice ma (S.made.map aJ).length mc)):=
  Keep.setCell (S:=λk=>k=w.heap.size+1) (p:=⟨w.heap.size+1,2,none⟩) (Keep.setCell (S:=λk=>k=w.heap.size+1) (p:=⟨w.heap.size+1,1,none⟩) (Keep.setCell (S:=λk=>k=w.heap.size+1) (p:=⟨w.heap.size+1,0,none⟩) (Keep.refl _ _) (.inl rfl) _) (.inl rfl) _) (.inl rfl) _
 have b8:Keep (λk=>k=w.heap.size\/k=w.heap.size+1) wr (((wx.setCell ⟨w.heap.size+1,0,none⟩ (.slice ga S.ins.length gc)).setCell ⟨w.heap.size+1,1,none⟩ (.slice oa (S.op.map PDesc.cells).length oc)).setCell ⟨w.heap.size+1,2,none⟩ (.slice ma (S.made.map aJ).length mc)):=
  (HE.out.1.mono (λi _ h=>.inl h)).trans (c6.mono (λi _ h=>.inr h)) (λi _ h=>h)
 have c4:=HE.out.2.2.2.1;obtain⟨c',hout',_⟩:=HC.out.out;simp only[lM]at c6 b8;refine⟨_,_,_,rfl,b9.trans (b8.below b7 (λi hi h=>by omega)),?_,?_,is,?_,hil,?_,λp j r r' hpj hp hj=>hdis p j r r' hpj ?_ ?_ hp hj⟩
 .have:=(HE.out.2.1.keep c6 (λk hk=>HE.out.2.1.ne_blk c4 (by decide) hk)).mono b7;rw[lM]at this;exact this
 .have:=(HE.out.2.2.1.keep c6 (λk hk=>HE.out.2.2.1.ne_blk c4 (by decide) hk)).mono b7;rw[lM]at this;exact this
 .exact hO.keep b8 (λk hk h=>by rcases h with h|h<;>first|exact hO.ne_blk HC.out.box (by decide) hk h|exact hO.ne_blk hout' (by decide) hk h)
 .intro j r x hr hx;obtain⟨hjl,_⟩:=gI.1 hx;obtain⟨a1,a2,a3,a4,_⟩:=hrec j r x hr hx;have a4:=a4 (by have:=HQ.out;omega);exact⟨a1,a2,a3,a4.keep b8 (λk hk h=>by rcases h with h|h<;>first|exact a4.ne_blk HC.out.box (by decide) hk h|exact a4.ne_blk hout' (by decide) hk h)⟩
 .obtain⟨h,_⟩:=gI.1 hp;have:=HQ.out;omega
 obtain⟨h,_⟩:=gI.1 hj;have:=HQ.out;omega
def aXE (c:Int):List PanicEntry:=[{ v:=.iface 132 (.agg #[c]),recovered:=false}]
abbrev bR (c:Int):Ending:=.panicked (aXE c)
theorem aG (c:Int) (w:World):
 vR w 172 #[.bool false,.int .i64 c] (.tuple #[]):=by
 unfold vR;go_in;go_wp2;exact xE (v:=.tuple #[]) (by simp[results,go_sem]) rfl ⟨rfl,bel _ _⟩
theorem aP (c:Int) (w:World):
 Calls prog 172 #[true,c] w λe w'=>e=bR c/\Bl w w':=by
 go_in;go_wp2_with fail;exact⟨rfl,rfl,Below.refl _ _⟩
theorem aAQ {w:World} {B n k:Nat} {e:TypeId} {v:Value} {xs:List Value} (h:w.ownsRow B e k v n xs):v.oneCell'=true:=by
 obtain⟨_,⟨rfl,_⟩|⟨g,cap,cur,rfl,_⟩⟩:=h<;>rfl
def aIB (w:World) (s:ByteArray) (e:Ending) (w':World):Prop:=
 ((aA s).1=0/\∃v,e=.returned v/\Bl w w'/\RowAt w' 1 v ((aA s).2.map λn=>[.string n]))\/((aA s).1≠0/\e=bR (eE (aA s).1)/\Bl w w')
theorem sX {α β:Type} (f:α->β):∀ns:List α,(ns.map λn=>[f n]).flatten=ns.map f
 |[]=>rfl
 |n::ns=>by simp[sX f ns]
theorem aAR (s:ByteArray) (w:World):Calls prog 198 #[s] w (aIB w s):=by
 have hp:=xV s w;unfold aIB;generalize aA s=F at hp |-;obtain⟨c,ns⟩:=F;by_cases h:c=0
 .subst h;have hc:∀ww,Calls prog 190 #[.int .i64 0] ww _:=λww=>vQ 0 ww
  go_in;go_wp2_with(first|(go_at_call 153;refine hp.mono ?_;rintro e w1 ⟨v,rfl,hb,hown,hbl⟩;have a0:=aAQ hown;have iB:Bel w w1:=⟨hb⟩;have HO:=bJ hown hb;clear hown hb hbl)|(go_at_call 190;refine aE (hc _) λp=>?_)|(go_at_call 172;refine aE (aG _ _) λp=>?_));go_ret;refine .inl ⟨by simp,_,rfl,bel _ _,?_⟩;have:=(OwnP.of_own (rows:=ns.map λn=>[.string n]) (by rw[lM,sX];exact HO.out.1) (by decide) (by intro cs h;obtain⟨x,_,rfl⟩:=mem_map.1 h;rfl)).row;exact this.below (bel w1 _) (zC _)
 have hc:∀ww,Calls prog 190 #[c] ww _:=λww=>vQ c ww;have a1:(c !=0)=true:=by simpa using h
 generalize hcm:eE c=cm at hc;go_in;go_wp2_with(first|(go_at_call 153;refine hp.mono ?_;rintro e w1 ⟨v,rfl,hb,hown,hbl⟩;have a0:=aAQ hown;have iB:Bel w w1:=⟨hb⟩;clear hown hb hbl)|(go_at_call 190;refine aE (hc _) λp=>?_)|(go_at_call 172;refine aE (aP _ _) λp=>?_));exact⟨rfl,.inr ⟨h,rfl,bel _ _⟩⟩
def aL (S:PSt):Nat->List ByteArray->Nat × Int
 |k,[]=>(k,0)
 | k,n::r=>match S.ins[k]? with
   |some x=>if x.dir=true then(if bT x.ents n=true then(match x.ents[cZ x.ents n]? with|some e=>aL S (aK S.nums e.num).toNat r|none=>(0,1))else(0,1))else(0,7)
   |none=>(0,7)
theorem vY (b:Nat) (S:PSt) (ns:List ByteArray) (v:Value) (w:World) (h:SP w b S) (hwf:S.wf) (hpos:0<S.ins.length) (hfind:∀x∈S.ins,∀e∈x.ents,0<=aK S.nums e.num) (hv:RowAt w 1 v (ns.map λn=>[.string n])) (hlen:ns.length<=1000000000):
 vR w 191 #[.pointer b,v] (.tuple #[.int .i64 (aL S 0 ns).1,.int .i64 (aL S 0 ns).2]):=by
 have hf:∀ww,Bl w ww->∀n,vR ww 102 #[.pointer b,.int .i64 n] (.int .i64 (aK S.nums n)):=
  λww hb n=>jU b S n ww (h.below hb (zC _)) hwf
 obtain⟨hl,iv,ov,mv,c0,c1,c2,hr⟩:=h;have ib:BlockLt b w:=⟨hl⟩;have a7:=hwf.1;have a8:=aC hwf.2.2.2.1;obtain⟨ai,capi,rfl,hati⟩:=hr.ins_at2;obtain⟨an,capn,rfl,hatn⟩:=hv.at_;rw[lM];have HI:=aC hati;have HN:=aC hatn;have HF:=aC hfind;clear hr hwf hati hatn hv c1 c2 hfind;obtain⟨RK,RC,hR⟩:∃RK RC,aL S 0 ns=(RK,RC):=⟨_,_,rfl⟩;rw[hR];have HR:=aC hR;clear hR;unfold vR;go_in;go_wp2
 go_loopw[6,13] (λat_ i wr=>∃(q k:Nat),at_=.int .i64 k/\i=.int .i64 q/\q<=ns.length/\k<S.ins.length/\aL S k (ns.drop q)=(RK,RC)/\Bl w wr) (λ_ i _=>(ns.length-intOf i).toNat)
 case atStart=>exact⟨0,0,rfl,rfl,by omega,hpos,HR.out,bel _ _⟩
 obtain⟨q,k,rfl,rfl,hq,hk,a0,hb⟩:=hrel;have iB:Bel w wr:=⟨hb⟩;have iL:BlockLt b wr:=⟨by have:=hb.size;have:=ib.lt;omega⟩;have b4:wr.cell? b=some (.slice ai S.ins.length capi):=(hb.cell (p:=b) ib.lt).trans c0;by_cases hlt:q<ns.length
 .obtain⟨n,hn⟩:=gAA hlt
  obtain⟨x,hx⟩:=gAA hk;rw[cQ hn]at a0;unfold aL at a0;rw[hx]at a0;simp only at a0;obtain⟨bn,offn,rfl,iN0,iN,hcn⟩:=HN.out wr hb q [.string n] (by rw[gM,hn];rfl);have n0:=hcn 0 _ rfl;rw[Nat.mul_one,zN]at n0;obtain⟨bi,offi,ev,rfl,iG0,ho1,hev,hcl⟩:=HI.out k x hx;obtain⟨iG,y0,y1,y2,y3⟩:=hcl wr hb;have a9:=(a8.out x (mG hx)).2.1;have a3:=HF.out x (mG hx);have a1:∀ww,Bl w ww->Calls prog 171 #[ev,n] ww _:=λww hww=>oS x.ents ev n ww (hev.below hww (zC _)) a9;obtain⟨ae,ce,rfl,hat⟩:=hev.at_;rw[lM]at y2 a1;have b5:(q:Int)<ns.length:=by omega
  have b6:(k:Int)<S.ins.length:=by omega
  have HX:=eH hx a3 hat;clear hn hx hcn hcl hev a3 hat;generalize hdir:x.dir=d at y1 a0;rcases d with _|_
  .simp only[zP,if_false,Prod.mk.injEq]at a0;obtain⟨rfl,rfl⟩:=a0;go_wp2
   go_ret2;exact gAC
  simp only[if_true]at a0;generalize hhit:bT x.ents n=hi at a0 a1;have a2:hi=true->cZ x.ents n<x.ents.length:=by intro h;rw[h]at hhit;unfold bT at hhit;simp only[zE,zI]at hhit;exact hhit.1
  generalize cZ x.ents n=j at a0 a1 a2;clear hhit hdir;rcases hi with _|_
  .simp only[zP,if_false,Prod.mk.injEq]at a0;obtain⟨rfl,rfl⟩:=a0;go_wp2_with((go_at_call 171;refine aE (a1 _ (bel _ _)) λp=>?_))
   go_ret2;exact gAC
  simp only[if_true]at a0;have b0:=a2 rfl;obtain⟨e,he⟩:=gAA b0;rw[he]at a0;simp only at a0;obtain⟨be,offe,rfl,iE0,iE,hce⟩:=HX.out.2.2 wr hb j e.cells (by rw[gM,he];rfl);have e1:=hce 1 _ rfl;have a4:∀ww,Bl w ww->Calls prog 102 #[.pointer b,e.num] ww _:=λww hww=>hf ww hww e.num;have a5:=HX.out.2.1 e (mG he);have a6:=cX S.nums e.num;have b1:S.nums.length=S.ins.length:=by unfold PSt.nums;rw[lM]
  generalize aK S.nums e.num=fv at a4 a5 a6 a0;obtain⟨f,rfl⟩:∃f:Nat,fv=f:=⟨fv.toNat,by omega⟩;rw[zJ]at a0;have b2:f<S.ins.length:=by omega
  have b7:(j:Int)<x.ents.length:=by omega
  have b3:=aC a0;clear a0 hce he a2 a5 a6 b1;go_wp2_with(first|(go_at_call 171;refine aE (a1 _ (bel _ _)) λp=>?_)|(go_at_call 102;refine aE (a4 _ (bel _ _)) λp=>?_));go_roundw
  case rel=>exact⟨q+1,f,rfl,by go_num,by omega,b2,b3.out,bel _ _⟩
  simp[intOf];omega
 rw[zS (by omega)]at a0;have a0:(k,(0:Int))=(RK,RC):=a0;simp only[Prod.mk.injEq]at a0;obtain⟨rfl,rfl⟩:=a0;go_wp2
 go_ret2;exact gAC
def tE (x n:Int):Int:=wrap64 (x-n)
theorem aQW (x n:Int) (d:Bool) (ev:Value) (s:ByteArray) (hev:ev.oneCell'=true) (w:World):
 vR w 176 #[.agg #[x,d,ev,s],.int .i64 n] (.int .i64 (tE x n)):=by
 unfold tE;unfold vR;go_in;go_wp2;go_ret;exact⟨by first|rfl|simp,bel _ _⟩
def qX (is:List IRec) (n:Int) (q:Nat):Int:=match is[q]? with|some x=>tE x.num n|none=>0
def bsD (is:List IRec) (n:Int):Nat:=dO (qX is n) is.length 0 is.length
def aDS (is:List IRec) (n:Int):Bool:=decide (bsD is n<is.length)&&(qX is n (bsD is n)==0)
def wJ (ns:List Int) (n:Int) (q:Nat):Int:=match ns[q]? with|some x=>tE x n|none=>0
def lQ (ns:List Int) (n:Int):Nat:=dO (wJ ns n) ns.length 0 ns.length
theorem aVE (is:List IRec) (n:Int):bsD is n=lQ (is.map IRec.num) n:=by
 have hc:qX is n=wJ (is.map IRec.num) n:=by
  funext q;unfold qX wJ;rw[gM];cases is[q]? <;>rfl
 unfold bsD lQ;rw[hc,lM]
theorem aXX (is:List IRec) (v:Value) (n:Int) (w:World) (h:RowAt w 4 v (is.map IRec.cells)) (hlen:is.length<=1000000000):
 vR w 134 #[v,.int .i64 n,.func (.func 176) #[] #[]] (.tuple #[.int .i64 (bsD is n),.bool (aDS is n)]):=by
 obtain⟨a,cap,rfl,_,hrow⟩:=h;rw[lM]at hrow |-;have cell:∀(wr:World),Bl w wr->∀(q:Nat),q<is.length->∃(b off:Nat) (x:IRec),a=some ⟨b,off,none⟩/\BlockLt b wr/\is[q]? =some x/\qX is n q=tE x.num n/\wr.cell? ⟨b,off+q*4,none⟩=some (.int .i64 x.num)/\wr.cell? ⟨b,off+q*4+1,none⟩=some (.bool x.dir)/\wr.cell? ⟨b,off+q*4+2,none⟩=some x.ev/\wr.cell? ⟨b,off+q*4+3,none⟩=some (.string x.data):=by
  intro wr hb q hq;obtain⟨b,off,rfl,hlt,hc⟩:=hrow (by omega);obtain⟨x,hx⟩:=gAA hq;have hm:(is.map IRec.cells)[q]? =some x.cells:=by rw[gM,hx];rfl
  have hs:=hb.size;have key:∀(t:Nat) (u:Value),x.cells[t]? =some u->wr.cell? ⟨b,off+q*4+t,none⟩=some u:=λt u hu=>(hb.cell (p:=⟨b,_,none⟩) hlt).trans (hc q _ hm t u hu);exact⟨b,off,x,rfl,⟨by omega⟩,hx,by unfold qX;rw[hx],key 0 _ rfl,key 1 _ rfl,key 2 _ rfl,key 3 _ rfl⟩
 have HC:=aC cell;clear cell hrow;obtain⟨P,hP⟩:=gAB (bsD is n);obtain⟨T,hT⟩:=gAB (aDS is n);rw[hP,hT];have HP:=bJ hP hT;clear hP hT;unfold vR;go_in;go_wp2
 go_loopw[9,10] (λi j wr=>∃(lo hi b:Nat),i=.int .i64 lo/\j=.int .i64 hi/\lo<=hi/\hi<=is.length/\hi<=lo+b/\dO (qX is n) b lo hi=P/\Bl w wr) (λi j _=>(intOf j-intOf i).toNat)
 case atStart=>exact⟨0,is.length,is.length,rfl,rfl,by omega,by omega,by omega,HP.out.1,bel _ _⟩
 obtain⟨lo,hi,b,rfl,rfl,hlh,hhn,hfu,hbs,hb⟩:=hrel;have iB:Bel w wr:=⟨hb⟩;by_cases hlt:lo<hi
 .obtain⟨b',rfl⟩:∃b',b=b'+1:=⟨b-1,by omega⟩
  obtain⟨m,hm⟩:=gAB ((lo+hi)/2);obtain⟨b0,off,x,rfl,iG,hx,hcm,c0,c1,c2,c3⟩:=HC.out wr hb m (by omega);have a1:=x.one;rw[dO,zB hlt,hm,hcm]at hbs;have HS:=aC hbs;clear hbs hcm;have a6:((lo:Int)+hi)/2=m:=by omega
  have a7:m<is.length:=by omega
  have a4:(m:Int)<is.length:=by omega
  have a0:∀ww,vR ww 176 #[.agg #[x.num,x.dir,x.ev,x.data],.int .i64 n] (.int .i64 (tE x.num n)):=λww=>aQW x.num n x.dir x.ev x.data a1 ww;have HM:=aC hm;clear hm;by_cases hneg:tE x.num n<0
  .generalize hcv:tE x.num n=cv at a0 hneg;go_wp2_with(go_at_call 176;refine aE (a0 _) λp=>?_)
   go_roundw
   case rel=>exact⟨m+1,hi,b',by go_num,rfl,by have:=HM.out;omega,by omega,by have:=HM.out;omega,by have:=HS.out;rw[hcv,zB hneg]at this;exact this,bel _ _⟩
   have:=HM.out;simp[intOf];omega
  generalize hcv:tE x.num n=cv at a0 hneg;go_wp2_with(go_at_call 176;refine aE (a0 _) λp=>?_);go_roundw
  case rel=>exact⟨lo,m,b',rfl,rfl,by have:=HM.out;omega,by omega,by have:=HM.out;omega,by have:=HS.out;rw[hcv,zA (by omega)]at this;exact this,bel _ _⟩
  have:=HM.out;simp[intOf];omega
 obtain rfl:lo=hi:=by omega
 rw[rB _ _ _ _ hlt]at hbs;have a5:P=lo:=hbs.symm;subst a5;by_cases hln:P<is.length
 .obtain⟨b0,off,x,rfl,iG,hx,hcm,c0,c1,c2,c3⟩:=HC.out wr hb P hln;have a1:=x.one;have a3:(P:Int)<is.length:=by omega
  have a0:∀ww,vR ww 176 #[.agg #[x.num,x.dir,x.ev,x.data],.int .i64 n] (.int .i64 (tE x.num n)):=λww=>aQW x.num n x.dir x.ev x.data a1 ww;have a2:T=(tE x.num n==0):=by have h1:=HP.out.2;have h2:=HP.out.1;rw[<-h1];unfold aDS;rw[h2,hcm];simp[hln]
  clear hcm;generalize tE x.num n=cv at a0 a2;subst a2;go_wp2_with(go_at_call 176;refine aE (a0 _) λp=>?_)
  go_ret2;refine⟨rfl,bel _ _⟩
 have a3:¬(P:Int)<is.length:=by omega
 have a2:T=false:=by have h1:=HP.out.2;have h2:=HP.out.1;rw[<-h1];unfold aDS;rw[h2];simp[hln]
 subst a2;go_wp2
 go_ret2;refine⟨rfl,bel _ _⟩
section
def cW (n:Int) (x:PIn):List PEnt->Nat
 |[]=>0
 |e::r=>(if (x.dir&&(e.num==n))=true then 1 else 0)+cW n x r
def dB (n:Int):List PIn->Nat
 |[]=>0
 |x::r=>cW n x x.ents+dB n r
def dR (S:PSt) (n:Int):Nat:=dB n S.ins
theorem aHV (n:Int) (x:PIn):∀es,cW n x es<=es.length
 |[]=>zC _
 | e::r=>by
   have:=aHV n x r;unfold cW;split<;>simp<;>omega
theorem aHW (n:Int):∀xs:List PIn,(∀x∈xs,x.ents.length<=1000000000)->dB n xs<=xs.length*1000000000
 |[],_=>zC _
 | x::r,h=>by have h1:=aHW n r (λy hy=>h y (zL _ hy));have h2:=aHV n x x.ents;have h3:=h x zQ;unfold dB;simp only[zK];omega
theorem aQJ {S:PSt} (h:S.wf) (n:Int):dR S n<=1000000000000000000:=by have h1:=aHW n S.ins (λx hx=>(h.2.2.2.1 x hx).2.1);have h2:=h.1;have h3:S.ins.length*1000000000<=1000000000*1000000000:=Nat.mul_le_mul_right _ h2;unfold dR;omega
variable {n:Int} {q:Nat} {z:PIn}
theorem aKX {xs:List PIn} (h:xs[q]? =some z):dB n (xs.drop q)=cW n z z.ents+dB n (xs.drop (q+1)):=by rw[cQ h];rfl
theorem aKY {x:PIn} {es:List PEnt} {z:PEnt} (h:es[q]? =some z):cW n x (es.drop q)=(if (x.dir&&(z.num==n))=true then 1 else 0)+cW n x (es.drop (q+1)):=by rw[cQ h];rfl
theorem aMV (iv ov mv:Value) (S:PSt) (n:Int) (w:World) (h:StRead w iv ov mv S) (hwf:S.wf):
 vR w 181 #[.agg #[iv,ov,mv],.int .i64 n] (.int .i64 (dR S n)):=by
 have a5:=h.1.one;have a6:=h.2.1.one;obtain⟨ai,capi,rfl,hati⟩:=h.ins_at2;have HI:=aC hati;have a3:=aQJ hwf n;have a4:=hwf.1;unfold dR at *;obtain⟨N,hN⟩:=gAB (dB n S.ins);rw[hN]at a3 |-;have HN:=aC hN;have HW:=aC hwf.2.2.2.1;clear h hati hN hwf;unfold vR;go_in;go_wp2
 go_loopw[5,13] (λvn vi wr=>∃(q a:Nat),vi=.int .i64 q/\vn=.int .i64 a/\q<=S.ins.length/\a+dB n (S.ins.drop q)=N/\Bl w wr) (λ_ vi _=>(S.ins.length-intOf vi).toNat)
 case atStart=>exact⟨0,0,rfl,rfl,by omega,by simpa using HN.out,bel _ _⟩
 obtain⟨q,a,rfl,rfl,hq,hre,hb⟩:=hrel
 rename World=>wo
 have iB:Bel w wo:=⟨hb⟩;by_cases hlt:q<S.ins.length
 .obtain⟨z,hz⟩:=gAA hlt
  rw[aKX hz]at hre;obtain⟨bi,off,ev1,rfl,iG0,ho1,hev,hcl⟩:=HI.out q z hz;obtain⟨iGr,y0,y1,y2,y3⟩:=hcl wo hb;obtain⟨ae,ce,rfl,hat⟩:=hev.at_;rw[lM]at y2;have HE:=aC hat;have a7:=(HW.out z (mG hz)).2.1;have HR:=aC hre;clear hat hev hz hre hcl;go_wp2
  go_loopw[5,20] (λvn vi w2=>∃(k a2:Nat),vi=.int .i64 k/\vn=.int .i64 a2/\k<=z.ents.length/\a2+cW n z (z.ents.drop k)=a+cW n z z.ents/\Bl wo w2/\Blk w2 wo.heap.size #[z.num,z.dir,.slice ae z.ents.length ce,z.data] 68) (λ_ vi _=>(z.ents.length-intOf vi).toNat)
  case atStart=>exact⟨0,a,rfl,rfl,by omega,rfl,bel _ _,Blk.new _ _ _⟩
  obtain⟨k,a2,rfl,rfl,hk,hre2,hb2,hblk⟩:=hrel;have a1:Bel w wr:=⟨hb.trans (hb2.mono hb.size)⟩;have a8:Bel wo wr:=⟨hb2⟩;have z0:=hblk.cell 1;have iK:=hblk.lt;have HK:=aC hblk;by_cases hlk:k<z.ents.length
  .obtain⟨e,he⟩:=gAA hlk
   rw[aKY he]at hre2;obtain⟨be,offe,rfl,iE0,iE,hce⟩:=HE.out wr a1.below k e.cells (by rw[gM,he];rfl);have e0:=hce 0 _ rfl;have e1:=hce 1 _ rfl;rw[zN]at e0;have a9:a2+1<=1000000000000000001:=by have:=HR.out;omega
   have ew:wrap64 ((a2:Int)+1)=(a2:Int)+1:=by simp only[wrap64];omega
   generalize hd:z.dir=dd at *;generalize hg:(e.num==n)=gg at hre2;have a0:=aC hre2;clear hre2 hce he hblk;rcases dd with _|_<;>rcases gg with _|_
   .go_wp2
    go_roundw
    case rel=>exact⟨k+1,a2,by go_num,rfl,by omega,by have:=a0.out;simpa using this,bel _ _,(HK.out.alloc _)⟩
    simp[intOf];omega
   .go_wp2
    go_roundw
    case rel=>exact⟨k+1,a2,by go_num,rfl,by omega,by have:=a0.out;simpa using this,bel _ _,(HK.out.alloc _)⟩
    simp[intOf];omega
   .go_wp2
    go_roundw
    case rel=>exact⟨k+1,a2,by go_num,rfl,by omega,by have:=a0.out;simpa using this,bel _ _,(HK.out.alloc _)⟩
    simp[intOf];omega
   go_wp2;go_roundw
   case rel=>exact⟨k+1,a2+1,by go_num,by go_num,by omega,by have:=a0.out;simp at this;omega,bel _ _,(HK.out.alloc _)⟩
   simp[intOf];omega
  rw[zS (by omega)]at hre2;clear hblk;go_wp2;go_roundw
  case rel=>exact⟨q+1,a2,by go_num,rfl,by omega,by have:=HR.out;have e:a2+cW n z []=_:=hre2;simp only[cW]at e;omega,a1.below⟩
  simp[intOf];omega
 rw[zS (by omega)]at hre;have e:a=N:=by simpa[dB]using hre
 clear hre;subst e;go_wp2;go_ret;exact gAC
end
def nL (n:Int) (x:PIn):Bool:=x.num==n
end Go.Proofs.YtmkapobnfigedaaGreatDoor
