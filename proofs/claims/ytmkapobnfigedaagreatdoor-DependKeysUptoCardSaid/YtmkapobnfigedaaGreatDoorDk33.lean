/- A part of a proof of a law. Conditions: none. -/
import Derived.Test.YtmkapobnfigedaaGreatDoorDk32
import Derived.Test.YtmkapobnfigedaaGreatDoorDk29
set_option linter.unusedVariables false
set_option linter.unusedSimpArgs false
set_option maxRecDepth 100000
set_option maxHeartbeats 40000000
namespace Go.Proofs.YtmkapobnfigedaaGreatDoor
open Go.Proofs.Tryz List Go.RowKit
section
theorem wM:∀(r:List PKey) (p z:PKey),z∈r->z=p\/z∈gA p r
 | y ::r,p,z,h=>by
   unfold gA;rcases mem_cons.1 h with rfl|h
   .split
    .rename_i e
     exact .inl e
    exact .inr (by first|exact zQ|simp)
   rcases wM r y z h with rfl|h
   .split
    .rename_i e
     exact .inl e
    exact .inr (by first|exact zQ|simp)
   split
   .rename_i e
    subst e;exact .inr (by first|exact h|simpa using h)
   exact .inr (by first|exact zL _ h|simp[h])
theorem aIO {l:List PKey} {z:PKey} (h:z∈l):z∈cE l:=by
 cases l with
 |nil=>cases h
 | cons x r=>
   unfold cE;rcases mem_cons.1 h with rfl|h
   .exact zQ
   rcases wM r x z h with rfl|h
   .exact zQ
   exact zL _ h
variable {S:PSt} {c:PCall}
theorem aNQ (h:(lX S c).2.code≠0):jL S c=[]:=by
 unfold jL mN;split
 .exact tK h
 rfl
theorem aIP (h:c.kind=4\/c.kind=7\/c.kind=12\/c.kind=13\/c.kind=14\/c.kind=15\/c.kind=16):jL S c=[]:=by
 unfold jL mN;split
 .have:cH S (lX S c).1 c=none:=by
   unfold cH;rw[zA (by omega),zA (by omega),zA (by omega),zA (by omega),zA (by omega),zA (by omega),zA (by omega)];rfl
  rw[this];exact nI _
 rfl
theorem aFV (h:c.kind=5) (h2:c.data.size=0):jL S c=[]:=by
 unfold jL mN;split
 .have:cH S (lX S c).1 c=none:=by
   unfold cH;rw[zA (by omega),zA (by omega),zA (by omega),zB h,zB h2];rfl
  rw[this];exact nI _
 rfl
end
section
def dW (ks:List PKey) (k:PKey):List PKey:=if ks.any (λy=>decide (y=k))=true then ks else cQ (λy=>nC k y) k ks false []
theorem uZ {ks:List PKey} {k:PKey}:ks.any (λy=>decide (y=k))=true↔k∈ks:=by
 rw[any_eq_true];constructor
 .rintro⟨y,hy,e⟩;rw[zI]at e;rw[<-e];exact hy
 exact λh=>⟨k,h,decide_eq_true rfl⟩
theorem aRR {ks:List PKey} {k z:PKey}:z∈dW ks k↔z=k\/z∈ks:=by
 unfold dW;split
 .rename_i h
  rw[uZ]at h;constructor
  .exact .inr
  rintro(rfl|h2)
  .exact h
  exact h2
 rw[qB,dY]
theorem aVJ {ks:List PKey} {k:PKey} (h:ks.Pairwise λx y=>nC x y=true):(dW ks k).Pairwise λx y=>nC x y=true:=by
 unfold dW;split
 .exact h
 rename_i hn;rw[uZ]at hn;rw[qB];refine aIR h (λi a hi ha=>?_) (λi a hi ha=>?_)
 .obtain⟨hl,rfl⟩:=gI.1 ha;have h1:=not_of_lt_findIdx hi;rcases jT ks[i] k with h2|h2|h2
  .exact h2
  .exact absurd (h2 ▸ getElem_mem hl) hn
  rw[h2]at h1;cases h1
 obtain⟨hl,rfl⟩:=gI.1 ha;have h0:ks.findIdx (λy=>nC k y)<ks.length:=by omega
 have h1:nC k ks[ks.findIdx (λy=>nC k y)]=true:=findIdx_getElem (w:=h0);by_cases e:ks.findIdx (λy=>nC k y)=i
 .subst e;exact h1
 exact fX h1 (pairwise_iff_getElem.1 h _ _ h0 hl (by omega))
theorem aFJ:∀(l ks:List PKey) (z:PKey),z∈l.foldl dW ks↔z∈ks\/z∈l
 |[],ks,z=>by simp
 | k ::r,ks,z=>by
   rw[foldl_cons,aFJ r,aRR,mem_cons];constructor
   .rintro((h|h)|h)
    .exact .inr (.inl h)
    .exact .inl h
    exact .inr (.inr h)
   rintro(h|h|h)
   .exact .inl (.inr h)
   .exact .inl (.inl h)
   exact .inr h
theorem aKV:∀(l ks:List PKey),ks.Pairwise (λx y=>nC x y=true)->(l.foldl dW ks).Pairwise λx y=>nC x y=true
 |[],ks,h=>h
 | k::r,ks,h=>by rw[foldl_cons];exact aKV r _ (aVJ h)
theorem tH:∀(r:List PKey) (p z:PKey),z∈gA p r->z∈r
 |[],p,z,h=>by cases h
 | y ::r,p,z,h=>by
   unfold gA at h;split at h
   .exact zL _ (tH r p z h)
   rcases mem_cons.1 h with rfl|h
   .exact zQ
   exact zL _ (tH r y z h)
theorem aNI {l:List PKey} {z:PKey} (h:z∈cE l):z∈l:=by
 cases l with
 |nil=>cases h
 | cons x r=>
   unfold cE at h;rcases mem_cons.1 h with rfl|h
   .exact zQ
   exact zL _ (tH r x z h)
theorem aRS {x y:PKey} (h:uY x y=true) (hn:y≠x):nC x y=true:=by
 unfold uY at h;rw[yL]at h;rcases jT x y with h1|h1|h1
 .exact h1
 .exact absurd h1.symm hn
 rw[h1]at h;cases h
theorem tI:∀(r:List PKey) (p:PKey),(p::r).Pairwise (λx y=>uY x y=true)->(gA p r).Pairwise (λx y=>nC x y=true)/\∀z∈gA p r,nC p z=true
 |[],p,_=>⟨List.Pairwise.nil,λz h=>by cases h⟩
 | y ::r,p,h=>by
   have h0:=h;rw[pairwise_cons,pairwise_cons]at h;obtain⟨hp,hy,hr⟩:=h;unfold gA;split
   .exact tI r p (pairwise_cons.2 ⟨λz hz=>hp z (zL _ hz),hr⟩)
   rename_i hn;obtain⟨a1,a2⟩:=tI r y (pairwise_cons.2 ⟨hy,hr⟩);have a0:=aRS (hp y zQ) hn;refine⟨pairwise_cons.2 ⟨a2,a1⟩,λz hz=>?_⟩;rcases mem_cons.1 hz with rfl|hz
   .exact a0
   exact fX a0 (a2 z hz)
theorem aNJ {l:List PKey} (h:l.Pairwise λx y=>uY x y=true):(cE l).Pairwise λx y=>nC x y=true:=by
 cases l with
 |nil=>exact List.Pairwise.nil
 | cons x r=>obtain⟨a1,a2⟩:=tI r x h;unfold cE;exact pairwise_cons.2 ⟨a2,a1⟩
theorem aFK {a b:List PKey} (ha:a.Pairwise λx y=>nC x y=true) (hb:b.Pairwise λx y=>nC x y=true) (h:∀z,z∈a↔z∈b):a=b:=by
 have key:∀l:List PKey,l.Pairwise (λx y=>nC x y=true)->l.Pairwise (λx y=>uY x y=true)/\l.Nodup:=λl hl=>by
  refine⟨hl.imp fun{x y} hxy=>?_,hl.imp fun{x y} hxy e=>?_⟩
  .unfold uY;rcases hyx:nC y x with _|_
   .rfl
   have:=fX hxy hyx;rw[kH]at this;cases this
  rw[e,kH]at hxy;cases hxy
 obtain⟨a1,a2⟩:=key a ha;obtain⟨b1,b2⟩:=key b hb;exact oQ a b a1 b1 ((perm_ext_iff_of_nodup a2 b2).2 h)
def nO (S:PSt) (p:ByteArray):List PKey:=if(aA p).1≠0\/(aA p).2=[]then[]else
 (aP S (aA p).2.dropLast 1 []).2.2.map (λd=>(⟨d,⟨#[46]⟩⟩:PKey))++if(aP S (aA p).2.dropLast 1 []).2.1=0 then[⟨(aP S (aA p).2.dropLast 1 []).1,⟨#[46]⟩⟩]else[]
def wE (S:PSt) (p:ByteArray):PKey:=⟨(bL S p).1,cG (bL S p).2.1⟩
def fS (S:PSt) (c:PCall):Bool:=if(lX S c).2.code≠0\/cS S=false then false else
 if c.kind=0\/c.kind=1\/c.kind=2\/c.kind=3\/c.kind=6\/c.kind=8\/c.kind=9\/c.kind=10\/c.kind=11 then true else if c.kind=5 then !decide (c.data=⟨#[]⟩)else false
def aFL (S:PSt) (c:PCall):Int:=if c.kind=0\/c.kind=1 then 2+c.core+8*S.made.getD c.core.toNat 0 else(eX S c.path).1
def aAP (S:PSt) (c:PCall):List PKey:=
 if c.kind=5\/c.kind=6\/c.kind=3 then[⟨nR S c.core c.fd,⟨#[]⟩⟩]else
 nO S c.path++((if c.kind=2 then[]else if c.kind=0\/c.kind=1 then[wE S c.path]else if c.kind=8 then nO S c.path2++[wE S c.path2]else if c.kind=11 then nO S c.path2++[wE S c.path,wE S c.path2]else[wE S c.path])++[⟨aFL S c,⟨#[]⟩⟩])
def wG (S:PSt) (c:PCall):List PKey:=if fS S c=true then(aAP S c).foldl dW [⟨-1-c.core,⟨#[]⟩⟩]else[]
theorem mJ (S:PSt):∀(ns:List ByteArray) (a:Int) (th:List Int),(aP S ns a th).1=(aP S ns a []).1/\(aP S ns a th).2.1=(aP S ns a []).2.1/\(aP S ns a th).2.2=th++(aP S ns a []).2.2
 |[],a,th=>⟨rfl,rfl,by simp[aP]⟩
 | n ::r,a,th=>by
   unfold aP;rcases S.ins[(bM S a).toNat]? with _|x
   .exact⟨rfl,rfl,by simp⟩
   simp only;split
   .split
    .exact⟨rfl,rfl,by simp⟩
    obtain⟨h1,h2,h3⟩:=mJ S r (aW S a n) (th++[a]);obtain⟨g1,g2,g3⟩:=mJ S r (aW S a n) ([]++[a]);rw[h1,h2,h3,g1,g2,g3];exact⟨rfl,rfl,by simp⟩
   exact⟨rfl,rfl,by simp⟩
theorem wH (S:PSt):∀(ns:List ByteArray) (a:Int),(aP S ns a []).2.1=0->(aP S ns a []).2.2=(List.range ns.length).map (λk=>(aP S (ns.take k) a []).1)/\∀k,(aP S (ns.take k) a []).2.1=0
 |[],a,_=>⟨rfl,λk=>by rw[take_nil];rfl⟩
 | n ::r,a,h=>by
   have hu:=h;unfold aP at hu |-;rcases hx:S.ins[(bM S a).toNat]? with _|x
   .rw[hx]at hu;cases hu
   rw[hx]at hu;simp only at hu |-;by_cases hd:x.dir=true;rotate_left
   .rw[zA hd]at hu;cases hu
   rw[zB hd]at hu |-;by_cases he:aW S a n=0
   .rw[zB he]at hu;cases hu
   rw[zA he]at hu |-;obtain⟨g1,g2,g3⟩:=mJ S r (aW S a n) ([]++[a]);rw[g2]at hu;obtain⟨i1,i2⟩:=wH S r (aW S a n) hu;have hs:∀k,aP S ((n::r).take (k+1)) a []=aP S (r.take k) (aW S a n) ([]++[a]):=λk=>by
    rw[take_succ_cons]
    conv=>lhs;unfold aP
    rw[hx];simp only;rw[zB hd,zA he]
   refine⟨?_,λk=>?_⟩
   .rw[g3,i1,zK,range_succ_eq_map,xB,map_map];show[]++[a]++_=a::_;simp only[nil_append,singleton_append,List.cons.injEq,true_and];apply map_congr_left;intro k _;show _=(aP S ((n::r).take (k+1)) a []).1;rw[hs];exact(mJ S _ _ _).1.symm
   cases k with
   |zero=>rfl
   | succ k=>show(aP S ((n::r).take (k+1)) a []).2.1=0;rw[hs,(mJ S _ _ _).2.1];exact i2 k
section
variable {S:PSt}
theorem MayX.numW (M:MayX S) {ns:List ByteArray} (h:(aK S 0 ns).2=0):gK S (aK S 0 ns).1=(aP S ns 1 []).1:=by obtain⟨h1,h2⟩:=M.walk0 ns;obtain⟨y,_,hy,hn⟩:=h2 h;unfold gK;rw[hy];exact hn
theorem kL (M:MayX S) (hm:cS S=true) {p:ByteArray} (hp:jF p) (hw:(aK S 0 (aA p).2.dropLast).2=0):nO S p=fU S p/\kK S (aA p).2=(aP S (aA p).2.dropLast 1 []).1:=by
 obtain⟨hp0,hne⟩:=hp;have hc:(aP S (aA p).2.dropLast 1 []).2.1=0:=by rw[(M.walk0 _).1];exact hw
 obtain⟨t1,t2⟩:=wH S _ 1 hc;have a1:(aA p).2.length=(aA p).2.dropLast.length+1:=by rw[length_dropLast];have:(aA p).2.length≠0:=λe=>hne (zT e);omega
 have a2:∀k,k<=(aA p).2.dropLast.length->(aA p).2.take k=(aA p).2.dropLast.take k:=λk hk=>by rw[dropLast_eq_take,take_take,Nat.min_eq_left (by rw[length_dropLast]at hk;omega)]
 have a0:∀k,k<=(aA p).2.dropLast.length->(eU S (eB ((aA p).2.take k)).1).1=(aP S ((aA p).2.dropLast.take k) 1 []).1:=λk hk=>by rw[aNM hm hp0,a2 k hk];have hz:=t2 k;rw[(M.walk0 _).1]at hz;rw[zA (by rw[hz];decide),M.numW hz]
 constructor
 .unfold nO fU aBD;rw[zA (λh=>h.elim (λh=>h hp0) (λh=>hne h)),zB hc,t1,a1,range_succ,yS,map_map]
  congr 1
  .apply map_congr_left;intro k hk;rw[a0 k (by have:=mem_range.1 hk;omega)];rfl
  simp only[xB,map_nil];rw[a0 _ (zC _),take_length]
 unfold kK;rw[a0 _ (by rw[length_dropLast];omega)];congr 3;rw[length_dropLast.symm,take_length]
theorem gR {p:ByteArray} {x:Nat × ByteArray} (h:bW S p=.ok x):(aK S 0 (aA p).2.dropLast).2=0/\(aA p).2.getLastD ⟨#[]⟩=x.2/\(aK S 0 (aA p).2.dropLast).1=x.1:=by
 unfold bW at h;split at h
 .cases h
 unfold bB at h;rcases hl:(aA p).2.getLast? with _|l
 .rw[hl]at h;cases h
 rw[hl]at h;simp only at h;by_cases hw:(aK S 0 (aA p).2.dropLast).2=0
 .rw [zA (by simpa using hw)]at h;have hx:x=((aK S 0 (aA p).2.dropLast).1,l):=by
   split at h
   .split at h
    .simp only[Except.ok.injEq]at h;exact h.symm
    cases h
   cases h
  subst hx;exact⟨hw,by rw[getLastD_eq_getLast?,hl];rfl,rfl⟩
 rw[zB hw]at h;cases h
theorem wI (M:MayX S) (hm:cS S=true) {p:ByteArray} {x:Nat × ByteArray} (h:bW S p=.ok x):dD S p=fU S p++[wE S p]:=by
 obtain⟨hw,hl,_⟩:=gR h;have a1:=tB h;have a0:=M.par p;rw[h]at a0;obtain⟨K,l⟩:=x;obtain⟨y,hpr,hy,hat,hd,_⟩:=a0;unfold dD wE;rw[(kL M hm a1 hw).2,hl,hpr];have h2:(aP S (aA p).2.dropLast 1 []).1=y.num:=by
  have h3:bL S p=(y.num,l,0):=hpr;unfold bL at h3;rw[eW]at h3;rw[zA (by simpa using a1.1)]at h3;rcases hg:(aA p).2.getLast? with _|g
  .rw[hg]at h3;simp only[Prod.mk.injEq]at h3;exact absurd h3.2.2 (by decide)
  rw[hg]at h3;simp only at h3;have hc:(aP S (aA p).2.dropLast 1 []).2.1=0:=by rw[(M.walk0 _).1];exact hw
  rw[zA (by simpa using hc)]at h3;split at h3
  .split at h3
   .simp only[Prod.mk.injEq]at h3;exact h3.1
   simp only[Prod.mk.injEq]at h3;exact absurd h3.2.2 (by decide)
  simp only[Prod.mk.injEq]at h3;exact absurd h3.2.2 (by decide)
 rw[h2]
theorem aKW {p:ByteArray} {K:Nat} (h:rD S p=.ok K):(aK S 0 (aA p).2).2=0/\(aK S 0 (aA p).2).1=K/\(aA p).1=0:=by
 unfold rD at h;split at h
 .cases h
 rename_i hp;split at h
 .cases h
 rename_i hw;simp only[Except.ok.injEq]at h;exact⟨Decidable.of_not_not hw,h,Decidable.of_not_not hp⟩
theorem aBQ (M:MayX S) {ns:List ByteArray} (h:(aK S 0 ns).2=0):(aK S 0 ns.dropLast).2=0:=by rw[<-(M.walk0 _).1]at h |-;rw[dropLast_eq_take];exact(wH S ns 1 h).2 _
end
end
theorem cv1 (w:World) (g cap:Nat) (n:Nat) (hn:n<256) (h:w.cell? g=some (.int .u8 (n:Int))):(convert 147 9 (.slice g 1 cap)).run prog w=.ok (.string ⟨#[UInt8.ofNat n]⟩) w:=by
 refine Lib.run_convert_whole (P:=prog) w 147 5 9 underlying147 underlying5 underlying9 g 0 ⟨#[UInt8.ofNat n]⟩ (λi hi=>?_) cap;have a0:i<1:=hi
 have:i=0:=by omega
 subst this;rw[zM,h];congr 2;show(n:Int)=((UInt8.ofNat n).toNat:Int);rw[UInt8.toNat_ofNat_of_lt' (by omega)]
theorem bAP {w:World} {ops:Array Oper} {rest:List Oper} {o:Oper} {a:Act} {Q:Exit->Act->World->Prop} (hgd:o.guard=none) (s y:Operand)
 (hop:o.op=.call { callee:=.builtin .append,args:=#[s,y],argTypes:=#[147,147]}) (B:Nat) (v:Value) (n:Int) (hs:a.eval s=v) (hy:a.eval y=.slice none 0 0) (ho:OwnP B w 5 1 v [[.int .u8 n]]) (hB:B<=w.heap.size)
 (h:∀v' w',Grew B 5 1 w v [[.int .u8 n]] v' w'->wpList prog ops Q rest (a.put o.dst v') w'):
 wpList prog ops Q (o::rest) a w:=by
 obtain⟨i,hi,hz,h1,h2⟩:=info_parts aEI;refine jJ w hgd s y 147 hop B 5 1 1 i _ underlying147 hi hz h1 h2 rfl (by decide) v (.slice none 0 0) [[.int .u8 n]] [] hs hy (by simp) (by simp) (by simp) ho (OwnP.row (B:=0) (e:=5) (.inl ⟨rfl,rfl⟩)) (by unfold maxLen;simp) (by simp) hB (λv' w' hg=>h v' w' (by simpa using hg))
def aWW (v:Value):Nat:=match v with|.slice none _ _=>1|_=>0
theorem aOR (i:Int) (h0:0<=i) (hi:i<8) (w:World):vR w 86 #[.int .i64 i] (.string ⟨#[UInt8.ofNat (48+i.toNat)]⟩):=by
 obtain⟨k,hk⟩:∃k:Nat,48+i.toNat=k:=⟨_,rfl⟩;rw[hk];have h8:(i=0/\(k:Int)=48)\/(i=1/\(k:Int)=49)\/(i=2/\(k:Int)=50)\/(i=3/\(k:Int)=51)\/(i=4/\(k:Int)=52)\/(i=5/\(k:Int)=53)\/(i=6/\(k:Int)=54)\/(i=7/\(k:Int)=55):=by omega
 have a0:k<256:=by omega
 obtain⟨vi,hvi⟩:∃v,v=Value.int .u64 i:=⟨_,rfl⟩;clear h0 hi hk;rcases h8 with⟨rfl,h⟩|⟨rfl,h⟩|⟨rfl,h⟩|⟨rfl,h⟩|⟨rfl,h⟩|⟨rfl,h⟩|⟨rfl,h⟩|⟨rfl,h⟩
 all_goals
  have HK:=eK h hvi a0;clear h hvi a0;unfold vR;go_in;go_wp2
  go_loopw[3,4] (λvn vs wr=>Bl w wr/\((vn=vi/\vs=.slice none 0 0)\/(vn=.int .u64 0/\∃g cap,vs=.slice (some ⟨g,0,none⟩) 1 cap/\wr.cell? ⟨g,0,none⟩=some (.int .u8 (k:Int))/\BlockLt g wr))) (λ_ vs _=>aWW vs)
  case atStart=>exact⟨bel w _,.inl ⟨by rw[HK.out.2.1],rfl⟩⟩
  obtain⟨hb,⟨rfl,rfl⟩|⟨rfl,g,cap,rfl,hc,hg⟩⟩:=hrel
  .obtain rfl:=HK.out.2.1;have iB:Bel w wr:=⟨hb⟩
   have HB:=aC hb;have a1:=hb.size;clear hb;go_wp2_with(at_builtin;refine bAP rfl _ _ rfl w.heap.size (.slice wr.heap.size 1 1) k rfl rfl (.inr ⟨_,1,#[.int .u8 (k:Int)],rfl,a1,by rw[HK.out.1];exact Blk.new _ _ _,zC _,by decide,rfl,jV (r:=[_]) rfl⟩) (by simp;omega) ?_);intro v' w2 hG;obtain⟨ho2,a0,-⟩:=hG;have a2:Bl w w2:=((bel w wr).trans ((bel wr (wr.alloc (.cells _ 5))).mono a1)).trans (a0.below (by simp;omega) (λx hx hg=>by
    have:wr.heap.size=x:=by simpa[Value.ownBlock]using hg
    omega))
   rcases ho2 with⟨-,e⟩|⟨g,cap,arr,he,hg,hbk,hn,hm,hs,hr⟩
   .cases e
   have he:v'=.slice g 1 cap:=he;subst he;have a3:w2.cell? g=some (.int .u8 (k:Int)):=by rw[hbk.cell];exact hr 0 _ rfl 0 _ rfl
   have HX:=eK a2 a3 hbk.lt;clear a2 a3 hbk hr hs a0 hn;go_wp2;go_roundw
   case rel=>exact⟨HX.out.1,.inr ⟨by first|rfl|go_num,g,cap,rfl,HX.out.2.1,HX.out.2.2⟩⟩
   simp[aWW]
  have iB:Bel w wr:=⟨hb⟩;have a4:=cv1 wr g cap k HK.out.2.2 hc;clear hb hc;go_wp2;go_ret;exact⟨rfl,bel _ _⟩
theorem aTE (n:ByteArray):∃i:Nat,aZ n=i/\i<8/\((⟨#[47]⟩:ByteArray)++⟨#[UInt8.ofNat (48+i)]⟩)=cG n:=by have h0:0<=aU n/\aU n<8:=gO n;obtain⟨i,hi⟩:∃i:Nat,aU n=i:=⟨(aU n).toNat,by omega⟩;refine⟨i,by rw[nB];exact hi,by omega,?_⟩;unfold cG;rw[hi,zJ];rfl
theorem aWA (d:Int) (nm:ByteArray) (hn:nm.size<=1000000) (w:World):vR w 47 #[.int .i64 d,.string nm] (.agg #[d,.string (cG nm)]):=by
 have a1:=λww=>sK nm (by omega) ww;obtain⟨i,h1,h2,h3⟩:=aTE nm;have a0:=λww=>aOR i (by omega) (by omega) ww;rw[zJ]at a0;rw[h1]at a1;obtain⟨u,hu⟩:∃u,u=(⟨#[UInt8.ofNat (48+i)]⟩:ByteArray):=⟨_,rfl⟩;rw[<-hu]at a0 h3;have a2:u.size=1:=by rw[hu];rfl
 clear hu;unfold vR;go_in;go_wp2_with(first|(go_at_call 87;refine aE (a1 _) λp=>?_)|(go_at_call 86;refine aE (a0 _) λp=>?_));refine xD (v:=.agg #[d,.string (cG nm)]) (by rw[<-h3];simp[results,Tryz.results47,go_sem]) rfl ⟨rfl,bel _ _⟩
structure TuL (w:World) (iv ov mv:Value) (c:PCall) (b7:Nat) (rc:Array Value) (wr:World):Prop where
 below:Bl w wr
 box:Blk wr w.heap.size #[iv,ov,mv] 26
 call:Blk wr (w.heap.size+1) #[c.kind,c.core,c.fd,c.off,c.num,c.path,c.path2,c.data] 28
 res:Blk wr b7 rc 52
theorem aWG (iv ov mv:Value) (S:PSt) (c:PCall) (w:World) (h:StRead w iv ov mv S) (hwf:S.wf):
 vR w 41 #[.agg #[iv,ov,mv],c.val] (.bool (fS S c)):=by
 have a0:vB w 30 #[.agg #[iv,ov,mv]] (.bool (cS S)):=λww hb=>by have:=aYB S iv ov mv ww (h.below hb (zC _)) hwf;rw[aSI hwf]at this;exact this
 have a2:=fun(ww:World) (hb:Bl w ww)=>bAI hwf c iv ov mv ww (h.below hb (zC _)) (λw3 hb3=>a0 w3 (hb.trans (hb3.mono hb.size)));obtain⟨ai,ni,ci,ao,no,co,am,nm',cm,rfl,rfl,rfl⟩:=h.slices;clear h;obtain⟨T,hT⟩:∃T,fS S c=T:=⟨_,rfl⟩;rw[hT];unfold fS at hT;unfold PCall.val;generalize lX S c=Y at *;obtain⟨S',r⟩:=Y;simp only at a2 hT;generalize hM:cS S=M at *;have HT:=aC hT;clear hM hwf hT;unfold vR;go_in;go_upto_region 2 with(go_at_call 31;refine(a2 _ (bel _ _)).mono ?_;rintro e w5 ⟨hb5,iv5,ov5,mv5,nv5,rfl,hs5,hn5⟩;obtain⟨a11,a12,a13,a14,a15,a16,a17,a18,a19,rfl,rfl,rfl⟩:=hs5.forms;obtain⟨an,nn,cn,rfl⟩:=hn5.form;clear hs5 hn5;obtain⟨p5,rfl⟩:=hb5.rest;clear hb5)
 refine aD (F:=λW=>TuL w (.slice ai ni ci) (.slice ao no co) (.slice am nm' cm) c (w.heap.size+1+1+p5.len+1) #[.int .i64 r.code,.int .i64 r.fd,.int .i64 r.num,.bool r.dir,.string r.data,.slice an nn cn] W) ?_ ?_
 .exact⟨bel w _,((((Blk.new w _ 26).alloc _).junk _).alloc _).alloc _,(((Blk.new_i (w.alloc (.cells _ 26)) _ 28 _).junk _).alloc _).alloc _,Blk.new_i _ _ 52 _⟩
 intro wA hA;generalize w.heap.size+1+1+p5.len+1=b7 at *;generalize w.heap.size+1+1+p5.len=b6 at *;have k0:wA.cell? w.heap.size=some (.slice ai ni ci):=hA.box.cell 0;have k1:wA.cell? ⟨w.heap.size,1,none⟩=some (.slice ao no co):=hA.box.cell 1;have k2:wA.cell? ⟨w.heap.size,2,none⟩=some (.slice am nm' cm):=hA.box.cell 2;have c0:wA.cell? ⟨w.heap.size+1,0,none⟩=some (.int .i64 c.kind):=hA.call.cell 0;have c7:wA.cell? ⟨w.heap.size+1,7,none⟩=some (.string c.data):=hA.call.cell 7;have q0:wA.cell? b7=some (.int .i64 r.code):=hA.res.cell 0;have ik:=hA.box.lt;have ic:=hA.call.lt;have iq:=hA.res.lt;have iB:Bel w wA:=⟨hA.below⟩;have a1:=hA.below.size;have HA:=aC hA;have HM:=aC a0;clear hA a2 a0;by_cases hc:r.code=0;rotate_left
 .have hT:=HT.out;rw[zB (.inl hc)]at hT;subst hT;have a4:(r.code !=0)=true:=by simpa using hc
  go_wp2;go_ret;exact⟨rfl,HA.out.below.trans ((bel wA _).mono a1)⟩
 have a4:(r.code !=0)=false:=by simpa using hc
 rcases M with _|_
 .have hT:=HT.out;rw[zB (.inr rfl)]at hT;subst hT;go_wp2_with(go_at_call 30;refine aE (HM.out _ (bel _ _)) λp=>?_)
  go_ret;exact⟨rfl,HA.out.below.trans ((bel wA _).mono a1)⟩
 have hT:=HT.out;rw[zA (by simp[hc])]at hT;go_upto_region 4 with(go_at_call 30;refine aE (HM.out _ (bel _ _)) λp=>?_)
 have hk:(c.kind=0\/c.kind=1\/c.kind=2\/c.kind=3\/c.kind=6\/c.kind=8\/c.kind=9\/c.kind=10\/c.kind=11)\/¬(c.kind=0\/c.kind=1\/c.kind=2\/c.kind=3\/c.kind=6\/c.kind=8\/c.kind=9\/c.kind=10\/c.kind=11):=by omega
 rcases hk with hk|hk
 .rw[zB hk]at hT;subst hT;clear HT;rcases hk with h|h|h|h|h|h|h|h|h
  iterate 9
   .go_wp2;go_ret;exact⟨rfl,HA.out.below.trans ((bel wA _).mono a1)⟩
 rw[zA hk]at hT;have a3:=aC hT;clear HT hT;have n0:(c.kind==0)=false:=by simp only[yF,ne_eq];omega
 have n1:(c.kind==1)=false:=by simp only[yF,ne_eq];omega
 have n2:(c.kind==2)=false:=by simp only[yF,ne_eq];omega
 have n3:(c.kind==3)=false:=by simp only[yF,ne_eq];omega
 have n6:(c.kind==6)=false:=by simp only[yF,ne_eq];omega
 have n8:(c.kind==8)=false:=by simp only[yF,ne_eq];omega
 have n9:(c.kind==9)=false:=by simp only[yF,ne_eq];omega
 have a5:(c.kind==10)=false:=by simp only[yF,ne_eq];omega
 have a6:(c.kind==11)=false:=by simp only[yF,ne_eq];omega
 clear hk;by_cases h5:c.kind=5
 .have hT:=a3.out;rw[zB h5]at hT;have hd:(c.data.toList !=[])=!decide (c.data=⟨#[]⟩):=by
   rcases hd:decide (c.data=⟨#[]⟩)with _|_
   .rw[yW]at hd;have:c.data.toList≠[]:=λe=>hd (by
     have h2:c.data.data.toList=[]:=by rw[<-zW];exact e
     have h3:c.data.data=#[]:=Array.toList_eq_nil_iff.1 h2;rcases hx:c.data with⟨l⟩
     rw[hx]at h3;rw[<-h3])
    simpa using this
   rw[decide_eq_true_iff]at hd;rw[hd,zW];rfl
  rw[hT]at hd;clear hT a3;go_wp2;go_ret;exact⟨by rw[<-hd];simp[bne],HA.out.below.trans ((bel wA _).mono a1)⟩
 have hT:=a3.out;rw[zA h5]at hT;subst hT;have n5:(c.kind==5)=false:=by simpa using h5
 go_wp2;go_ret;exact⟨rfl,HA.out.below.trans ((bel wA _).mono a1)⟩
section
theorem aBR (S:PSt):∀(ns:List ByteArray) (a:Int) (th:List Int),(aP S ns a th).2.1≠0->(aP S ns a th).1=0
 |[],a,th,h=>absurd rfl h
 | n ::r,a,th,h=>by
   unfold aP at h |-;rcases hx:S.ins[(bM S a).toNat]? with _|x
   .rfl
   rw [hx]at h;simp only at h |-;split
   .rename_i hd
    rw[zB hd]at h;split
    .rfl
    rename_i he;rw[zA he]at h;exact aBR S r _ _ h
   rfl
section
variable {S:PSt}
theorem mL (M:MayX S) (hm:cS S=true) (p:ByteArray):(eU S p).1=(eX S p).1:=by
 unfold eU eX;rw[eW,zB hm];by_cases hp:(aA p).1=0
 .have a0:¬(aA p).1≠0:=by simpa using hp
  rw[zA a0,zA a0];by_cases hw:(aK S 0 (aA p).2).2=0
  .have a1:¬(aK S 0 (aA p).2).2≠0:=by simpa using hw
   rw[zA a1];exact M.numW hw
  rw[zB hw,aBR S _ 1 [] (by rw[(M.walk0 _).1];exact hw)]
 rw[zB hp,zB hp]
theorem MayX.ent_num (M:MayX S) {x:PIn} (hx:x∈S.ins) {e:PEnt} (he:e∈x.ents):aW S x.num e.name=e.num/\e.num≠0:=by
 obtain⟨k,hk⟩:=getElem?_of_mem hx;obtain⟨i,hi⟩:=getElem?_of_mem he;have ha:=M.asc x hx;obtain⟨h1,h2⟩:=aEF ha hi rfl;refine⟨?_,?_⟩
 .rw[tQ S (cP M.tree.rise hk) hk,aGH ha h2 (by rw[<-h1];exact hi)]
 obtain⟨_,_,_,_,_,h0⟩:=M.kid hx he;exact h0
theorem MayX.walk_on (M:MayX S) {x:PIn} (hx:x∈S.ins) (hd:x.dir=true) {e:PEnt} (he:e∈x.ents) (r:List ByteArray) (th:List Int):aP S (e.name::r) x.num th=aP S r e.num (th++[x.num]):=by
 obtain⟨k,hk⟩:=getElem?_of_mem hx;obtain⟨h1,h2⟩:=M.ent_num hx he
 conv=>lhs;unfold aP
 rw[cP M.tree.rise hk,zJ,hk];simp only;rw[zB hd,h1,zA h2]
theorem aBS:∀(ns:List ByteArray) (a:Int) (th:List Int) (l:ByteArray),(aP S ns a th).2.1=0->∃th',aP S (ns++[l]) a th=aP S [l] (aP S ns a th).1 th'
 |[],a,th,l,_=>⟨th,rfl⟩
 | n::r,a,th,l,h=>by
   have hu:=h;unfold aP at hu;rcases hx:S.ins[(bM S a).toNat]? with _|x
   .rw[hx]at hu;cases hu
   rw[hx]at hu;simp only at hu;by_cases hd:x.dir=true;rotate_left
   .rw[zA hd]at hu;cases hu
   rw[zB hd]at hu;by_cases he:aW S a n=0
   .rw[zB he]at hu;cases hu
   rw[zA he]at hu;obtain⟨th',h2⟩:=aBS r (aW S a n) (th++[a]) l hu;refine⟨th',?_⟩;rw[cons_append]
   conv=>lhs;unfold aP
   conv=>rhs;arg 3;unfold aP
   rw[hx];simp only;rw[zB hd,zA he,zB hd,zA he];exact h2
theorem aBT {S':PSt} (M:MayX S) (M':MayX S') (hk:∀y∈S.ins,∃y'∈S'.ins,y'.num=y.num/\y'.dir=y.dir/\∀e∈y.ents,e∈y'.ents):∀(ns:List ByteArray) (x:PIn),x∈S.ins->∀th th',(aP S ns x.num th).2.1=0->(aP S' ns x.num th').1=(aP S ns x.num th).1/\(aP S' ns x.num th').2.1=0
 |[],x,hx,th,th',_=>⟨rfl,rfl⟩
 | n::r,x,hx,th,th',h=>by
   obtain⟨k,hkk⟩:=getElem?_of_mem hx;have a0:=cP M.tree.rise hkk;have hu:=h;unfold aP at hu;rw[a0,zJ,hkk]at hu;simp only at hu;by_cases hd:x.dir=true;rotate_left
   .rw[zA hd]at hu;cases hu
   rw[zB hd]at hu;by_cases he:aW S x.num n=0
   .rw[zB he]at hu;cases hu
   have hh:bR x.ents n=true:=by
    cases hq:bR x.ents n with
    |true=>rfl
    |false=>exact absurd (M.ent_miss a0 hkk hq) he
   obtain⟨e,_,hen,_,_,hem⟩:=M.ent_hit a0 hkk hh;obtain⟨x',hx',n1,n2,n3⟩:=hk x hx;obtain⟨_,y,_,hy,hyn,_⟩:=M.kid hx hem;subst hen;have e2:=M'.walk_on hx' (by rw[n2];exact hd) (n3 e hem) r th';rw[n1]at e2;rw[M.walk_on hx hd hem]at h |-;rw[e2];rw[<-hyn]at h |-;exact aBT M M' hk r y (mG hy) _ _ h
theorem aNK (M:MayX S) (Q:MayQ S) (c:PCall) {K:Nat} {x:PIn} {l:ByteArray} {m:Int} (hc0:0<=c.core) (hc1:c.core<S.made.length) (hpo:jF c.path) (hpx:bW S c.path=.ok (K,l)) (hx:S.ins[K]? =some x) (hd:x.dir=true) (hh:bR x.ents l=false) (hf:eZ x.ents l ⟨#[]⟩=false) (hm:S.made[c.core.toNat]? =some m) (h32:m<32) (hwf:(dC S c K x l m).wf):MayQ (dC S c K x l m)/\(eU (dC S c K x l m) c.path).1=2+c.core+8*m:=by
 have a7:=M.cores;obtain⟨hw,hlast,hwk⟩:=gR hpx;have a1:(aA c.path).2.getLastD ⟨#[]⟩=l:=hlast;have b0:=hpo.2;have a0:(aA c.path).2=(aA c.path).2.dropLast++[l]:=by rw[<-a1,getLastD_eq_getLast?,getLast?_eq_some_getLast b0];exact(dropLast_concat_getLast b0).symm
 have hl:dM l=true:=(uK hpo.1).1 l (by rw[a0];simp);have b2:c.core=(c.core.toNat:Nat):=by omega
 have hQ:=aSH M Q c b2 (by omega) hx hd hl hh hf hm h32 hwf;refine⟨hQ,?_⟩;have b1:=hQ.may;have M':=pX hwf b1;rw[mL M' b1];have h0:=(M.made m (mG hm)).1;obtain⟨Kl,_⟩:=gI.1 hx;have b5:=mG hx;obtain⟨x',hx'⟩:∃x':PIn,x'={ x with ents:=aX x.ents (cY x.ents l) ⟨l,2+c.core+8*m⟩}:=⟨_,rfl⟩;have a2:(dC S c K x l m).ins=aX (S.ins.set K x') (lB S.nums (2+c.core+8*m)) ⟨2+c.core+8*m,c.kind==1,[],⟨#[]⟩⟩:=by unfold dC PSt.ents;simp only;rw[hx']
 have a3:x'∈(dC S c K x l m).ins:=by rw[a2,dY];exact .inr (mG (i:=K) (by rw[zY Kl]))
 have a4:∀y∈S.ins,∃y'∈(dC S c K x l m).ins,y'.num=y.num/\y'.dir=y.dir/\∀e∈y.ents,e∈y'.ents:=λy hy=>by
  obtain⟨i,hi⟩:=getElem?_of_mem hy;by_cases e:K=i
  .subst e;rw[hx]at hi;cases hi;exact⟨x',a3,by rw[hx'],by rw[hx'],λe he=>by rw[hx'];exact dY.2 (.inr he)⟩
  exact⟨y,by rw[a2,dY];exact .inr (mG (i:=i) (by rw[zX e];exact hi)),rfl,rfl,λe he=>he⟩
 have a8:(⟨l,2+c.core+8*m⟩:PEnt)∈x'.ents:=by rw[hx'];exact dY.2 (.inl rfl)
 have a5:=M.par c.path;rw[hpx]at a5;obtain⟨y,hpr,hy,hat,_,_⟩:=a5;rw[hx]at hy;cases hy;have a6:(aP S (aA c.path).2.dropLast 1 []).2.1=0:=by rw[(M.walk0 _).1];exact hw
 have a9:(aP S (aA c.path).2.dropLast 1 []).1=x.num:=by rw[<-M.numW hw,hwk];unfold gK;rw[hx]
 generalize dC S c K x l m=S' at *;obtain⟨x0,hx0,h01,_⟩:=M.head;have hg:=aBT M M' a4 (aA c.path).2.dropLast x0 (mG hx0) [] [] (by rw[h01];exact a6);rw[h01,a9]at hg;obtain⟨th',h2⟩:=aBS (S:=S') (aA c.path).2.dropLast 1 [] l hg.2;unfold eX;rw[eW,zA (by simpa using hpo.1),a0,h2,hg.1];have b3:x'.num=x.num:=by rw[hx']
 have b4:x'.dir=true:=by rw[hx'];exact hd
 have:=M'.walk_on a3 b4 a8 [] th';rw[b3]at this;show(aP S' [l] x.num th').1=_;rw[this];rfl
theorem aRT (hwf:S.wf) (c:PCall):wG S c=jL S c:=by
 by_cases h0:(lX S c).2.code=0;rotate_left
 .rw[aNQ h0];have ht:fS S c=false:=by
   unfold fS;rw[zB (Or.inl h0)]
  unfold wG;rw[ht];rfl
 obtain⟨hmc,hrun⟩:=aHV h0;obtain⟨hm,hc0,hc1⟩:=lY hmc;have hk:0<=c.kind/\c.kind<=16:=by unfold gB at hmc;simp only[zE,zI]at hmc;exact hmc.1.1.1
 have M:=pX hwf hm;have Q:=aVS hwf hm;obtain⟨hg,_⟩:=aGJ M c hc0 hc1 hk.1 hk.2;obtain⟨y,hy,hdy⟩:∃y,eJ S c=.ok y/\lX S c=y:=by
  rcases hrun with h|⟨h,_⟩
  .exact h
  exact absurd rfl (hg 0 h)
 have ok:=aBC hwf h0;have a8:¬((lX S c).2.code≠0\/cS S=false):=by
  rintro(h|h)
  .exact h h0
  rw[hm]at h;cases h
 by_cases hl:c.kind=4\/c.kind=7\/c.kind=12\/c.kind=13\/c.kind=14\/c.kind=15\/c.kind=16
 .rw[aIP hl];have ht:fS S c=false:=by
   unfold fS;rw[zA a8,zA (by omega),zA (by omega)]
  unfold wG;rw[ht];rfl
 by_cases he:c.kind=5/\c.data.size=0
 .rw[aFV he.1 he.2];have hd:c.data=⟨#[]⟩:=by
   apply ByteArray.ext;exact Array.eq_empty_of_size_eq_zero he.2
  have ht:fS S c=false:=by unfold fS;rw[zA a8,zA (by omega),zB he.1,decide_eq_true hd];rfl
  unfold wG;rw[ht];rfl
 have ht:fS S c=true:=by
  unfold fS;rw[zA a8];by_cases h5:c.kind=5
  .rw[zA (by omega),zB h5];have hd:c.data≠⟨#[]⟩:=λe=>he ⟨h5,by rw[e];rfl⟩
   rw[yM hd];rfl
  rw[zB (by omega)]
 have key:∃l,cH S (lX S c).1 c=some l/\∀z,z∈l↔z=⟨-1-c.core,⟨#[]⟩⟩\/z∈aAP S c:=by
  by_cases k3:c.kind=5\/c.kind=6\/c.kind=3
  .have ho:fE S c=[⟨nR S c.core c.fd,⟨#[]⟩⟩]:=by
    have b2:=ok.fd (by omega);have b3:cU (eV c) S.op=bO (λd:PDesc=>(d.core==c.core)&&(d.fd==c.fd)) S.op 0:=rfl;unfold fE nR;rcases vL c.core c.fd S.op 0 with⟨h1,h2,h3⟩|⟨I,d,h1,h2,h3,h4⟩
    .rw[b3,h2]at b2;exact absurd b2 (by decide)
    rw[b3,h4,zM,zJ,h1,h3]
   refine⟨fE S c++[⟨-1-c.core,⟨#[]⟩⟩],?_,λz=>?_⟩
   .unfold cH;by_cases k5:c.kind=5
    .rw[zA (by omega),zA (by omega),zA (by omega),zB k5,zA (λe=>he ⟨k5,e⟩)];rfl
    rw[zA (by omega),zA (by omega),zB (by omega)];rfl
   unfold aAP;rw[zB k3,ho];simp only[cons_append,nil_append,mem_cons,not_mem_nil,or_false];exact⟨λh=>h.symm,λh=>h.symm⟩
  by_cases k2:c.kind=2
  .have a5:∃K,rD S c.path=.ok K:=by
    unfold eJ at hy;rw[zA (by omega),zB k2,sQ]at hy;rcases ha:rD S c.path with k|K
    .rw[ha]at hy;cases hy
    exact⟨K,rfl⟩
   obtain⟨K,hK⟩:=a5;obtain⟨a1,a2,a3⟩:=aKW hK;have a0:=ok.path (by omega);have a4:=(kL M hm a0 (aBQ M a1)).1;refine⟨fU S c.path++cM S c.path++[⟨-1-c.core,⟨#[]⟩⟩],?_,λz=>?_⟩
   .unfold cH;rw[zA (by omega),zB k2];rfl
   unfold aAP cM aFL;rw[zA k3,zB k2,zA (by omega),a4,mL M hm];simp only[yR,mem_cons,not_mem_nil,or_false,nil_append];simp only[or_assoc,or_comm,or_left_comm]
  by_cases k8:c.kind=8
  .have a5:∃K x2,rD S c.path=.ok K/\bW S c.path2=.ok x2:=by
    unfold eJ at hy;rw[zA (by omega),zA (by omega),zA (by omega),zA (by omega),zA (by omega),zB k8]at hy;unfold nP at hy;rcases ha:rD S c.path with k|K
    .rw[ha]at hy;cases hy
    rw[ha]at hy;simp only at hy;rcases hx:S.ins[K]? with _|x
    .rw[hx]at hy;cases hy
    rw[hx]at hy;simp only at hy;split at hy
    .cases hy
    rcases hp2:bW S c.path2 with k|x2
    .rw[hp2]at hy;cases hy
    exact⟨K,x2,rfl,rfl⟩
   obtain⟨K,x2,hK,hp2⟩:=a5;obtain⟨a1,a2,a3⟩:=aKW hK;have a0:=ok.path (by omega);have a6:=ok.path2 (by omega);have a4:=(kL M hm a0 (aBQ M a1)).1;have a9:=(kL M hm a6 (gR hp2).1).1;have b0:=wI M hm hp2;refine⟨fU S c.path++dD S c.path2++cM S c.path++[⟨-1-c.core,⟨#[]⟩⟩],?_,λz=>?_⟩
   .unfold cH;rw[zA (by omega),zA (by omega),zA (by omega),zA (by omega),zB k8];rfl
   unfold aAP cM aFL;rw[zA k3,zA k2,zA (by omega),zB k8,zA (by omega),a4,a9,b0,mL M hm];simp only[yR,mem_cons,not_mem_nil,or_false];simp only[or_assoc,or_comm,or_left_comm]
  by_cases k9:c.kind=9\/c.kind=10
  .have a5:∃x1,bW S c.path=.ok x1:=by
    unfold eJ at hy;rw[zA (by omega),zA (by omega),zA (by omega),zA (by omega),zA (by omega),zA (by omega),zB k9]at hy;unfold hJ at hy;rcases hp:bW S c.path with k|x1
    .rw[hp]at hy;cases hy
    exact⟨x1,rfl⟩
   obtain⟨x1,hp1⟩:=a5;have a0:=ok.path (by omega);have a4:=(kL M hm a0 (gR hp1).1).1;have a7:=wI M hm hp1;refine⟨dD S c.path++cM S c.path++[⟨-1-c.core,⟨#[]⟩⟩],?_,λz=>?_⟩
   .unfold cH;rw[zA (by omega),zA (by omega),zA (by omega),zA (by omega),zA (by omega),zB k9];rfl
   unfold aAP cM aFL;rw[zA k3,zA k2,zA (by omega),zA (by omega),zA (by omega),zA (by omega),a4,a7,mL M hm];simp only[yR,mem_cons,not_mem_nil,or_false];simp only[or_assoc,or_comm,or_left_comm]
  by_cases k11:c.kind=11
  .have a5:∃x1 x2,bW S c.path=.ok x1/\bW S c.path2=.ok x2:=by
    unfold eJ at hy;rw[zA (by omega),zA (by omega),zA (by omega),zA (by omega),zA (by omega),zA (by omega),zA (by omega),zB k11,nY]at hy;rcases hp:bW S c.path with k|x1
    .rw[hp]at hy;cases hy
    obtain⟨K1,s⟩:=x1;rw[hp]at hy;simp only at hy;rcases hx:S.ins[K1]? with _|x
    .rw[hx]at hy;cases hy
    rw[hx]at hy;simp only at hy;split at hy
    .cases hy
    split at hy
    .cases hy
    rcases hp2:bW S c.path2 with k|x2
    .rw[hp2]at hy;cases hy
    exact⟨_,x2,rfl,rfl⟩
   obtain⟨x1,x2,hp1,hp2⟩:=a5;have a0:=ok.path (by omega);have a6:=ok.path2 (by omega);have a4:=(kL M hm a0 (gR hp1).1).1;have a9:=(kL M hm a6 (gR hp2).1).1;have a7:=wI M hm hp1;have b0:=wI M hm hp2;refine⟨dD S c.path++dD S c.path2++cM S c.path++[⟨-1-c.core,⟨#[]⟩⟩],?_,λz=>?_⟩
   .unfold cH;rw[zA (by omega),zA (by omega),zA (by omega),zA (by omega),zA (by omega),zA (by omega),zB k11];rfl
   unfold aAP cM aFL;rw[zA k3,zA k2,zA (by omega),zA (by omega),zB k11,zA (by omega),a4,a9,a7,b0,mL M hm];simp only[yR,mem_cons,not_mem_nil,or_false];simp only[or_assoc,or_comm,or_left_comm]
  have k0:c.kind=0\/c.kind=1:=by omega
  unfold eJ at hy;rw[zB k0,nW]at hy;rcases hp1:bW S c.path with k|⟨K,l⟩
  .rw[hp1]at hy;cases hy
  rw[hp1]at hy;simp only at hy;rcases hx:S.ins[K]? with _|x
  .rw[hx]at hy;cases hy
  rw[hx]at hy;simp only at hy;by_cases hh:bR x.ents l=true
  .rw[zB hh]at hy;cases hy
  rw[zA hh]at hy;rcases hmm:S.made[c.core.toNat]? with _|m
  .rw[hmm]at hy;cases hy
  rw[hmm]at hy;simp only at hy;by_cases hf:(eZ x.ents l ⟨#[]⟩||decide (32<=m))=true
  .rw[zB hf]at hy;cases hy
  rw[zA hf]at hy;simp only[Except.ok.injEq]at hy;have b4:eZ x.ents l ⟨#[]⟩=false/\m<32:=by rw[Bool.not_eq_true,yV,yW]at hf;exact⟨hf.1,by omega⟩
  have b5:(lX S c).1=dC S c K x l m:=by rw[hdy,<-hy]
  have b1:(dC S c K x l m).wf:=by rw[<-b5];exact aDM hwf
  have a0:=ok.path (by omega);obtain⟨x9,hx9,hd9⟩:=aMQ hp1;rw[hx]at hx9;cases hx9;obtain⟨_,hfn⟩:=aNK M Q c hc0 hc1 a0 hp1 hx hd9 (by simpa using hh) b4.1 hmm b4.2 b1;have a4:=(kL M hm a0 (gR hp1).1).1;have a7:=wI M hm hp1;refine⟨dD S c.path++cM (lX S c).1 c.path++[⟨-1-c.core,⟨#[]⟩⟩],?_,λz=>?_⟩
  .unfold cH;rw[zB k0];rfl
  unfold aAP cM aFL;rw[zA k3,zA k2,zB k0,zB k0,a4,a7,b5,hfn,zG,hmm];simp only[yR,mem_cons,not_mem_nil,or_false,Option.getD_some];simp only[or_assoc,or_comm,or_left_comm]
 obtain⟨l,hgl,hmem⟩:=key;unfold wG jL mN;rw[zB ht,zB hm,hgl,qX h0,aFG];refine aFK (aKV _ _ (pairwise_singleton _ _)) (aNJ (qV l)) λz=>?_;rw[aFJ,yZ,<-hmem z];constructor
 .intro h;exact aIO ((rR l).mem_iff.2 h)
 intro h;exact(rR l).mem_iff.1 (aNI h)
end
end
section
theorem aYF (k y:PKey):dX k.name y.name=decide (dF k.name y.name<0):=by rw[oW,mT]
structure AL (w:World) (k:PKey) (zs:List PKey) (vx:Value) (wr:World):Prop where
 below:Bl w wr
 box:Blk wr w.heap.size #[k.num,k.name] 61
 out:OwnP (w.heap.size+1) wr 61 2 vx (zs.map PKey.cells)
variable {k:PKey} {vx:Value} {w wr:World} {zs:List PKey}
theorem AL.later {w':World} (h:AL w k zs vx wr) (hb:Bl wr w'):AL w k zs vx w':=
 ⟨h.below.trans (hb.mono h.below.size),h.box.below hb h.box.lt.lt,h.out.below hb⟩
theorem AL.more {y:PKey} {v':Value} {w1 w2:World} {R:List (List Value)} (h:AL w k zs vx wr) (hb:Bl wr w1) (hG:Grew (w.heap.size+1) 61 2 w1 vx R v' w2) (hR:R=(zs++[y]).map PKey.cells):AL w k (zs++[y]) v' w2:=by subst hR;have h1:=h.later hb;obtain⟨g1,g2,-⟩:=hG;have a0:=h1.box.lt.lt;refine⟨h1.below.trans (g2.below h1.below.size (λi hi hg=>by have:=h1.out.ge hg;omega)),g2.blk h1.box (λhg=>by have:=h1.out.ge hg;omega),g1⟩
theorem aOJ {α:Type} (p:α->Bool) (x:α) (es:List α) (q:Nat) (e:α) (d:Bool) (zs:List α) (h:es[q]? =some e):cQ p x (es.drop q) d zs=if d=true then cQ p x (es.drop (q+1)) true (zs++[e])else if p e=true then cQ p x (es.drop (q+1)) true (zs++[x]++[e])else cQ p x (es.drop (q+1)) false (zs++[e]):=qA p x es q e d zs h
theorem aWV (ks:List PKey) (k:PKey) (va:Value) (B:Nat) (w:World) (ha:OwnP B w 61 2 va (ks.map PKey.cells)) (hB:B<=w.heap.size) (hkn:k.name.size<=1000000) (hl:ks.length<=1000000):
 Calls prog 42 #[va,.agg #[k.num,k.name]] w λe w'=>Bl w w'/\∃v,e=.returned v/\OwnP B w' 61 2 v ((dW ks k).map PKey.cells):=by
 have a7:=fun(y:PKey) ww=>aEM k.name y.name (by omega) ww;obtain⟨aa,ca,rfl,hata⟩:=ha.row.at_;rw[lM]at ha |-;have HA:=aC hata;have HO:=aC ha;have HM:=aC a7;clear hata ha a7;go_in;go_wp2
 go_loopw[5,6,7] (λva vd vi wr=>∃(q:Nat) (zs:List PKey) (d:Bool) (vx:Value),vi=.int .i64 q/\vd=.bool d/\vx=va/\q<=ks.length/\(∀y∈ks.take q,y≠k)/\zs.length<=2*q/\cQ (λy=>nC k y) k (ks.drop q) d zs=cQ (λy=>nC k y) k ks false []/\AL w k zs vx wr) (λ_ _ vi _=>(ks.length-intOf vi).toNat)
 case atStart=>exact⟨0,[],false,_,rfl,rfl,rfl,by omega,λy hy=>(by simp at hy),by simp,rfl,bel w _,Blk.new _ _ _,.inl ⟨rfl,rfl⟩⟩
 case round=>
  obtain⟨q,zs,d,vx,rfl,rfl,rfl,hq,hno,hzl,hre,hal⟩:=hrel;have iB:Bel w wr:=⟨hal.below⟩;have z0:wr.cell? w.heap.size=some (.int .i64 k.num):=hal.box.cell 0;have z1:wr.cell? ⟨w.heap.size,1,none⟩=some (.string k.name):=hal.box.cell 1;have iK:=hal.box.lt;have b1:=hal.below.size;have HL:=aC hal;have HN:=bG hno hzl;by_cases hlt:q<ks.length
  .obtain⟨y,hy⟩:∃y,ks[q]? =some y:=⟨_,gE hlt⟩
   obtain⟨be,offe,rfl,iE0,iE,hce⟩:=HA.out wr hal.below q y.cells (by rw[gM,hy];rfl);have e0:=hce 0 _ rfl;have e1:=hce 1 _ rfl;rw[zN]at e0;rw[aOJ _ _ _ _ _ _ _ hy]at hre;have g1:(q:Int)<ks.length:=by omega
   have HY:=bG hy hre;have a5:y≠k->∀z∈ks.take (q+1),z≠k:=λb6 z hz=>by
    obtain⟨i,hi,hzi⟩:=aCA hz;by_cases e:i=q
    .subst e;rw[hy]at hzi;cases hzi;exact b6
    exact hno z (mG (i:=i) (by rw[yO,zB (by omega)];exact hzi))
   have HS:=aC a5;clear hce hno hzl hal a5 hre;by_cases hyk:y=k
   .have n1:∀ww,(binOp .eql 61 (.agg #[y.num,y.name]) (.agg #[k.num,k.name])).run prog ww=.ok (.bool true) ww:=λww=>by rw[aAY,decide_eq_true hyk]
    clear hy;go_wp2;refine qR ?_
    repeat(go_big_quiet_step (fail))
    refine QN λp=>?_;go_wp2;go_ret;have a4:dW ks k=ks:=by unfold dW;rw[zB (uZ.2 (by rw[<-hyk];exact mG HY.out.1))]
    refine⟨HL.out.below.trans ((bel wr _).mono b1),_,rfl,?_⟩;rw[a4];exact HO.out.keep (Keep.of_below (HL.out.below.trans ((bel wr _).mono b1)) (λ_=>False)) (λ_ _ h=>h)

   have n1:∀ww,(binOp .eql 61 (.agg #[y.num,y.name]) (.agg #[k.num,k.name])).run prog ww=.ok (.bool false) ww:=λww=>by rw[aAY,yM hyk]
   have a8:=HS.out hyk;have a9:=aC a8;clear a8 hy

   go_wp2;refine qR ?_
   repeat(go_big_quiet_step (fail))
   refine QN λp=>?_;obtain⟨ax,nx,cx,rfl⟩:=HL.out.out.form;rcases d with _|_;rotate_left
   .go_wp2;refine qR ?_
    repeat(go_big_quiet_step (fail))
    refine QN λp=>?_;go_wp2_with(at_builtin;refine oM rfl _ _ rfl (w.heap.size+1) (.slice ax nx cx) (.slice (some ⟨_,0,none⟩) 1 1) zs [y] rfl (by go_simp) (AL.out (AL.later HL.out (by exact bel wr _))) (dZ (t:=61) (Blk.new _ _ _) rfl (by decide) (jV rfl)) (by have:=HN.out.2;simp;omega) (by simp;omega) ?_);intro v' w2 hG;have a0:AL w k (zs++[y]) v' w2:=AL.more HL.out (by exact bel wr _) hG (by simp);obtain⟨a',n',c',rfl⟩:=a0.out.form;have a2:=aC a0;clear a0 hG;go_wp2;go_roundw
    case rel=>exact⟨q+1,zs++[y],true,_,by go_num,rfl,rfl,by omega,a9.out,by have:=HN.out.2;simp;omega,by have:=HY.out.2;(first|rw[zB rfl]at this|rw[zB trivial]at this);exact this,a2.out⟩
    simp[intOf];omega
   by_cases hgt:k.num<y.num
   .have a6:nC k y=true:=kV.2 (.inl hgt);have b8:decide (k.num<y.num)=true:=decide_eq_true hgt;go_wp2;refine qR ?_
    repeat(go_big_quiet_step (fail))
    refine QN λp=>?_;go_wp2_with(at_builtin;refine oM rfl _ _ rfl (w.heap.size+1) (.slice ax nx cx) (.slice (some ⟨_,0,none⟩) 1 1) zs [k] rfl (by go_simp) (AL.out (AL.later HL.out (by exact bel wr _))) (dZ (t:=61) (Blk.new _ _ _) rfl (by decide) (jV rfl)) (by have:=HN.out.2;simp;omega) (by simp;omega) ?_);intro v' w2 hG;have a0:AL w k (zs++[k]) v' w2:=AL.more HL.out (by exact bel wr _) hG (by simp);obtain⟨a',n',c',rfl⟩:=a0.out.form;have a2:=aC a0;have b9:Bel w w2:=⟨a0.below⟩;have b2:=a0.below.size;have b3:=a0.box.lt.lt;obtain⟨bf,off2,heq,-,iF,hcf⟩:=HA.out w2 a0.below q y.cells (by rw[gM,HY.out.1];rfl);simp only[zF,yG,and_true]at heq;obtain⟨rfl,rfl⟩:=heq;have f0:=hcf 0 _ rfl;have f1:=hcf 1 _ rfl;rw[zN]at f0;clear a0 hG hcf;go_wp2_with(at_builtin;refine oM rfl _ _ rfl (w.heap.size+1) (.slice a' n' c') (.slice (some ⟨_,0,none⟩) 1 1) (zs++[k]) [y] rfl (by go_simp) (AL.out (AL.later a2.out (by exact bel w2 _))) (dZ (t:=61) (Blk.new _ _ _) rfl (by decide) (jV rfl)) (by have:=HN.out.2;simp;omega) (by simp;omega) ?_);intro v3 w3 hG3;have a1:AL w k (zs++[k]++[y]) v3 w3:=AL.more a2.out (by exact bel w2 _) hG3 (by simp);obtain⟨a3,n3,c3,rfl⟩:=a1.out.form;have b4:=aC a1;clear a1 hG3;go_wp2;go_roundw
    case rel=>exact⟨q+1,zs++[k]++[y],true,_,by go_num,rfl,rfl,by omega,a9.out,by have:=HN.out.2;simp;omega,by have:=HY.out.2;(rw [zA (by decide),zB a6]at this);exact this,b4.out⟩
    simp[intOf];omega
   have b8:decide (k.num<y.num)=false:=yM hgt;rcases hen:(y.num==k.num)with _|_
   .have b6:y.num≠k.num:=by simpa using hen
    have a6:¬nC k y=true:=λh=>by rcases kV.1 h with h|h<;>omega
    go_wp2;refine qR ?_
    repeat(go_big_quiet_step (fail))
    refine QN λp=>?_;clear hen;go_wp2_with(at_builtin;refine oM rfl _ _ rfl (w.heap.size+1) (.slice ax nx cx) (.slice (some ⟨_,0,none⟩) 1 1) zs [y] rfl (by go_simp) (AL.out (AL.later HL.out (by exact bel wr _))) (dZ (t:=61) (Blk.new _ _ _) rfl (by decide) (jV rfl)) (by have:=HN.out.2;simp;omega) (by simp;omega) ?_);intro v' w2 hG;have a0:AL w k (zs++[y]) v' w2:=AL.more HL.out (by exact bel wr _) hG (by simp);obtain⟨a',n',c',rfl⟩:=a0.out.form;have a2:=aC a0;clear a0 hG;go_wp2;go_roundw
    case rel=>exact⟨q+1,zs++[y],false,_,by go_num,rfl,rfl,by omega,a9.out,by have:=HN.out.2;simp;omega,by have:=HY.out.2;(rw [zA (by decide),zA a6]at this);exact this,a2.out⟩
    simp[intOf];omega
   have b5:y.num=k.num:=by simpa using hen
   have hc:=HM.out y;rw[aYF]at hc;rcases hb1:decide (dF k.name y.name<0)with _|_
   .have a6:¬nC k y=true:=λh=>by
     rcases kV.1 h with h|h
     .omega
     exact of_decide_eq_false hb1 h.2
    rw[hb1]at hc;go_wp2;refine qR ?_
    repeat(go_big_quiet_step ((first|refine cI (hc _)|refine cJ (hc _))))
    refine QN λp=>?_;clear b5;clear hen;go_wp2_with(at_builtin;refine oM rfl _ _ rfl (w.heap.size+1) (.slice ax nx cx) (.slice (some ⟨_,0,none⟩) 1 1) zs [y] rfl (by go_simp) (AL.out (AL.later HL.out (by exact bel wr _))) (dZ (t:=61) (Blk.new _ _ _) rfl (by decide) (jV rfl)) (by have:=HN.out.2;simp;omega) (by simp;omega) ?_);intro v' w2 hG;have a0:AL w k (zs++[y]) v' w2:=AL.more HL.out (by exact bel wr _) hG (by simp);obtain⟨a',n',c',rfl⟩:=a0.out.form;have a2:=aC a0;clear a0 hG;go_wp2;go_roundw
    case rel=>exact⟨q+1,zs++[y],false,_,by go_num,rfl,rfl,by omega,a9.out,by have:=HN.out.2;simp;omega,by have:=HY.out.2;(rw [zA (by decide),zA a6]at this);exact this,a2.out⟩
    simp[intOf];omega
   have a6:nC k y=true:=kV.2 (.inr ⟨b5.symm,of_decide_eq_true hb1⟩);rw[hb1]at hc;go_wp2;refine qR ?_
   repeat(go_big_quiet_step ((first|refine cI (hc _)|refine cJ (hc _))))
   refine QN λp=>?_;clear b5;clear hen;go_wp2_with(at_builtin;refine oM rfl _ _ rfl (w.heap.size+1) (.slice ax nx cx) (.slice (some ⟨_,0,none⟩) 1 1) zs [k] rfl (by go_simp) (AL.out (AL.later HL.out (by exact bel wr _))) (dZ (t:=61) (Blk.new _ _ _) rfl (by decide) (jV rfl)) (by have:=HN.out.2;simp;omega) (by simp;omega) ?_);intro v' w2 hG;have a0:AL w k (zs++[k]) v' w2:=AL.more HL.out (by exact bel wr _) hG (by simp);obtain⟨a',n',c',rfl⟩:=a0.out.form;have a2:=aC a0;have b9:Bel w w2:=⟨a0.below⟩;have b2:=a0.below.size;have b3:=a0.box.lt.lt;obtain⟨bf,off2,heq,-,iF,hcf⟩:=HA.out w2 a0.below q y.cells (by rw[gM,HY.out.1];rfl);simp only[zF,yG,and_true]at heq;obtain⟨rfl,rfl⟩:=heq;have f0:=hcf 0 _ rfl;have f1:=hcf 1 _ rfl;rw[zN]at f0;clear a0 hG hcf;go_wp2_with(at_builtin;refine oM rfl _ _ rfl (w.heap.size+1) (.slice a' n' c') (.slice (some ⟨_,0,none⟩) 1 1) (zs++[k]) [y] rfl (by go_simp) (AL.out (AL.later a2.out (by exact bel w2 _))) (dZ (t:=61) (Blk.new _ _ _) rfl (by decide) (jV rfl)) (by have:=HN.out.2;simp;omega) (by simp;omega) ?_);intro v3 w3 hG3;have a1:AL w k (zs++[k]++[y]) v3 w3:=AL.more a2.out (by exact bel w2 _) hG3 (by simp);obtain⟨a3,n3,c3,rfl⟩:=a1.out.form;have b4:=aC a1;clear a1 hG3;go_wp2;go_roundw
   case rel=>exact⟨q+1,zs++[k]++[y],true,_,by go_num,rfl,rfl,by omega,a9.out,by have:=HN.out.2;simp;omega,by have:=HY.out.2;(rw [zA (by decide),zB a6]at this);exact this,b4.out⟩
   simp[intOf];omega
  have b7:q=ks.length:=by omega
  have b0:¬ks.any (λy=>decide (y=k))=true:=λh=>hno k (by rw[b7,take_length];exact uZ.1 h) rfl;have a4:dW ks k=if d=true then zs else zs++[k]:=by unfold dW;rw[zA b0,<-hre,b7,drop_length];rfl
  have HD:=aC a4;obtain⟨ax,nx,cx,rfl⟩:=hal.out.form;clear hre hno hzl hal a4 b0;rcases d with _|_
  .go_wp2_with(at_builtin;refine oM rfl _ _ rfl (w.heap.size+1) (.slice ax nx cx) (.slice (some ⟨_,0,none⟩) 1 1) zs [k] rfl (by go_simp) (AL.out (AL.later HL.out (by exact bel wr _))) (dZ (t:=61) (Blk.new _ _ _) rfl (by decide) (jV rfl)) (by have:=HN.out.2;simp;omega) (by simp;omega) ?_)
   intro v' w2 hG;have a0:AL w k (zs++[k]) v' w2:=AL.more HL.out (by exact bel wr _) hG (by simp);obtain⟨a',n',c',rfl⟩:=a0.out.form;have a2:=aC a0;clear a0 hG;go_wp2;go_ret;refine⟨a2.out.below,(.slice a' n' c'),rfl,?_⟩;have:=HD.out;rw[zA (by decide)]at this;rw[this];exact a2.out.out.mono (by omega)
  go_wp2;go_ret;refine⟨HL.out.below.trans ((bel wr _).mono b1),(.slice ax nx cx),rfl,?_⟩;have:=HD.out
  first|rw[zB rfl]at this|rw[zB trivial]at this
  rw[this];exact(HL.out.out.keep (Keep.of_below (bel wr _) (λ_=>False)) (λ_ _ h=>h)).mono (by omega)
end
theorem pI {ks:List PKey} {k:PKey}:(dW ks k).length<=ks.length+1:=by
 unfold dW;split
 .omega
 rw[qB,jY];exact zC _
theorem xU:∀(l ks:List PKey),(l.foldl dW ks).length<=ks.length+l.length
 |[],ks=>by simp
 | k::r,ks=>by have h1:=xU r (dW ks k);have h2:=pI (ks:=ks) (k:=k);rw[foldl_cons,zK];omega
theorem tW (S:PSt):∀(ns:List ByteArray) (a:Int) (th:List Int),(aP S ns a th).2.2.length<=th.length+ns.length
 |[],a,th=>by simp[aP]
 | n ::r,a,th=>by
   unfold aP;split
   .simp
   split
   .split
    .simp<;>omega
    have:=tW S r (aW S a n) (th++[a]);simp at this |-;omega
   simp
def bBF (d:Int):PKey:=⟨d,⟨#[46]⟩⟩
structure TL (w:World) (B:Nat) (zs:List PKey) (vx:Value) (wr:World):Prop where
 below:Bl w wr
 out:OwnP B wr 61 2 vx (zs.map PKey.cells)
theorem TL.later {w:World} {B:Nat} {zs:List PKey} {vx:Value} {wr w':World} (h:TL w B zs vx wr) (hb:Bl wr w'):TL w B zs vx w':=
 ⟨h.below.trans (hb.mono h.below.size),h.out.below hb⟩
theorem aPH (S:PSt) (iv ov mv:Value) (ks:List PKey) (va:Value) (p:ByteArray) (B:Nat) (w:World) (h:StRead w iv ov mv S) (hf:FineR S) (ha:OwnP B w 61 2 va (ks.map PKey.cells)) (hB:B<=w.heap.size) (hl:ks.length<=1000):
 Calls prog 44 #[.agg #[iv,ov,mv],va,p] w λe w'=>Bl w w'/\∃v,e=.returned v/\OwnP B w' 61 2 v (((nO S p).foldl dW ks).map PKey.cells):=by
 have a1:∀ww,Calls prog 82 #[p] ww _:=λww=>tV p ww;have a2:=kU p;have a4:∀(zs:List PKey) (d:Int) v ww,zs.length<=100000->B<=ww.heap.size->OwnP B ww 61 2 v (zs.map PKey.cells)->Calls prog 42 #[v,.agg #[d,.string ⟨#[46]⟩]] ww _:=λzs d v ww hz hb hv=>aWV zs (bBF d) v B ww hv hb (by show(⟨#[46]⟩:ByteArray).size<=1000000;decide) (by omega);have a9:∀v ww (ns:List ByteArray),ns.length<=4->Bl w ww->RowAt ww 1 v (ns.map λn=>[.string n])->Calls prog 83 #[.agg #[iv,ov,mv],v] ww _:=λv ww ns hl hb hv=>xV S iv ov mv v ns ww (h.below hb (zC _)) hf hv (by omega);unfold nO;rw[<-eW];generalize bU p=F at a1 a2 |-;obtain⟨c,ns⟩:=F;simp only at a1 a2 |-;obtain⟨a0,n0,c0,rfl⟩:=ha.form;have HO:=bG ha hB;clear ha;by_cases hc:c=0;rotate_left
 .rw[zB (.inl hc)];have b7:(c !=0)=true:=by simpa using hc
  clear a9 h a4;go_in;go_wp2_with(go_at_call 82;refine(a1 _).mono ?_;rintro e w1 ⟨v,rfl,hb1,hO1⟩;have b8:=hO1.one;have iB:Bel w w1:=⟨(bel w _).trans (hb1.mono (bel w _).size)⟩;clear hO1 hb1);go_ret;exact⟨bel _ _,_,rfl,HO.out.1.below (bel _ _)⟩
 subst hc;by_cases hns:ns=[]
 .subst hns;rw[zB (.inr rfl)];clear a9 h a4
  go_in;go_wp2_with(go_at_call 82;refine(a1 _).mono ?_;rintro e w1 ⟨v,rfl,hb1,hO1⟩;obtain⟨a,cap,rfl,-⟩:=hO1.cap;have iB:Bel w w1:=⟨(bel w _).trans (hb1.mono (bel w _).size)⟩;clear hO1 hb1);go_ret;exact⟨bel _ _,_,rfl,HO.out.1.below (bel _ _)⟩
 rw[zA (by simp[hns])];have b9:0<ns.length:=length_pos_iff.2 hns;have a5:∀v ww,Bl w ww->RowAt ww 1 v (ns.dropLast.map λn=>[.string n])->Calls prog 83 #[.agg #[iv,ov,mv],v] ww _:=λv ww hb hv=>a9 v ww ns.dropLast (by rw[length_dropLast];omega) hb hv;have b2:(aP S ns.dropLast 1 []).2.2.length<=4:=by have:=tW S ns.dropLast 1 [];rw[length_dropLast]at this;simp only[yX]at this;omega
 generalize aP S ns.dropLast 1 []=W at a5 b2 |-;obtain⟨num,C,dirs⟩:=W;simp only at a5 b2 |-;obtain⟨m,hm⟩:∃m,ns.length=m+1:=⟨ns.length-1,by omega⟩;have b3:ns.dropLast=ns.take m:=by rw[dropLast_eq_take,hm];rfl
 obtain⟨L,hLn⟩:∃L,ns.length=L:=⟨_,rfl⟩;obtain⟨ai,ni,ci,ao,no,co,am,nm',cm,rfl,rfl,rfl⟩:=h.slices;have hw:∀ww a cap,Bl w ww->RowAt ww 1 (.slice a L cap) (ns.map λn=>[.string n])->Calls prog 83 #[.agg #[.slice ai ni ci,.slice ao no co,.slice am nm' cm],.slice a m cap] ww _:=λww a cap hb hv=>a5 _ ww hb (by rw[b3,map_take];subst hLn;exact hv.take m (by rw[lM];omega));generalize hR:(dirs.map (λd=>(⟨d,⟨#[46]⟩⟩:PKey))++if C=0 then[(⟨num,⟨#[46]⟩⟩:PKey)]else[]).foldl dW ks=R;have HP:=eK a1 hw a4;have HM:=jj6 hm a2 hLn hR b2 hl;clear a1 hw a9 a5 h b3 a2 hf hns b9 hR hl a4;have c1:((L:Int)==0)=false:=by simp;omega
 have c2:¬((L:Int)=0):=by omega
 have c4:(L:Int)-1=m:=by omega
 clear hm hLn;go_in;go_upto_region 4 with(go_at_call 82;refine(HP.out.1 _).mono ?_;rintro e w1 ⟨v,rfl,hb1,ho1⟩;have b4:=ho1.row;obtain⟨gn,cap,hv,hc1,hc2⟩:=ho1.some_ (by rw[lM];show 0<ns.length;have:=HM.out;omega);rw[lM]at hv hc1;rw[show List.length ((0:Int),ns).2=L from HM.out.2.2.1]at hv hc1;subst hv;have b0:Bel w w1:=⟨(bel w _).trans (hb1.mono (bel w _).size)⟩;have b5:∀ww,Bl w1 ww->Calls prog 83 #[.agg #[.slice ai ni ci,.slice ao no co,.slice am nm' cm],.slice gn m cap] ww _:=λww hb=>HP.out.2.1 ww _ cap (b0.below.trans (hb.mono b0.below.size)) (b4.below hb (zC _));have q0:w1.cell? w.heap.size=some (.slice ai ni ci):=(hb1.cell (by simp)).trans (by go_simp);have q1:w1.cell? ⟨w.heap.size,1,none⟩=some (.slice ao no co):=(hb1.cell (by simp)).trans (by go_simp);have q2:w1.cell? ⟨w.heap.size,2,none⟩=some (.slice am nm' cm):=(hb1.cell (by simp)).trans (by go_simp);have iL:BlockLt w.heap.size w1:=⟨by have:=hb1.size;simp at this;omega⟩;have c5:IntKind.i64.wrap (m:Int)=m:=I64.wrap ⟨by omega,by have:=HM.out;omega⟩;have c6:m<=cap:=(by have:=HM.out;omega);have H1:=aC b0.below;clear hb1 b4 ho1)
 refine aH [6] true (λw'=>w'.cell? w.heap.size=some (.slice ai ni ci)/\w'.cell? ⟨w.heap.size,1,none⟩=some (.slice ao no co)/\w'.cell? ⟨w.heap.size,2,none⟩=some (.slice am nm' cm)) (by kernel_rfl) (by kernel_rfl) ?_ ?_
 · (try dsimp only);(repeat' apply And.intro)<;>go_simp
 repeat
  apply aI0 rfl rfl
  focus
   rintro w' ⟨s0,s1,s2⟩;go_simp
   first|done|rfl
  simp only[Act.put,sA,sZ,sS]
 refine bA rfl rfl ?_;refine aR 83 #[.agg #[.slice ai ni ci,.slice ao no co,.slice am nm' cm],.slice gn m cap] ?_ ((b5 w1.drew (bel w1 _)).mono ?_)
 focus
  go_simp
  first|done|rfl
 rintro e w2 ⟨tv,rfl,hb2,ho2⟩;obtain⟨ad,nd,cd,rfl⟩:=ho2.form;have a7:=ho2.row;clear ho2;have c7:Bel w w2:=⟨(bel w w1.drew).trans (hb2.mono (bel w w1.drew).size)⟩;obtain⟨p2,rfl⟩:=hb2.rest;clear hb2;refine⟨_,rfl,.inl ?_,?_⟩
 · (try dsimp only);(repeat' apply And.intro)<;>go_simp
 simp only[Act.put,sA,sZ,sS]
 repeat
  apply aI0 rfl rfl
  focus
   rintro w' ⟨s0,s1,s2⟩;go_simp
   first|done|rfl
  simp only[Act.put,sA,sZ,sS]
 refine aS ?_;go_upto_region 5 with fail;refine aD (F:=λW=>Bl w W/\RowAt W 1 (.slice ad nd cd) (dirs.map aL)) ⟨H1.out.trans ((bel w1 _).mono H1.out.size),a7.below (bel _ _) (zC _)⟩ ?_;intro wA hA;obtain⟨ad',cd',e,hat⟩:=hA.2.at_;rw[lM]at e;cases e;have HA:=aC hA.1;have HD:=aC hat;have iA:Bel w wA:=⟨hA.1⟩;have b1:=hA.1.size;generalize hT:(if C=0 then[(⟨num,⟨#[46]⟩⟩:PKey)]else[])=T at HM;clear hA hat a7 q0 q1 q2 b5 b0 c7 H1 iL c5 c6 hc1 hc2 c1 c2 c4;go_wp2
 go_loopw[1,12] (λv1 vi wr=>∃(q:Nat) (zs:List PKey),vi=.int .i64 q/\q<=dirs.length/\zs.length<=1000+q/\((dirs.drop q).map (λd=>(⟨d,⟨#[46]⟩⟩:PKey))++T).foldl dW zs=R/\TL wA B zs v1 wr) (λ_ vi _=>(dirs.length-intOf vi).toNat)
 case atStart=>exact⟨0,ks,rfl,by omega,by have:=HM.out;omega,HM.out.2.2.2.1,bel wA _,(HO.out.1.below HA.out).below (bel wA _)⟩
 obtain⟨q,zs,rfl,hq,hz,hre,hal⟩:=hrel;have iB:Bel wA wr:=⟨hal.below⟩;have a8:=hal.below.size;obtain⟨az,nz,cz,rfl⟩:=hal.out.form;have HL:=aC hal;by_cases hlt:q<dirs.length
 .obtain⟨d,hd⟩:∃d,dirs[q]? =some d:=⟨_,gE hlt⟩
  obtain⟨bd,offd,rfl,iE0,iE,hce⟩:=HD.out wr hal.below q (aL d) (by rw[gM,hd];rfl);have e0:=hce 0 _ rfl;rw[zN,Nat.mul_one]at e0;have b6:dirs.drop q=d::dirs.drop (q+1):=by obtain⟨h1,h2⟩:=gI.1 hd;rw[yH h1,h2]
  rw[b6,xB,cons_append,foldl_cons]at hre;have g1:(q:Int)<dirs.length:=by omega
  have HR:=aC hre;clear hce hal hre b6 hd;go_wp2_with(go_at_call 42;refine(HP.out.2.2 zs d _ _ (by omega) (zD HO.out.2 (zD b1 (zD a8 (bel wr _).size))) (HL.out.out.below (bel wr _))).mono ?_;rintro e w3 ⟨hb3,v3,rfl,ho3⟩;obtain⟨a3,n3,c3,rfl⟩:=ho3.form;have H3:=aC ho3;clear ho3;obtain⟨p3,rfl⟩:=hb3.rest;clear hb3);go_roundw
  case rel=>exact⟨q+1,_,by go_num,by omega,zD pI (by omega),HR.out,HL.out.below.trans ((bel wr _).mono a8),H3.out⟩
  simp[intOf];omega
 have g1:¬(q:Int)<dirs.length:=by omega
 rw[drop_eq_nil_of_le (by omega),map_nil,nil_append]at hre;have HR:=aC hre;clear hre hal;by_cases hC:C=0
 .subst hC;have a6:=hT.symm;rw[zB rfl]at a6;have HT:=aC a6;clear hT a6;go_wp2_with(go_at_call 42;refine(HP.out.2.2 zs num _ _ (by omega) (zD HO.out.2 (zD b1 (zD a8 (bel wr _).size))) (HL.out.out.below (bel wr _))).mono ?_;rintro e w3 ⟨hb3,v3,rfl,ho3⟩;obtain⟨a3,n3,c3,rfl⟩:=ho3.form;have H3:=aC ho3;clear ho3;obtain⟨p3,rfl⟩:=hb3.rest;clear hb3)
  go_ret;refine⟨HA.out.trans ((HL.out.below.trans ((bel wr _).mono a8)).mono b1),_,rfl,?_⟩;have h4:=HR.out;rw[HT.out]at h4;rw[<-h4];exact H3.out
 have b7:(C==0)=false:=by simpa using hC
 have a6:=hT.symm;rw[zA hC]at a6;have HT:=aC a6;clear hT a6;go_wp2;go_ret;refine⟨HA.out.trans ((HL.out.below.trans ((bel wr _).mono a8)).mono b1),_,rfl,?_⟩;have h4:=HR.out;rw[HT.out]at h4;rw[<-h4];exact HL.out.out.below (bel wr _)
section
theorem sI (S:PSt) (p:ByteArray):(bL S p).2.1.size<=1000000:=by
 unfold bL;rw[eW];split
 .exact Nat.zero_le 1000000
 rcases hg:(aA p).2.getLast? with _|l
 .exact Nat.zero_le 1000000
 have:=uO p l (mem_of_getLast? hg);simp only;split
 .exact Nat.zero_le 1000000
 split
 .split
  .show l.size<=_;omega
  exact Nat.zero_le 1000000
 exact Nat.zero_le 1000000
theorem aCP (S:PSt) (p:ByteArray):(nO S p).length<=10:=by
 have h1:=kU p;rw[eW]at h1;have h2:=tW S (aA p).2.dropLast 1 [];rw[length_dropLast,yX]at h2;unfold nO;split
 .exact Nat.zero_le 10
 rw[lP,lM];have:∀(q:Prop) [Decidable q] (x:PKey),(if q then[x]else[]).length<=1:=λq _ x=>by split<;>simp
 have h3:=this ((aP S (aA p).2.dropLast 1 []).2.1=0) ⟨(aP S (aA p).2.dropLast 1 []).1,⟨#[46]⟩⟩;omega
structure KL (w:World) (iv ov mv:Value) (c:PCall) (ks:List PKey) (vx:Value) (wr:World):Prop where
 below:Bl w wr
 box:Blk wr w.heap.size #[iv,ov,mv] 26
 call:Blk wr (w.heap.size+1) #[c.kind,c.core,c.fd,c.off,c.num,c.path,c.path2,c.data] 28
 out:OwnP w.heap.size wr 61 2 vx (ks.map PKey.cells)
variable {c:PCall} {iv mv ov vx:Value} {ks:List PKey} {w wr:World}
theorem KL.next {zs:List PKey} {vy:Value} {w':World} (h:KL w iv ov mv c ks vx wr) (hb:Bl wr w') (ho:OwnP w.heap.size w' 61 2 vy (zs.map PKey.cells)):KL w iv ov mv c zs vy w':=
 ⟨h.below.trans (hb.mono h.below.size),h.box.below hb h.box.lt.lt,h.call.below hb h.call.lt.lt,ho⟩
theorem KL.facts (h:KL w iv ov mv c ks vx wr):wr.cell? w.heap.size=some iv/\wr.cell? ⟨w.heap.size,1,none⟩=some ov/\wr.cell? ⟨w.heap.size,2,none⟩=some mv/\wr.cell? ⟨w.heap.size+1,0,none⟩=some (.int .i64 c.kind)/\wr.cell? ⟨w.heap.size+1,1,none⟩=some (.int .i64 c.core)/\wr.cell? ⟨w.heap.size+1,2,none⟩=some (.int .i64 c.fd)/\wr.cell? ⟨w.heap.size+1,5,none⟩=some (.string c.path)/\wr.cell? ⟨w.heap.size+1,6,none⟩=some (.string c.path2)/\BlockLt w.heap.size wr/\BlockLt (w.heap.size+1) wr/\Bel w wr/\w.heap.size<=wr.heap.size:=
 ⟨h.box.cell 0,h.box.cell 1,h.box.cell 2,h.call.cell 0,h.call.cell 1,h.call.cell 2,h.call.cell 5,h.call.cell 6,h.box.lt,h.call.lt,⟨h.below⟩,h.below.size⟩
theorem aGN (l m:List PKey) (ks:List PKey):(l++m).foldl dW ks=m.foldl dW (l.foldl dW ks):=foldl_append
theorem aYT (iv ov mv:Value) (S:PSt) (c:PCall) (w:World) (h:StRead w iv ov mv S) (hwf:S.wf):
 Calls prog 13 #[.agg #[iv,ov,mv],c.val] w λe w'=>Bl w w'/\∃v,e=.returned v/\OwnP w.heap.size w' 61 2 v ((wG S c).map PKey.cells):=by
 have a1:=fun(ww:World) (hb:Bl w ww)=>aWG iv ov mv S c ww (h.below hb (zC _)) hwf;have hS:=h;obtain⟨ai,ni,ci,ao,no,co,am,nm',cm,rfl,rfl,rfl⟩:=h.slices;unfold PCall.val at a1 |-;rcases hT:fS S c with _|_
 .have hR:wG S c=[]:=by unfold wG;rw[hT];rfl
  rw[hR];rw[hT]at a1;clear h hS hwf hT hR;go_in;go_wp2_with(go_at_call 41;refine aE (a1 _ (bel _ _)) λp=>?_);go_ret;exact⟨bel _ _,_,rfl,.inl ⟨rfl,rfl⟩⟩
 rw[hT]at a1;have a2:wG S c=(aAP S c).foldl dW [⟨-1-c.core,⟨#[]⟩⟩]:=by unfold wG;rw[zB hT]
 have b9:c.kind=0\/c.kind=1\/c.kind=2\/c.kind=3\/c.kind=5\/c.kind=6\/c.kind=8\/c.kind=9\/c.kind=10\/c.kind=11:=by
  unfold fS at hT;split at hT
  .cases hT
  split at hT
  .omega
  split at hT
  .omega
  cases hT
 have b7:(lX S c).2.code=0/\cS S=true:=by
  unfold fS at hT;split at hT
  .cases hT
  rename_i h1;refine⟨Decidable.of_not_not λe=>h1 (.inl e),?_⟩;rcases hm:cS S with _|_
  .exact absurd (.inr hm) h1
  rfl
 obtain⟨_,hcore0,hcore1⟩:=lY (aHV b7.1).1;have M:=pX hwf b7.2;have hf:=M.fineR;have h8:=M.cores;obtain⟨k,hk⟩:∃k:Nat,c.core=k:=⟨c.core.toNat,by omega⟩;obtain⟨m,hm⟩:∃m,S.made[k]? =some m:=⟨_,gE (by omega)⟩;have a7:=M.made m (mG hm);have c4:k<8:=by omega
 obtain⟨⟨D1,n1,C1⟩,hP1⟩:∃X,bL S c.path=X:=⟨_,rfl⟩;obtain⟨⟨D2,n2,C2⟩,hP2⟩:∃X,bL S c.path2=X:=⟨_,rfl⟩;obtain⟨⟨num,C0⟩,hF⟩:∃X,eX S c.path=X:=⟨_,rfl⟩;obtain⟨fd,hfdr⟩:∃X,nR S c.core c.fd=X:=⟨_,rfl⟩;have c7:n1.size<=1000000:=by have:=sI S c.path;rw[hP1]at this;exact this
 have c8:n2.size<=1000000:=by have:=sI S c.path2;rw[hP2]at this;exact this
 have c9:=c43 (c:=c.core) (f:=c.fd) hS hwf.2.1 hfdr;have a8:=c45 hS hf hP1;have a9:=c45 hS hf hP2;have d0:=c46 hS hf hF;have b8:∀(q:ByteArray) (zs:List PKey) (v:Value) (ww:World),zs.length<=1000->Bl w ww->OwnP w.heap.size ww 61 2 v (zs.map PKey.cells)->Calls prog 44 #[.agg #[.slice ai ni ci,.slice ao no co,.slice am nm' cm],v,q] ww _:=λq zs v ww hz hb hv=>aPH S _ _ _ zs v q w.heap.size ww (hS.below hb (zC _)) hf hv hb.size hz;have d1:∀(x:PKey) (zs:List PKey) (v:Value) (ww:World),zs.length<=1000->x.name.size<=1000000->Bl w ww->OwnP w.heap.size ww 61 2 v (zs.map PKey.cells)->Calls prog 42 #[v,.agg #[x.num,x.name]] ww _:=λx zs v ww hz hx hb hv=>aWV zs x v w.heap.size ww hv hb.size hx (by omega);have b0:=fun(d:Int) (n:ByteArray) (hn:n.size<=1000000) ww=>aWA d n hn ww;have d2:∀n,(cG n).size<=1000000:=λn=>by show(2:Nat)<=_;decide
 have d3:=hS.2.1;have d4:wE S c.path=⟨D1,cG n1⟩:=by unfold wE;rw[hP1]
 have d5:wE S c.path2=⟨D2,cG n2⟩:=by unfold wE;rw[hP2]
 have d6:(eX S c.path).1=num:=by rw[hF]
 have d7:=aCP S c.path;have d8:=aCP S c.path2;unfold aAP at a2;rw[d4,d5,hfdr]at a2;have b5:=xU (nO S c.path) [⟨-1-c.core,⟨#[]⟩⟩];rw[length_singleton]at b5;have b6:aFL S c=if c.kind=0\/c.kind=1 then 2+(k:Int)+8*m else num:=by unfold aFL;rw[d6,hk,zJ,zG,hm];rfl
 rw[b6]at a2;obtain⟨T1,hT1e⟩:∃T,nO S c.path=T:=⟨_,rfl⟩;obtain⟨T2,hT2e⟩:∃T,nO S c.path2=T:=⟨_,rfl⟩;have a4:=b8 c.path;have a5:=b8 c.path2;rw[hT1e]at a4 a2 d7 b5;rw[hT2e]at a5 a2 d8;generalize wG S c=R at a2 |-;obtain⟨o1,ho1⟩:∃o,o=(⟨-1-c.core,⟨#[]⟩⟩:PKey):=⟨_,rfl⟩;rw[<-ho1]at a2 b5;have e3:IntKind.i64.wrap (-1-c.core)=-1-c.core:=I64.wrap (by unfold I64;omega);obtain⟨K1,hK1⟩:∃K,T1.foldl dW [o1]=K:=⟨_,rfl⟩;obtain⟨K2,hK2⟩:∃K,T2.foldl dW K1=K:=⟨_,rfl⟩;have d9:=xU T2 K1;rw[hK1]at b5;rw[hK2]at d9;have b1:K1.length<=11:=by omega
 have b2:K2.length<=21:=by omega
 have b3:∀(K:List PKey) (n:Nat) x,K.length<=n->n<900->(dW K x).length<=1000:=λK n x h1 h2=>by have:=pI (ks:=K) (k:=x);omega
 have b4:∀x y,(dW (dW K2 x) y).length<=1000:=λx y=>by have h1:=pI (ks:=dW K2 x) (k:=y);have h2:=pI (ks:=K2) (k:=x);omega
 have HB:=lE b1 b2 b3 b4;have HK:=bG hK1 hK2;have HC:=jj7 c9 a8 a9 d0 a4 a5 d1;have HN:=eK c7 c8 d2;have HR:=aC a2;have HM:=nV d3 hm hk a7 c4;have HO:=aC ho1;clear hS h hwf hT b7 hcore0 hcore1 M hf h8 hk hm a7 c4 hP1 hP2 hF hfdr c7 c8 c9 a8 a9 d0 b8 a4 a5 d1 d2 d3 d4 d5 d6 d7 d8 a2 b5 d9 b6 hT1e hT2e ho1 hK1 hK2 b1 b2 b3 b4;go_in;go_upto_region 4 with(go_at_call 41;refine aE (a1 _ (bel _ _)) λp=>?_)
 refine aD (F:=λW=>KL w (.slice ai ni ci) (.slice ao no co) (.slice am nm' cm) c [o1] (.slice (some ⟨w.heap.size+1+1+p.len,0,none⟩) 1 1) W) ?_ ?_
 .refine⟨bel w _,(((Blk.new w _ 26).alloc _).junk _).alloc _,((Blk.new_i (w.alloc (.cells _ 26)) _ 28 _).junk _).alloc _,.inr ⟨w.heap.size+1+1+p.len,1,#[.int .i64 (-1-c.core),.string ⟨#[]⟩],rfl,by omega,Blk.new_i _ _ 61 _,zC _,by decide,rfl,?_⟩⟩;rw[HO.out];exact jV rfl
 generalize w.heap.size+1+1+p.len=g1;intro wA hA;have HA:=aC hA;obtain⟨k0,k1,k2,c0,c1,c2,c5,c6,ik,ic,iB,hle⟩:=hA.facts;clear hA a1;have a6:(c.kind=3\/c.kind=5\/c.kind=6)\/(c.kind=0\/c.kind=1\/c.kind=2\/c.kind=8\/c.kind=9\/c.kind=10\/c.kind=11):=by omega
 rcases a6 with a6|a6
 .have a0:R=dW [o1] ⟨fd,⟨#[]⟩⟩:=by
   have h:=HR.out;rw[zB (by omega)]at h;exact h
  rcases a6 with hk|hk|hk
  all_goals
   go_wp2_with(first|(go_at_call 43;refine aE (HC.out.1 _ (bel w _)) λp=>?_)|(go_at_call 42;refine(HC.out.2.2.2.2.2.2 ⟨fd,⟨#[]⟩⟩ _ _ _ (by simp) (Nat.zero_le 1000000) (bel w _) (HA.out.out.below (bel _ _))).mono ?_;rintro e w3 ⟨hb3,v3,rfl,ho3⟩;obtain⟨a3,n3,c3,rfl⟩:=ho3.form;have H3:=aC ho3;clear ho3;obtain⟨p3,rfl⟩:=hb3.rest;clear hb3));go_ret;refine⟨HA.out.below.trans ((bel _ _).mono hle),_,rfl,?_⟩;rw[a0]
   (try simp only[<-World.junk_junk]);exact H3.out.below (bel _ _)
 have f3:(c.kind==3)=false:=by simp;omega
 have f5:(c.kind==5)=false:=by simp;omega
 have f6:(c.kind==6)=false:=by simp;omega
 go_upto_region 9 with(first|(go_at_call 44;refine(HC.out.2.2.2.2.1 _ _ _ (by simp) (bel w _) (HA.out.out.below (bel _ _))).mono ?_;rintro e w3 ⟨hb3,v3,rfl,ho3⟩;obtain⟨a3,n3,c3,rfl⟩:=ho3.form;have H3:=aC ho3;clear ho3;obtain⟨p3,rfl⟩:=hb3.rest;clear hb3)|(go_at_call 45;refine aE (HC.out.2.1 _ (bel w _)) λp=>?_)|(go_at_call 46;refine aE (HC.out.2.2.2.1 _ (bel w _)) λp=>?_))
 refine aD (F:=λW=>KL w (.slice ai ni ci) (.slice ao no co) (.slice am nm' cm) c (T1.foldl dW [o1]) (.slice a3 n3 c3) W) (HA.out.next (bel _ _) (by have h:=H3.out;(try simp only[<-World.junk_junk]at h |-);exact h.below (bel _ _))) ?_;clear k0 k1 k2 c0 c1 c2 c5 c6 ik ic iB hle;intro wB hB;clear HA H3;have HA:=aC hB;obtain⟨k0,k1,k2,c0,c1,c2,c5,c6,ik,ic,iB,hle⟩:=hB.facts;clear hB;rw[HK.out.1]at HA;clear f3 f5 f6
 go_upto_block 0 with fail
 generalize c.kind=kd at a6 c0 HR |-;go_cut [5,9] (λv5 v9 W=>∃zs z,v9=.int .i64 z/\R=dW zs ⟨z,⟨#[]⟩⟩/\zs.length<=1000/\KL w (.slice ai ni ci) (.slice ao no co) (.slice am nm' cm) c zs v5 W)
 case first=>
  rcases a6 with rfl|rfl|rfl|rfl|rfl|rfl|rfl
  iterate 2
   .have a0:R=dW (dW K1 ⟨D1,cG n1⟩) ⟨2+(k:Int)+8*m,⟨#[]⟩⟩:=by have h:=HR.out;rw[h];simp[aGN,HK.out.1,HK.out.2]
    go_upto_region 14 with fail;obtain⟨am',cm',e1,hat⟩:=HM.out.1.at_;cases e1;obtain⟨bm,om,rfl,-,iM,hcm⟩:=hat wB HA.out.below k [.int .i64 m] (by rw[gM,HM.out.2.1];rfl);have m0:=hcm 0 _ rfl;rw[zN,Nat.mul_one]at m0;have e2:(k:Int)<S.made.length:=by obtain⟨h,_⟩:=gI.1 HM.out.2.1;omega
    rw[lM]at *;have e0:=HM.out.2.2.1;obtain⟨w1,w2,w3⟩:IntKind.i64.wrap (2+(k:Int))=2+(k:Int)/\IntKind.i64.wrap (8*m)=8*m/\IntKind.i64.wrap (2+(k:Int)+8*m)=2+(k:Int)+8*m:=by have h1:=HM.out.2.2.2.1;have h2:=HM.out.2.2.2.2;exact⟨I64.wrap ⟨by omega,by omega⟩,I64.wrap ⟨by omega,by omega⟩,I64.wrap ⟨by omega,by omega⟩⟩
    rw[e0]at c1;clear hat hcm e0;refine qR ?_
    repeat(go_big_quiet_step (fail))
    refine wpQuiet_nil ?_;intro w1' hw1';obtain⟨pq,hw1'⟩:=hw1';subst hw1';go_wp2_with(first|(go_at_call 47;refine aE (b0 _ _ HN.out.1 _) λp=>?_)|(go_at_call 42;refine(HC.out.2.2.2.2.2.2 ⟨D1,cG n1⟩ _ _ _ (zD HB.out.1 (by decide)) (HN.out.2.2 _) (bel w _) (HA.out.out.below (bel _ _))).mono ?_;rintro e w3 ⟨hb3,v3,rfl,ho3⟩;obtain⟨a3,n3,c3,rfl⟩:=ho3.form;have H3:=aC ho3;clear ho3;obtain⟨p3,rfl⟩:=hb3.rest;clear hb3));go_meet;exact⟨_,_,rfl,a0,HB.out.2.2.1 _ 11 _ HB.out.1 (by decide),(HA.out.next (bel _ _) (by have h:=H3.out;(try simp only[<-World.junk_junk]at h |-);exact h.below (bel _ _)))⟩
  .have a0:R=dW K1 ⟨num,⟨#[]⟩⟩:=by have h:=HR.out;rw[h];simp[aGN,HK.out.1,HK.out.2]
   go_wp2_with fail;go_meet;exact⟨_,_,rfl,a0,zD HB.out.1 (by decide),HA.out⟩
  .have a0:R=dW (dW K2 ⟨D2,cG n2⟩) ⟨num,⟨#[]⟩⟩:=by have h:=HR.out;rw[h];simp[aGN,HK.out.1,HK.out.2]
   go_upto_region 19 with(first|(go_at_call 45;refine aE (HC.out.2.2.1 _ (bel w _)) λp=>?_)|(go_at_call 44;refine(HC.out.2.2.2.2.2.1 _ _ _ (zD HB.out.1 (by decide)) (bel w _) (HA.out.out.below (bel _ _))).mono ?_;rintro e w3 ⟨hb3,v3,rfl,ho3⟩;obtain⟨a3,n3,c3,rfl⟩:=ho3.form;have H3:=aC ho3;clear ho3;obtain⟨p3,rfl⟩:=hb3.rest;clear hb3))
   refine aD (F:=λW=>KL w (.slice ai ni ci) (.slice ao no co) (.slice am nm' cm) c (T2.foldl dW K1) (.slice a3 n3 c3) W) (HA.out.next (bel _ _) (by have h:=H3.out;(try simp only[<-World.junk_junk]at h |-);exact h.below (bel _ _))) ?_;clear k0 k1 k2 c0 c1 c2 c5 c6 ik ic iB hle;intro wB hB;clear HA H3;have HA:=aC hB;obtain⟨k0,k1,k2,c0,c1,c2,c5,c6,ik,ic,iB,hle⟩:=hB.facts;clear hB;rw[HK.out.2]at HA;go_wp2_with(first|(go_at_call 47;refine aE (b0 _ _ HN.out.2.1 _) λp=>?_)|(go_at_call 42;refine(HC.out.2.2.2.2.2.2 ⟨D2,cG n2⟩ _ _ _ (zD HB.out.2.1 (by decide)) (HN.out.2.2 _) (bel w _) (HA.out.out.below (bel _ _))).mono ?_;rintro e w3 ⟨hb3,v3,rfl,ho3⟩;obtain⟨a3,n3,c3,rfl⟩:=ho3.form;have H3:=aC ho3;clear ho3;obtain⟨p3,rfl⟩:=hb3.rest;clear hb3));go_meet;exact⟨_,_,rfl,a0,HB.out.2.2.1 _ 21 _ HB.out.2.1 (by decide),(HA.out.next (bel _ _) (by have h:=H3.out;(try simp only[<-World.junk_junk]at h |-);exact h.below (bel _ _)))⟩
  iterate 2
   .have a0:R=dW (dW K1 ⟨D1,cG n1⟩) ⟨num,⟨#[]⟩⟩:=by have h:=HR.out;rw[h];simp[aGN,HK.out.1,HK.out.2]
    go_wp2_with(first|(go_at_call 47;refine aE (b0 _ _ HN.out.1 _) λp=>?_)|(go_at_call 42;refine(HC.out.2.2.2.2.2.2 ⟨D1,cG n1⟩ _ _ _ (zD HB.out.1 (by decide)) (HN.out.2.2 _) (bel w _) (HA.out.out.below (bel _ _))).mono ?_;rintro e w3 ⟨hb3,v3,rfl,ho3⟩;obtain⟨a3,n3,c3,rfl⟩:=ho3.form;have H3:=aC ho3;clear ho3;obtain⟨p3,rfl⟩:=hb3.rest;clear hb3));go_meet;exact⟨_,_,rfl,a0,HB.out.2.2.1 _ 11 _ HB.out.1 (by decide),(HA.out.next (bel _ _) (by have h:=H3.out;(try simp only[<-World.junk_junk]at h |-);exact h.below (bel _ _)))⟩
  have a0:R=dW (dW (dW K2 ⟨D1,cG n1⟩) ⟨D2,cG n2⟩) ⟨num,⟨#[]⟩⟩:=by have h:=HR.out;rw[h];simp[aGN,HK.out.1,HK.out.2]
  go_upto_region 23 with(first|(go_at_call 45;refine aE (HC.out.2.2.1 _ (bel w _)) λp=>?_)|(go_at_call 44;refine(HC.out.2.2.2.2.2.1 _ _ _ (zD HB.out.1 (by decide)) (bel w _) (HA.out.out.below (bel _ _))).mono ?_;rintro e w3 ⟨hb3,v3,rfl,ho3⟩;obtain⟨a3,n3,c3,rfl⟩:=ho3.form;have H3:=aC ho3;clear ho3;obtain⟨p3,rfl⟩:=hb3.rest;clear hb3))
  refine aD (F:=λW=>KL w (.slice ai ni ci) (.slice ao no co) (.slice am nm' cm) c (T2.foldl dW K1) (.slice a3 n3 c3) W) (HA.out.next (bel _ _) (by have h:=H3.out;(try simp only[<-World.junk_junk]at h |-);exact h.below (bel _ _))) ?_;clear k0 k1 k2 c0 c1 c2 c5 c6 ik ic iB hle;intro wB hB;clear HA H3;have HA:=aC hB;obtain⟨k0,k1,k2,c0,c1,c2,c5,c6,ik,ic,iB,hle⟩:=hB.facts;clear hB;rw[HK.out.2]at HA;go_upto_region 24 with(first|(go_at_call 47;refine aE (b0 _ _ HN.out.1 _) λp=>?_)|(go_at_call 42;refine(HC.out.2.2.2.2.2.2 ⟨D1,cG n1⟩ _ _ _ (zD HB.out.2.1 (by decide)) (HN.out.2.2 _) (bel w _) (HA.out.out.below (bel _ _))).mono ?_;rintro e w3 ⟨hb3,v3,rfl,ho3⟩;obtain⟨a3,n3,c3,rfl⟩:=ho3.form;have H3:=aC ho3;clear ho3;obtain⟨p3,rfl⟩:=hb3.rest;clear hb3))
  refine aD (F:=λW=>KL w (.slice ai ni ci) (.slice ao no co) (.slice am nm' cm) c (dW K2 ⟨D1,cG n1⟩) (.slice a3 n3 c3) W) (HA.out.next (bel _ _) (by have h:=H3.out;(try simp only[<-World.junk_junk]at h |-);exact h.below (bel _ _))) ?_;clear k0 k1 k2 c0 c1 c2 c5 c6 ik ic iB hle;intro wB hB;clear HA H3;have HA:=aC hB;obtain⟨k0,k1,k2,c0,c1,c2,c5,c6,ik,ic,iB,hle⟩:=hB.facts;clear hB;go_wp2_with(first|(go_at_call 47;refine aE (b0 _ _ HN.out.2.1 _) λp=>?_)|(go_at_call 42;refine(HC.out.2.2.2.2.2.2 ⟨D2,cG n2⟩ _ _ _ (HB.out.2.2.1 _ 21 _ HB.out.2.1 (by decide)) (HN.out.2.2 _) (bel w _) (HA.out.out.below (bel _ _))).mono ?_;rintro e w3 ⟨hb3,v3,rfl,ho3⟩;obtain⟨a3,n3,c3,rfl⟩:=ho3.form;have H3:=aC ho3;clear ho3;obtain⟨p3,rfl⟩:=hb3.rest;clear hb3));go_meet;exact⟨_,_,rfl,a0,HB.out.2.2.2 _ _,(HA.out.next (bel _ _) (by have h:=H3.out;(try simp only[<-World.junk_junk]at h |-);exact h.below (bel _ _)))⟩
 obtain⟨zs,z,rfl,a0,hzl,hK⟩:=hcut;obtain⟨a3,n3',c3,rfl⟩:=hK.out.form;have HA:=aC hK;obtain⟨k0,k1,k2,c0,c1,c2,c5,c6,ik,ic,iB,hle⟩:=hK.facts;clear hK;go_wp2_with(go_at_call 42;refine(HC.out.2.2.2.2.2.2 ⟨z,⟨#[]⟩⟩ _ _ _ (hzl) (Nat.zero_le 1000000) (bel w _) (HA.out.out.below (bel _ _))).mono ?_;rintro e w3 ⟨hb3,v3,rfl,ho3⟩;obtain⟨a3,n3,c3,rfl⟩:=ho3.form;have H3:=aC ho3;clear ho3;obtain⟨p3,rfl⟩:=hb3.rest;clear hb3);go_ret;refine⟨HA.out.below.trans ((bel _ _).mono hle),_,rfl,?_⟩;rw[a0];exact H3.out.below (bel _ _)
end
section
def aQK:List (List Value):=mK.map PKey.cells
def PCall.arr (c:PCall):Array Value:=#[.int .i64 c.kind,.int .i64 c.core,.int .i64 c.fd,.int .i64 c.off,.int .i64 c.num,.string c.path,.string c.path2,.string c.data]
structure DK (w:World) (iv ov mv:Value) (S:PSt) (c d:PCall) (g9:Nat) (iv' ov' mv':Value) (us:List PKey) (yv:Value) (wr:World):Prop where
 below:Bl w wr
 b0:Blk wr w.heap.size #[iv,ov,mv] 26
 b1:Blk wr (w.heap.size+1) #[c.kind,c.core,c.fd,c.off,c.num,c.path,c.path2,c.data] 28
 b2:Blk wr (w.heap.size+1+1) #[d.kind,d.core,d.fd,d.off,d.num,d.path,d.path2,d.data] 28
 b9:Blk wr g9 #[iv',ov',mv'] 26
 ls:∃B,LS B wr iv' ov' mv' S
 y:∃B,Lent B wr 61 2 yv (us.map PKey.cells) aQK
variable {B B' g9 k k':Nat} {S:PSt} {a iv iv' mv mv' ov ov' u v yv:Value} {c d:PCall} {e e':TypeId} {m r r':List (List Value)} {us:List PKey} {w w' w0 w1 w2 wr:World}
theorem DK.later (h:DK w iv ov mv S c d g9 iv' ov' mv' us yv wr) (hb:Bl wr w'):DK w iv ov mv S c d g9 iv' ov' mv' us yv w':=
 ⟨h.below.trans (hb.mono h.below.size),h.b0.below hb h.b0.lt.lt,h.b1.below hb h.b1.lt.lt,h.b2.below hb h.b2.lt.lt,h.b9.below hb h.b9.lt.lt,h.ls.imp λ_ x=>x.below hb,h.y.imp λ_ x=>x.below hb⟩
def Far (v u:Value):Prop:=∀g,v.ownBlock=some g->u.ownBlock≠some g
theorem aDJ (h:OwnP B w0 e k v r) (h':OwnP B' w' e' k' u r') (hB:w0.heap.size<=B'):Far v u:=λg hg hu=>by have h1:=h.lt hg;have h2:=h'.ge hu;omega
theorem aQL (h:Lent B w0 e k u r m) (h':OwnP B' w' e' k' v r') (hB:w0.heap.size<=B'):Far v u:=λg hg hu=>by obtain⟨g',cap,rfl,_,ho⟩:=h;have h1:=ho.lt hu;have h2:=h'.ge hg;omega
theorem vU (h:OwnP B w0 e k v r) (hK:Keep (λg=>a.ownBlock=some g) w1 w2) (hf:Far a v) (hb:Bl w0 w1):OwnP B w2 e k v r:=(h.below hb).keep hK (λg hg h'=>hf g h' hg)
theorem aMP (h:Lent B w0 e k v r m) (hK:Keep (λg=>a.ownBlock=some g) w1 w2) (hf:Far a v) (hb:Bl w0 w1):Lent B w2 e k v r m:=(h.below hb).keep hK (λg hg h'=>hf g h' hg)
theorem aHU (h:Bl w w0) (hK:Keep (λg=>a.ownBlock=some g) w1 w2) (ha:OwnP w.heap.size w0 e k a r) (hb:Bl w0 w1):Bl w w2:=
 (h.trans (hb.mono h.size)).trans (hK.below (zD h.size hb.size) (λi hi h'=>by have:=ha.ge h';omega))
structure DQ (w:World) (iv ov mv:Value) (S:PSt) (c d:PCall) (g9:Nat) (iv' ov' mv':Value) (us:List PKey) (yv:Value) (K1:List PKey) (av bv:Value) (wr:World):Prop where
 dk:DK w iv ov mv S c d g9 iv' ov' mv' us yv wr
 a:OwnP w.heap.size wr 61 2 av (K1.map PKey.cells)
 b:OwnP w.heap.size wr 61 2 bv (K1.map PKey.cells)
 ab:Far av bv
 ay:Far av yv
theorem DQ.later {K1:List PKey} {av bv:Value} (h:DQ w iv ov mv S c d g9 iv' ov' mv' us yv K1 av bv wr) (hb:Bl wr w'):DQ w iv ov mv S c d g9 iv' ov' mv' us yv K1 av bv w':=
 ⟨h.dk.later hb,h.a.below hb,h.b.below hb,h.ab,h.ay⟩
structure DKR (w:World) (iv ov mv:Value) (S:PSt) (c d:PCall) (g9:Nat) (iv' ov' mv':Value) (us:List PKey) (yv:Value) (K1 K2:List PKey) (av bv wv zv:Value) (wr:World):Prop where
 q:DQ w iv ov mv S c d g9 iv' ov' mv' us yv K1 av bv wr
 wa:OwnP w.heap.size wr 61 2 wv (K1.map PKey.cells)
 ot:OwnP w.heap.size wr 61 2 zv (K2.map PKey.cells)
 aw:Far av wv
 ao:Far av zv
structure DKE (w:World) (us:List PKey) (yv:Value) (K1 K2:List PKey) (bv wv zv kv:Value) (wr:World):Prop where
 below:Bl w wr
 y:∃B,Lent B wr 61 2 yv (us.map PKey.cells) aQK
 b:OwnP w.heap.size wr 61 2 bv (K1.map PKey.cells)
 wa:OwnP w.heap.size wr 61 2 wv (K1.map PKey.cells)
 ot:OwnP w.heap.size wr 61 2 zv (K2.map PKey.cells)
 k:RowAt wr 2 kv (us.map PKey.cells)
theorem aQM (iv ov mv:Value) (S:PSt) (c d:PCall) (kv:Value) (us:List PKey) (w:World) (h:StRead w iv ov mv S) (hwf:S.wf) (hcd:c.data.size<=1000000000000000000) (hdd:d.data.size<=1000000000000000000) (hk:RowAt w 2 kv (us.map PKey.cells)) (hul:us.length<=1000000000):
 vR w 3 #[.agg #[iv,ov,mv],c.val,d.val,kv] (.bool true):=by
 have f0:=aXY iv ov mv S;have f1:=fun(ww:World) (hb:Bl w ww)=>aLC.1 _ rfl us kv ww (hk.below hb (zC _)) hul;have f4:=hk.one;obtain⟨K1,hK1⟩:∃K,jL S c=K:=⟨_,rfl⟩;obtain⟨K2,hK2⟩:∃K,jL S d=K:=⟨_,rfl⟩;have d9:∀(x:PCall) (K:List PKey),jL S x=K->∀ww,Bl w ww->Calls prog 13 #[.agg #[iv,ov,mv],x.val] ww λe w'=>Bl ww w'/\∃v,e=.returned v/\OwnP ww.heap.size w' 61 2 v (K.map PKey.cells):=λx K hx ww hb=>by have:=aYT iv ov mv S x ww (h.below hb (zC _)) hwf;rw[aRT hwf,hx]at this;exact this
 have a8:∀(x:PCall) (K:List PKey),jL S x=K->x.data.size<=1000000000000000000->∀(i o m:Value) ww,StRead ww i o m S->Calls prog 12 #[.agg #[i,o,m],x.val] ww λe w'=>Bl ww w'/\∃v,e=.returned v/\OwnP ww.heap.size w' 61 2 v (K.map PKey.cells):=λx K hx hs i o m ww hr=>by have:=aRW i o m S x ww hr hwf hs;rw[hx]at this;exact this
 have a4:=d9 c K1 hK1;have a5:=d9 d K2 hK2;have a6:=a8 c K1 hK1 hcd;have a7:=a8 d K2 hK2 hdd;have b3:∀(B:Nat) (i o m:Value) (ww:World),LS B ww i o m S->Bl w ww->vR ww 15 #[.agg #[i,o,m],.agg #[iv,ov,mv]] (.bool true):=λB i o m ww hl hb=>aXW B i o m iv ov mv S ww hl (h.below hb (zC _)) hwf;have o1:=h.1.one;have o2:=h.2.1.one;have o3:iv.oneCell'=true:=by obtain⟨_,_,_,h3,_⟩:=h;exact h3.one
 have e8:=λww=>aUJ ww;unfold PCall.val at a4 a5 a6 a7 |-;have HP:=jj7 h hk a4 a5 a6 a7 b3;clear h d9 a8 a4 a5 a6 a7 b3 hcd hdd hK1 hK2;unfold vR;go_in;go_upto_region 2 with(first|(go_at_call 10;refine(f0 _ (HP.out.1.below (bel w _) (zC _)) hwf).mono ?_;rintro e w1 ⟨hb1,iv',ov',mv',rfl,hls⟩;obtain⟨a1,n1,x1,a2,n2,x2,a3,n3,x3,rfl,rfl,rfl⟩:=hls.read.slices;have HL:=aC hls;clear hls;obtain⟨p1,rfl⟩:=hb1.rest;clear hb1)|(go_at_call 11;refine(f1 _ (bel w _)).mono ?_;rintro e w2 ⟨hb2,yv,rfl,hy⟩;obtain⟨gy,ny,hyv,hyh⟩:=hy;rw[lM]at hyv;subst hyv;have HY:=aC hyh;clear hyh;obtain⟨p2,rfl⟩:=hb2.rest;clear hb2))
 refine aD (F:=λW=>DK w iv ov mv S c d (w.heap.size+1+1+1+(p1.more p2).len) (.slice a1 n1 x1) (.slice a2 n2 x2) (.slice a3 n3 x3) us (.slice gy us.length ny) W) ?_ ?_
 .refine⟨bel w _,aB (Blk.new w #[iv,ov,mv] 26) (bel _ _),aB (Blk.new_i (w.alloc (.cells #[iv,ov,mv] 26)) #[c.kind,c.core,c.fd,c.off,c.num,c.path,c.path2,c.data] 28 (w.heap.size+1)) (bel _ _),aB (Blk.new_i ((w.alloc (.cells #[iv,ov,mv] 26)).alloc (.cells #[c.kind,c.core,c.fd,c.off,c.num,c.path,c.path2,c.data] 28)) #[d.kind,d.core,d.fd,d.off,d.num,d.path,d.path2,d.data] 28 (w.heap.size+1+1)) (bel _ _),Blk.new_i _ _ 26 _,?_,?_⟩
  .have h:=HL.out
   (try simp only[<-World.junk_junk]at h |-)
   exact⟨_,h.below (bel _ _)⟩
  have h:=HY.out.2
  (try simp only[<-World.junk_junk]at h |-)
  exact⟨_,gy,ny,by rw[lM],HY.out.1,h.below (bel _ _)⟩
 generalize w.heap.size+1+1+1+(p1.more p2).len=g9;intro wA hA;have a0:=hA.below.size;obtain⟨i9,k0,k1,k2⟩:=gN hA.b9;obtain⟨i1,c0,c1,c2,c3,c4,c5,c6,c7⟩:=bx8 hA.b1;have iB:Bel w wA:=⟨hA.below⟩;have HA:=aC hA;clear hA f0 f1 HL HY;refine aH [2,5] true (λw'=>w'.cell? g9=some (.slice a1 n1 x1)/\w'.cell? ⟨g9,1,none⟩=some (.slice a2 n2 x2)/\w'.cell? ⟨g9,2,none⟩=some (.slice a3 n3 x3)/\w'.cell? ⟨w.heap.size+1,0,none⟩=some (.int .i64 c.kind)/\w'.cell? ⟨w.heap.size+1,1,none⟩=some (.int .i64 c.core)/\w'.cell? ⟨w.heap.size+1,2,none⟩=some (.int .i64 c.fd)/\w'.cell? ⟨w.heap.size+1,3,none⟩=some (.int .i64 c.off)/\w'.cell? ⟨w.heap.size+1,4,none⟩=some (.int .i64 c.num)/\w'.cell? ⟨w.heap.size+1,5,none⟩=some (.string c.path)/\w'.cell? ⟨w.heap.size+1,6,none⟩=some (.string c.path2)/\w'.cell? ⟨w.heap.size+1,7,none⟩=some (.string c.data)) (by kernel_rfl) (by kernel_rfl) ?_ ?_
 · (try dsimp only);(repeat' apply And.intro)<;>go_simp
 repeat
  apply aI0 rfl rfl
  focus
   rintro w' ⟨s0,s1,s2,s3,s4,s5,s6,s7,s8,s9,s10⟩;go_simp
   first|done|rfl
  simp only[Act.put,sA,sZ,sS]
 refine bA rfl rfl ?_;refine aR 12 #[.agg #[.slice a1 n1 x1,.slice a2 n2 x2,.slice a3 n3 x3],.agg #[c.kind,c.core,c.fd,c.off,c.num,c.path,c.path2,c.data]] ?hr ?_
 case hr=>
  go_simp
  first|done|rfl
 obtain⟨BL,hls⟩:=HA.out.ls;refine(HP.out.2.2.2.2.1 _ _ _ wA.drew (hls.read.below (bel wA _) (zC _))).mono ?_;rintro e w5 ⟨hb5,av,rfl,ho5⟩;obtain⟨aa,na,ca,rfl⟩:=ho5.form;have b4:=HA.out.later ((bel wA wA.drew).trans (hb5.mono (bel wA wA.drew).size));have f5:Bel w w5:=⟨b4.below⟩;have f6:Bel wA w5:=⟨(bel wA wA.drew).trans (hb5.mono (bel wA wA.drew).size)⟩;obtain⟨i95,r0,r1,r2⟩:=gN b4.b9;obtain⟨i15,d0,d1,d2,d3,d4,d5,d6,d7⟩:=bx8 b4.b1;have H5:=bG b4 ho5;clear b4 ho5;refine⟨_,rfl,.inl ⟨r0,r1,r2,d0,d1,d2,d3,d4,d5,d6,d7⟩,?_⟩;simp only[Act.put,sA,sZ,sS]
 repeat
  apply aI0 rfl rfl
  focus
   rintro w' ⟨s0,s1,s2,s3,s4,s5,s6,s7,s8,s9,s10⟩;go_simp
   first|done|rfl
  simp only[Act.put,sA,sZ,sS]
 refine bA rfl rfl ?_;refine aR 12 #[.agg #[.slice a1 n1 x1,.slice a2 n2 x2,.slice a3 n3 x3],.agg #[c.kind,c.core,c.fd,c.off,c.num,c.path,c.path2,c.data]] ?hr2 ?_
 case hr2=>
  go_simp
  first|done|rfl
 obtain⟨BL5,hls5⟩:=H5.out.1.ls;refine(HP.out.2.2.2.2.1 _ _ _ w5 hls5.read).mono ?_;rintro e w6 ⟨hb6,bv,rfl,ho6⟩;obtain⟨ab,nb,cb,rfl⟩:=ho6.form;have b5:=H5.out.1.later hb6;have f7:Bel w w6:=⟨b5.below⟩;obtain⟨-,q0,q1,q2⟩:=gN b5.b9;obtain⟨-,e0,e1,e2,e3,e4,e5,e6,e7⟩:=bx8 b5.b1;have hQ:DQ w iv ov mv S c d g9 (.slice a1 n1 x1) (.slice a2 n2 x2) (.slice a3 n3 x3) us (.slice gy us.length ny) K1 (.slice aa na ca) (.slice ab nb cb) w6:=⟨b5,(H5.out.2.below hb6).mono (zD a0 (bel wA wA.drew).size),ho6.mono H5.out.1.below.size,aDJ H5.out.2 ho6 (zC _),by
  obtain⟨By,hy⟩:=HA.out.y;exact aQL hy H5.out.2 (bel wA wA.drew).size⟩
 have HQ:=aC hQ;clear b5 hQ ho6 hb6 hb5 hls hls5;refine⟨_,rfl,.inl ⟨q0,q1,q2,e0,e1,e2,e3,e4,e5,e6,e7⟩,?_⟩;simp only[Act.put,sA,sZ,sS]
 repeat
  apply aI0 rfl rfl
  focus
   rintro w' ⟨s0,s1,s2,s3,s4,s5,s6,s7,s8,s9,s10⟩;go_simp
   first|done|rfl
  simp only[Act.put,sA,sZ,sS]
 refine aS ?_;go_upto_region 3 with fail;refine aD (F:=λW=>DQ w iv ov mv S c d g9 (.slice a1 n1 x1) (.slice a2 n2 x2) (.slice a3 n3 x3) us (.slice gy us.length ny) K1 (.slice aa na ca) (.slice ab nb cb) W) HQ.out ?_;clear k0 k1 k2 c0 c1 c2 c3 c4 c5 c6 c7 r0 r1 r2 d0 d1 d2 d3 d4 d5 d6 d7 q0 q1 q2 e0 e1 e2 e3 e4 e5 e6 e7 i9 i1 i95 i15 iB f5 f6 f7 HQ H5 HA a0;intro wA hA;obtain⟨i0,k0,k1,k2⟩:=gN hA.dk.b0;obtain⟨i1,c0,c1,c2,c3,c4,c5,c6,c7⟩:=bx8 hA.dk.b1;obtain⟨i2,d0,d1,d2,d3,d4,d5,d6,d7⟩:=bx8 hA.dk.b2;have iB:Bel w wA:=⟨hA.dk.below⟩;have a0:=hA.dk.below.size;have HA:=aC hA;clear hA;go_upto_region 4 with(go_at_call 13;refine(HP.out.2.2.1 _ (bel w _)).mono ?_;rintro e w7 ⟨hb7,wv,rfl,ho7⟩;obtain⟨aw,nw,cw,rfl⟩:=ho7.form;have H7:=aC ho7;clear ho7;have e9:=hb7.size;obtain⟨p7,rfl⟩:=hb7.rest;clear hb7)
 go_upto_region 5 with(go_at_call 13;refine(HP.out.2.2.2.1 _ (bel w _)).mono ?_;rintro e w8 ⟨hb8,zv,rfl,ho8⟩;obtain⟨az,nz,cz,rfl⟩:=ho8.form;have H8:=aC ho8;clear ho8;have f8:=hb8.size;obtain⟨p8,rfl⟩:=hb8.rest;clear hb8)
 refine aD (F:=λW=>DKR w iv ov mv S c d g9 (.slice a1 n1 x1) (.slice a2 n2 x2) (.slice a3 n3 x3) us (.slice gy us.length ny) K1 K2 (.slice aa na ca) (.slice ab nb cb) (.slice aw nw cw) (.slice az nz cz) W) ?_ ?_
 .refine⟨HA.out.later (bel wA _),?_,?_,aDJ HA.out.a H7.out (zC _),aDJ HA.out.a H8.out e9⟩
  .have h:=H7.out.mono a0
   (try simp only[<-World.junk_junk]at h |-)
   exact h.below (bel _ _)
  have h:=H8.out.mono (zD a0 e9)
  (try simp only[<-World.junk_junk]at h |-)
  exact h.below (bel _ _)
 clear k0 k1 k2 c0 c1 c2 c3 c4 c5 c6 c7 d0 d1 d2 d3 d4 d5 d6 d7 i0 i1 i2 iB a0 e9 f8 HA H7 H8;intro wA hA;obtain⟨i0,k0,k1,k2⟩:=gN hA.q.dk.b0;obtain⟨i2,d0,d1,d2,d3,d4,d5,d6,d7⟩:=bx8 hA.q.dk.b2;obtain⟨i9,g0,g1,g2⟩:=gN hA.q.dk.b9;have iB:Bel w wA:=⟨hA.q.dk.below⟩;have a0:=hA.q.dk.below.size;obtain⟨BL,hls⟩:=hA.q.dk.ls;have b6:=fun(ww:World) (hb:Bl wA ww)=>wJ.1 K1 _ _ ww (hA.q.a.row.below hb (zC _)) (hA.wa.row.below hb (zC _));have a8:=fun(ww:World) (hb:Bl wA ww)=>HP.out.2.2.2.2.2.1 _ _ _ ww (hls.read.below hb (zC _));have b3:=fun(ww:World) (hb:Bl wA ww)=>HP.out.2.2.2.2.2.2 BL _ _ _ ww (hls.below hb) ((bel w wA).trans (hb.mono (bel w wA).size));have HA:=aC hA;clear hA hls;go_upto_region 7 with(first|(go_at_call 14;with_reducible refine aE (b6 _ (bel _ _)) λp=>?_)|(go_at_call 12;refine(a8 _ (bel _ _)).mono ?_;rintro e w9 ⟨hb9,v9,rfl,ho9⟩;obtain⟨a9,n9,c9,rfl⟩:=ho9.form;have H9:=aC ho9.row;clear ho9;obtain⟨p9,rfl⟩:=hb9.rest;clear hb9)|(go_at_call 14;refine(wJ.1 K2 _ _ _ (by have h:=H9.out;(try simp only[<-World.junk_junk]at h |-);exact h.below (bel _ _) (zC _)) (HA.out.ot.row.below (bel wA _) (zC _))).mono ?_;rintro e w' ⟨rfl,hb⟩;obtain⟨p,rfl⟩:=hb.rest;clear hb)|(go_at_call 15;refine aE (b3 _ (bel _ _)) λp=>?_))
 go_upto_region 8 with(go_at_call 16;refine(aWJ K1 w.heap.size _ _ (HA.out.q.a.below (bel wA _))).mono ?_;rintro e wS ⟨rfl,hK⟩)
 refine aD (F:=λW=>DKE w us (.slice gy us.length ny) K1 K2 (.slice ab nb cb) (.slice aw nw cw) (.slice az nz cz) kv W) ?_ ?_
 .obtain⟨By,hy⟩:=HA.out.q.dk.y;have f2:=aHU HA.out.q.dk.below hK HA.out.q.a (bel _ _);exact⟨f2,⟨By,aMP hy hK HA.out.q.ay (bel _ _)⟩,vU HA.out.q.b hK HA.out.q.ab (bel _ _),vU HA.out.wa hK HA.out.aw (bel _ _),vU HA.out.ot hK HA.out.ao (bel _ _),HP.out.2.1.below f2 (zC _)⟩
 clear k0 k1 k2 d0 d1 d2 d3 d4 d5 d6 d7 g0 g1 g2 i0 i2 i9 iB a0 b6 a8 b3 HA hK H9;intro wA hA;obtain⟨By,hy⟩:=hA.y;have f9:=fun(ww:World) (hb:Bl wA ww)=>wJ.1 K1 _ _ ww (hA.b.row.below hb (zC _)) (hA.wa.row.below hb (zC _));have f3:=hy.row;have b7:=fun(ww:World) (hb:Bl wA ww)=>qD K1 us _ _ ww (hA.b.row.below hb (zC _)) (f3.below hb (zC _));have b8:=fun(ww:World) (hb:Bl wA ww)=>aLW K1 us _ _ ww (hA.wa.row.below hb (zC _)) (hA.k.below hb (zC _));have c8:=fun(ww:World) (hb:Bl wA ww)=>qD K1 K2 _ _ ww (hA.wa.row.below hb (zC _)) (hA.ot.row.below hb (zC _));have d8:=fun(ww:World) (hb:Bl wA ww)=>aLW K1 K2 _ _ ww (hA.wa.row.below hb (zC _)) (hA.ot.row.below hb (zC _));have g3:=fun(ww:World) (hb:Bl wA ww)=>aLD.1 _ us _ _ ww (hy.below hb) (hA.k.below hb (zC _)) hul;generalize gH K1 us=T1 at b7 b8;generalize gH K1 K2=T2 at c8 d8;have HA:=aC hA.below;clear hA hy f3;go_wp2_with(first|(go_at_call 14;with_reducible refine aE (f9 _ (bel _ _)) λp=>?_)|(go_at_call 17;with_reducible refine aE (b7 _ (bel _ _)) λp=>?_)|(go_at_call 17;with_reducible refine aE (c8 _ (bel _ _)) λp=>?_)|(go_at_call 18;with_reducible refine aE (b8 _ (bel _ _)) λp=>?_)|(go_at_call 18;with_reducible refine aE (d8 _ (bel _ _)) λp=>?_)|(go_at_call 19;with_reducible refine aE (g3 _ (bel _ _)) λp=>?_)|(go_at_call 20;refine aE (e8 _) λp=>?_));go_ret;exact⟨rfl,HA.out.trans ((bel wA _).mono HA.out.size)⟩
end
end Go.Proofs.YtmkapobnfigedaaGreatDoor
