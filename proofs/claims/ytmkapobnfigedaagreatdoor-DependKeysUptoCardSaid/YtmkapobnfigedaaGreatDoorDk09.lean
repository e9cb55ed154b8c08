/- A part of a proof of a law. Conditions: none. -/
import Derived.Test.YtmkapobnfigedaaGreatDoorDk07
import Derived.Lib.AppendIntMem
import Derived.Test.YtmkapobnfigedaaGreatDoorProg
import Derived.Shelf.Strings.Builder1
import Derived.Shelf.Strings.Builder2
import Derived.Shelf.Strings.OnBuilder
import Derived.Shelf.Strconv.Itoa0
import Derived.Shelf.Strconv.Itoa1
import Derived.Shelf.LaysM
import Derived.Shelf.Strconv.Itoa2
import Derived.Shelf.Strconv.Itoa3
import Derived.Shelf.Slices.Turned
import Derived.Shelf.Slices.Empties2
set_option linter.unusedVariables false
set_option linter.unusedSimpArgs false
set_option maxRecDepth 100000
set_option maxHeartbeats 8000000
namespace Go.Proofs.YtmkapobnfigedaaGreatDoor
open Go.Proofs.Tryz List Go.RowKit
def oK (s but:ByteArray) (e:PEnt):Bool:=!(e.name.toList==but.toList)&&(aU e.name==aU s)
def oL (s but:ByteArray):List PEnt->Nat
 |[]=>0
 |e::r=>if oK s but e=true then oL s but r+1 else oL s but r
theorem aMT {s but:ByteArray} {es:List PEnt} {q:Nat} {e:PEnt} (h:es[q]? =some e):oL s but (es.drop q)=if oK s but e=true then oL s but (es.drop (q+1))+1 else oL s but (es.drop (q+1)):=by rw[cO h];rfl
theorem aKS (s but:ByteArray):∀es:List PEnt,oL s but es<=es.length
 |[]=>by simp[oL]
 | e::r=>by
   have:=aKS s but r;unfold oL;split<;>simp only[zK]<;>omega
def eZ (es:List PEnt) (s but:ByteArray):Bool:=decide (4<=oL s but es)
theorem aKT (bx ox:Nat) (es:List PEnt) (ev:Value) (s but:ByteArray) (w:World) (ib:BlockLt bx w) (hc:w.cell? ⟨bx,ox+2,none⟩=some ev) (he:RowAt w 2 ev (es.map PEnt.cells)) (hlen:es.length<=1000000000):
 vR w 173 #[.pointer (some ⟨bx,ox,none⟩),.string s,.string but] (.bool (eZ es s but)):=by
 have a2:∀ww (n:ByteArray),Calls prog 133 #[n] ww _:=λww n=>mP n ww;obtain⟨ae,ce,rfl,hat⟩:=he.at_;rw[lM]at hc;have HE:=aC hat;clear hat he;have a3:=aKS s but es;unfold eZ;obtain⟨N,hN⟩:∃N,oL s but es=N:=⟨_,rfl⟩;rw[hN]at a3 |-;have HN:=aC hN;clear hN;unfold vR;go_in;go_wp2
 go_loopw[7,15] (λvn vi wr=>∃(q n:Nat),vi=.int .i64 q/\vn=.int .i64 n/\q<=es.length/\n+oL s but (es.drop q)=N/\Bl w wr) (λ_ vi _=>(es.length-intOf vi).toNat)
 case atStart=>exact⟨0,0,rfl,rfl,by omega,by simpa using HN.out,bel _ _⟩
 obtain⟨q,n,rfl,rfl,hq,hre,hb⟩:=hrel;have iB:Bel w wr:=⟨hb⟩;by_cases hlt:q<es.length
 .obtain⟨e,hz⟩:∃e,es[q]? =some e:=⟨_,gE hlt⟩
  obtain⟨be,oe,rfl,iE0,iE,hce⟩:=HE.out wr hb q e.cells (by rw[gM,hz];rfl);have e0:=hce 0 _ rfl;have e1:=hce 1 _ rfl;rw[zN]at e0;rw[aMT hz]at hre;unfold oK at hre;have k1:=a2;have ew:wrap64 ((n:Int)+1)=(n:Int)+1:=by simp only[wrap64];omega
  generalize hb1:(e.name.toList==but.toList)=b1 at hre;generalize hg1:aU e.name=g1 at hre;generalize hg2:aU s=g2 at hre;have a0:∀ww,vR ww 133 #[.string e.name] (.int .i64 g1):=λww=>by rw[<-hg1];exact mP e.name ww
  have a1:∀ww,vR ww 133 #[.string s] (.int .i64 g2):=λww=>by rw[<-hg2];exact mP s ww
  clear hz hce a2 k1 hg1 hg2;rcases b1 with _|_
  .simp only[Bool.not_false,xC]at hre;generalize hg:(g1==g2)=gg at hre;rcases gg with _|_
   .simp only[zP,if_false]at hre;have HR:=aC hre;clear hre;go_wp2_with(first|(go_at_call 133;refine aE (a0 _) λp=>?_)|(go_at_call 133;refine aE (a1 _) λp=>?_))
    go_roundw
    case rel=>exact⟨q+1,n,by go_num,rfl,by omega,HR.out,bel _ _⟩
    simp[intOf];omega
   simp only[if_true]at hre;have HR:=aC hre;clear hre;go_wp2_with(first|(go_at_call 133;refine aE (a0 _) λp=>?_)|(go_at_call 133;refine aE (a1 _) λp=>?_));go_roundw
   case rel=>exact⟨q+1,n+1,by go_num,by go_num,by omega,by have:=HR.out;omega,bel _ _⟩
   simp[intOf];omega
  simp only[Bool.not_true,yJ,zP,if_false]at hre;have HR:=aC hre;clear hre;go_wp2_with(first|(go_at_call 133;refine aE (a0 _) λp=>?_)|(go_at_call 133;refine aE (a1 _) λp=>?_));go_roundw
  case rel=>exact⟨q+1,n,by go_num,rfl,by omega,HR.out,bel _ _⟩
  simp[intOf];omega
 rw[zS (by omega)]at hre;have a4:n=N:=by simpa[oL]using hre
 subst a4;clear hre;go_wp2;exact xD (v:=.bool (decide (4<=n))) (by simp[results,Tryz.results173,go_sem];omega) rfl ⟨rfl,bel _ _⟩
def PRes.val (r:PRes) (nv:Value):Value:=.agg #[r.code,r.fd,r.num,r.dir,r.data,nv]
def CP (w:World) (k:Nat) (c:PCall):Prop:=k<w.heap.size/\∀(t:Nat) (u:Value),c.cells[t]? =some u->w.cell? ⟨k,t,none⟩=some u
theorem CP.below {w w':World} {k B:Nat} {c:PCall} (h:CP w k c) (hb:Below B w w') (hB:w.heap.size<=B):CP w' k c:=by have hs:=hb.size;have hl:=h.1;exact⟨by omega,λt u hu=>(hb.cell (p:=⟨k,t,none⟩) (by show k<B;omega)).trans (h.2 t u hu)⟩
section
def Did (S:PSt) (c:PCall) (S':PSt) (r:PRes):Prop:=∀(w:World) (iv ov mv:Value),StRead w iv ov mv S->Calls prog 73 #[.agg #[iv,ov,mv],.agg #[c.kind,c.core,c.fd,c.off,c.num,c.path,c.path2,c.data]] w λe w'=>Bl w w'/\aDL w.heap.size S' r e w'
variable {N k:Nat} {w:World}
theorem CP.of_blk {c:PCall} (h:Blk w k #[c.kind,c.core,c.fd,c.off,c.num,c.path,c.path2,c.data] 28):CP w k c:=
 ⟨h.lt.lt,λt u hu=>by rw[h.cell];simpa[PCall.cells]using hu⟩
class Above (N:Nat) (a w:World):Prop where
 eq:∀k,N<=k->k<a.heap.size->w.heap[k]? =a.heap[k]?
 size:a.heap.size<=w.heap.size
instance {X X':World} {p:Behind} {n:Nat} [h:SizeIs X n] [h':SizeIs X' n]:Above X.heap.size (X.junk p) (X'.junk p):=⟨λk hk _=>by
 have e1:=h.eq;have e2:=h'.eq;simp only[World.junk];rw[Array.getElem?_append_right (by omega),Array.getElem?_append_right (by omega),e1,e2],by
 have e1:=h.eq;have e2:=h'.eq;rw[World.size_junk0,World.size_junk0,e1,e2];exact zC _⟩
instance {N:Nat} {a w:World} {o:Obj} [h:Above N a w]:Above N a (w.alloc o):=⟨λk hk hl=>by rw[RowKit.Below.heap_alloc w o k (zR hl h.size)];exact h.eq k hk hl,by have:=h.size;simp;omega⟩
instance {N:Nat} {a w:World} {q:Behind} [h:Above N a w]:Above N a (w.junk q):=⟨λk hk hl=>by rw[World.heap_junk w q (zR hl h.size)];exact h.eq k hk hl,by have:=h.size;rw[World.size_junk0];omega⟩
theorem OwnP.above {e:TypeId} {v:Value} {rows:List (List Value)} (h:OwnP N w e k v rows) (w':World) [ha:Above N w w']:OwnP N w' e k v rows:=by
 rcases h with h|⟨g,cap,cur,rfl,hg,hb,r⟩
 .exact .inl h
 exact .inr ⟨g,cap,cur,rfl,hg,(ha.eq g hg hb.lt.lt).trans hb,r⟩
theorem StOwn.above {iv ov mv:Value} {S:PSt} (h:StOwn N w iv ov mv S) (w':World) [ha:Above N w w']:StOwn N w' iv ov mv S:=by
 obtain⟨h1,h2,is,h3,h4,h5,h6⟩:=h;exact⟨h1.above w',h2.above w',is,h3.above w',h4,λq r x hr hx=>by
  obtain⟨a1,a2,a3,a4⟩:=h5 q r x hr hx;exact⟨a1,a2,a3,a4.above w'⟩,h6⟩
end
def kD (n:Nat):PSt:=⟨[⟨1,true,[],⟨#[]⟩⟩],[],List.replicate n 0⟩
theorem aCS {α:Type} (f:α->Value) (z:α) (n:Nat):madeCells #[f z] n=((List.replicate n z).map f).toArray:=by apply Array.toList_inj.1;rw[toList_madeCells_one];simp
theorem RowAt.of_blk1 {w:World} {b:Nat} {t:TypeId} (xs:List Int) (cap:Nat) (h:Blk w b (xs.map λx=>Value.int .i64 x).toArray t) (hm:xs.length<=maxLen):RowAt w 1 (.slice b xs.length cap) (xs.map aL):=by
 refine⟨_,_,by rw[lM],by rw[lM];exact hm,λ_=>⟨b,0,rfl,h.lt.lt,λq cs hq t u hu=>?_⟩⟩;rw[gM]at hq;obtain⟨x,hx,rfl⟩:=Option.map_eq_some_iff.1 hq;rcases t with _|t
 .simp only[aL,zH,zF]at hu;subst hu;rw[h.cell];simp[hx]
 simp[aL]at hu
theorem bAQ (n:Nat) (h1:1<=n) (h8:n<=8) (w:World):
 Calls prog 51 #[n] w λe w'=>∃iv ov mv,e=.returned (.tuple #[.agg #[iv,ov,mv],.int .i64 0])/\Bl w w'/\StRead w' iv ov mv (kD n):=by
 obtain⟨i0,hi,hz0,hz1,hz2⟩:=info_parts aAB;have a1:∀u:World,(Instr.makeSlice 24 (.int .i64 n) (.int .i64 n)).run prog u=.ok (.slice (some ⟨u.heap.size,0,none⟩) n n) (u.alloc (.cells ((List.replicate n (0:Int)).map λx=>Value.int .i64 x).toArray 3)):=λu=>by have:=run_makeSlice (P:=prog) u 24 3 i0 _ underlying24 hi hz0 .i64 .i64 n n (by omega) (Int.le_refl _) (by rw[hz1];omega) (by rw[hz2];omega) (by omega);rw[<-aCS (λx=>Value.int .i64 x)];simpa[hz1,Value.cells]using this
 have g1:¬(n:Int)<1:=by omega
 have g2:¬(8:Int)<n:=by omega
 go_in;go_wp2_with fail;refine xD (v:=.tuple #[.agg #[.slice (some ⟨w.heap.size+1,0,none⟩) 1 1,.slice none 0 0,.slice (some ⟨w.heap.size+1+1,0,none⟩) n n],.int .i64 0]) (by unfold results;simp only[results51];go_simp) rfl ⟨_,_,_,rfl,bel _ _,?_,?_,[⟨1,true,.slice none 0 0,⟨#[]⟩,rfl⟩],?_,rfl,?_⟩
 .exact⟨none,0,rfl,by simp[kD],λh=>absurd h (by simp[kD])⟩
 .have a0:Blk (((w.alloc (.cells #[.slice (some ⟨w.heap.size+1,0,none⟩) 1 1,.slice none 0 0,.slice (some ⟨w.heap.size+1+1,0,none⟩) n n] 26)).alloc (.cells #[.int .i64 1,true,.slice none 0 0,.string ⟨#[]⟩] 68)).alloc (.cells (Array.replicate n (.int .i64 0)) 3)) (w.heap.size+1+1) (Array.replicate n (.int .i64 0)) 3:=Blk.new_i ((w.alloc (.cells #[.slice (some ⟨w.heap.size+1,0,none⟩) 1 1,.slice none 0 0,.slice (some ⟨w.heap.size+1+1,0,none⟩) n n] 26)).alloc (.cells #[.int .i64 1,true,.slice none 0 0,.string ⟨#[]⟩] 68)) _ _ _;have:=RowAt.of_blk1 (b:=w.heap.size+1+1) (t:=3) (List.replicate n (0:Int)) n (by simpa using a0) (by rw[yP];unfold maxLen;omega);rw[yP]at this;exact this
 .refine⟨_,_,rfl,by unfold maxLen;simp,λ_=>⟨w.heap.size+1,0,rfl,by simp,λq cs hq t u hu=>?_⟩⟩;rcases q with _|q
  .simp only[xB,map_nil,zH,zF]at hq;subst hq;have hb:Blk ((((w.alloc (.cells #[.slice (some ⟨w.heap.size+1,0,none⟩) 1 1,.slice none 0 0,.slice (some ⟨w.heap.size+1+1,0,none⟩) n n] 26)).alloc (.cells #[.int .i64 1,true,.slice none 0 0,.string ⟨#[]⟩] 68))).alloc (.cells ((List.replicate n (0:Int)).map λx=>Value.int .i64 x).toArray 3)) (w.heap.size+1) #[.int .i64 1,.bool true,.slice none 0 0,.string ⟨#[]⟩] 68:=(Blk.new_i (w.alloc (.cells #[.slice (some ⟨w.heap.size+1,0,none⟩) 1 1,.slice none 0 0,.slice (some ⟨w.heap.size+1+1,0,none⟩) n n] 26)) _ _ _).alloc _;have:=(hb.cell t).trans (by simpa[IRec.cells]using hu);simpa using this
  simp at hq
 intro q r x hr hx;rcases q with _|q
 .cases hr;cases hx;exact⟨rfl,rfl,rfl,⟨none,0,rfl,by simp,λh=>absurd h (by simp)⟩⟩
 simp at hr
section
def cV (n:Int) (x:PIn):List PEnt->Nat
 |[]=>0
 |e::r=>(if (x.dir&&(e.num==n))=true then 1 else 0)+cV n x r
def dA (n:Int):List PIn->Nat
 |[]=>0
 |x::r=>cV n x x.ents+dA n r
def dO (S:PSt) (n:Int):Nat:=dA n S.ins
theorem aGV (n:Int) (x:PIn):∀es,cV n x es<=es.length
 |[]=>zC _
 | e::r=>by
   have:=aGV n x r;unfold cV;split<;>simp<;>omega
theorem aGW (n:Int):∀xs:List PIn,(∀x∈xs,x.ents.length<=1000000000)->dA n xs<=xs.length*1000000000
 |[],_=>zC _
 | x::r,h=>by have h1:=aGW n r (λy hy=>h y (zL _ hy));have h2:=aGV n x x.ents;have h3:=h x zQ;unfold dA;simp only[zK];omega
theorem aPL {S:PSt} (h:S.wf) (n:Int):dO S n<=1000000000000000000:=by have h1:=aGW n S.ins (λx hx=>(h.2.2.2.1 x hx).2.1);have h2:=h.1;have h3:S.ins.length*1000000000<=1000000000*1000000000:=Nat.mul_le_mul_right _ h2;unfold dO;omega
variable {n:Int} {q:Nat} {z:PIn}
theorem aJW {xs:List PIn} (h:xs[q]? =some z):dA n (xs.drop q)=cV n z z.ents+dA n (xs.drop (q+1)):=by rw[cO h];rfl
theorem aJX {x:PIn} {es:List PEnt} {z:PEnt} (h:es[q]? =some z):cV n x (es.drop q)=(if (x.dir&&(z.num==n))=true then 1 else 0)+cV n x (es.drop (q+1)):=by rw[cO h];rfl
theorem aLY (iv ov mv:Value) (S:PSt) (n:Int) (w:World) (h:StRead w iv ov mv S) (hwf:S.wf):
 vR w 181 #[.agg #[iv,ov,mv],.int .i64 n] (.int .i64 (dO S n)):=by
 have a5:=h.1.one;have a6:=h.2.1.one;obtain⟨ai,capi,rfl,hati⟩:=h.ins_at2;have HI:=aC hati;have a3:=aPL hwf n;have a4:=hwf.1;unfold dO at *;obtain⟨N,hN⟩:∃N,dA n S.ins=N:=⟨_,rfl⟩;rw[hN]at a3 |-;have HN:=aC hN;have HW:=aC hwf.2.2.2.1;clear h hati hN hwf;unfold vR;go_in;go_wp2
 go_loopw[5,13] (λvn vi wr=>∃(q a:Nat),vi=.int .i64 q/\vn=.int .i64 a/\q<=S.ins.length/\a+dA n (S.ins.drop q)=N/\Bl w wr) (λ_ vi _=>(S.ins.length-intOf vi).toNat)
 case atStart=>exact⟨0,0,rfl,rfl,by omega,by simpa using HN.out,bel _ _⟩
 obtain⟨q,a,rfl,rfl,hq,hre,hb⟩:=hrel
 rename World=>wo
 have iB:Bel w wo:=⟨hb⟩;by_cases hlt:q<S.ins.length
 .obtain⟨z,hz⟩:∃z,S.ins[q]? =some z:=⟨_,gE hlt⟩
  rw[aJW hz]at hre;obtain⟨bi,off,ev1,rfl,iG0,ho1,hev,hcl⟩:=HI.out q z hz;obtain⟨iGr,y0,y1,y2,y3⟩:=hcl wo hb;obtain⟨ae,ce,rfl,hat⟩:=hev.at_;rw[lM]at y2;have HE:=aC hat;have a7:=(HW.out z (mG hz)).2.1;have HR:=aC hre;clear hat hev hz hre hcl;go_wp2
  go_loopw[5,20] (λvn vi w2=>∃(k a2:Nat),vi=.int .i64 k/\vn=.int .i64 a2/\k<=z.ents.length/\a2+cV n z (z.ents.drop k)=a+cV n z z.ents/\Bl wo w2/\Blk w2 wo.heap.size #[z.num,z.dir,.slice ae z.ents.length ce,z.data] 68) (λ_ vi _=>(z.ents.length-intOf vi).toNat)
  case atStart=>exact⟨0,a,rfl,rfl,by omega,rfl,bel _ _,Blk.new _ _ _⟩
  obtain⟨k,a2,rfl,rfl,hk,hre2,hb2,hblk⟩:=hrel;have a1:Bel w wr:=⟨hb.trans (hb2.mono hb.size)⟩;have a8:Bel wo wr:=⟨hb2⟩;have z0:=hblk.cell 1;have iK:=hblk.lt;have HK:=aC hblk;by_cases hlk:k<z.ents.length
  .obtain⟨e,he⟩:∃e,z.ents[k]? =some e:=⟨_,gE hlk⟩
   rw[aJX he]at hre2;obtain⟨be,offe,rfl,iE0,iE,hce⟩:=HE.out wr a1.below k e.cells (by rw[gM,he];rfl);have e0:=hce 0 _ rfl;have e1:=hce 1 _ rfl;rw[zN]at e0;have a9:a2+1<=1000000000000000001:=by have:=HR.out;omega
   have ew:wrap64 ((a2:Int)+1)=(a2:Int)+1:=by simp only[wrap64];omega
   generalize hd:z.dir=dd at *;generalize hg:(e.num==n)=gg at hre2;have a0:=aC hre2;clear hre2 hce he hblk;rcases dd with _|_<;>rcases gg with _|_
   .go_wp2
    go_roundw
    case rel=>exact⟨k+1,a2,by go_num,rfl,by omega,by have:=a0.out;simpa using this,bel _ _,(HK.out.alloc _)⟩
    simp[intOf];omega
   .go_wp2
    go_roundw
    case rel=>exact⟨k+1,a2,by go_num,rfl,by omega,by have:=a0.out;simpa using this,bel _ _,(HK.out.alloc _)⟩
    simp[intOf];omega
   .go_wp2
    go_roundw
    case rel=>exact⟨k+1,a2,by go_num,rfl,by omega,by have:=a0.out;simpa using this,bel _ _,(HK.out.alloc _)⟩
    simp[intOf];omega
   go_wp2;go_roundw
   case rel=>exact⟨k+1,a2+1,by go_num,by go_num,by omega,by have:=a0.out;simp at this;omega,bel _ _,(HK.out.alloc _)⟩
   simp[intOf];omega
  rw[zS (by omega)]at hre2;clear hblk;go_wp2;go_roundw
  case rel=>exact⟨q+1,a2,by go_num,rfl,by omega,by have:=HR.out;have e:a2+cV n z []=_:=hre2;simp only[cV]at e;omega,a1.below⟩
  simp[intOf];omega
 rw[zS (by omega)]at hre;have e:a=N:=by simpa[dA]using hre
 clear hre;subst e;go_wp2;go_ret;exact⟨rfl,bel _ _⟩
end
def mZ (n:Int) (x:PIn):Bool:=x.num==n
def aUA (S:PSt):Nat->Int->Bool
 |0,_=>false
 | f+1,n=>decide (0<=cU (mZ n) S.ins)&&match S.ins[(cU (mZ n) S.ins).toNat]? with
   |none=>false
   |some x=>!x.dir||x.ents.all (λe=>aUA S f e.num)
end Go.Proofs.YtmkapobnfigedaaGreatDoor
