/- A part of a proof of a law. Conditions: none. -/
import Derived.Test.YtmkapobnfigedaaGreatDoorDp07
set_option linter.unusedVariables false
set_option linter.unusedSimpArgs false
set_option maxRecDepth 100000
set_option maxHeartbeats 40000000
namespace Go.Proofs.YtmkapobnfigedaaGreatDoor
open Go.Proofs.Tryz List Go.RowKit
def PRes.val (r:PRes) (nv:Value):Value:=.agg #[r.code,r.fd,r.num,r.dir,r.data,nv]
def CP (w:World) (k:Nat) (c:PCall):Prop:=k<w.heap.size/\∀(t:Nat) (u:Value),c.cells[t]? =some u->w.cell? ⟨k,t,none⟩=some u
theorem CP.below {w w':World} {k B:Nat} {c:PCall} (h:CP w k c) (hb:Below B w w') (hB:w.heap.size<=B):CP w' k c:=by have hs:=hb.size;have hl:=h.1;exact⟨by omega,λt u hu=>(hb.cell (p:=⟨k,t,none⟩) (by show k<B;omega)).trans (h.2 t u hu)⟩
section
def Did (S:PSt) (c:PCall) (S':PSt) (r:PRes):Prop:=∀(w:World) (iv ov mv:Value),StRead w iv ov mv S->Calls prog 73 #[.agg #[iv,ov,mv],.agg #[c.kind,c.core,c.fd,c.off,c.num,c.path,c.path2,c.data]] w λe w'=>Bl w w'/\aED w.heap.size S' r e w'
variable {N k:Nat} {w:World}
theorem CP.of_blk {c:PCall} (h:Blk w k #[c.kind,c.core,c.fd,c.off,c.num,c.path,c.path2,c.data] 28):CP w k c:=
 ⟨h.lt.lt,λt u hu=>by rw[h.cell];simpa[PCall.cells]using hu⟩
class Above (N:Nat) (a w:World):Prop where
 eq:∀k,N<=k->k<a.heap.size->w.heap[k]? =a.heap[k]?
 size:a.heap.size<=w.heap.size
instance {X X':World} {p:Behind} {n:Nat} [h:SizeIs X n] [h':SizeIs X' n]:Above X.heap.size (X.junk p) (X'.junk p):=⟨λk hk _=>by
 have e1:=h.eq;have e2:=h'.eq;simp only[World.junk];rw[Array.getElem?_append_right (by omega),Array.getElem?_append_right (by omega),e1,e2],by
 have e1:=h.eq;have e2:=h'.eq;rw[World.size_junk0,World.size_junk0,e1,e2];exact zC _⟩
instance {N:Nat} {a w:World} {o:Obj} [h:Above N a w]:Above N a (w.alloc o):=⟨λk hk hl=>by rw[RowKit.Below.heap_alloc w o k (zR hl h.size)];exact h.eq k hk hl,by have:=h.size;simp;omega⟩
instance {N:Nat} {a w:World} {q:Behind} [h:Above N a w]:Above N a (w.junk q):=⟨λk hk hl=>by rw[World.heap_junk w q (zR hl h.size)];exact h.eq k hk hl,by have:=h.size;rw[World.size_junk0];omega⟩
theorem OwnP.above {e:TypeId} {v:Value} {rows:List (List Value)} (h:OwnP N w e k v rows) (w':World) [ha:Above N w w']:OwnP N w' e k v rows:=by
 rcases h with h|⟨g,cap,cur,rfl,hg,hb,r⟩
 .exact .inl h
 exact .inr ⟨g,cap,cur,rfl,hg,(ha.eq g hg hb.lt.lt).trans hb,r⟩
theorem StOwn.above {iv ov mv:Value} {S:PSt} (h:StOwn N w iv ov mv S) (w':World) [ha:Above N w w']:StOwn N w' iv ov mv S:=by
 obtain⟨h1,h2,is,h3,h4,h5,h6⟩:=h;exact⟨h1.above w',h2.above w',is,h3.above w',h4,λq r x hr hx=>by
  obtain⟨a1,a2,a3,a4⟩:=h5 q r x hr hx;exact⟨a1,a2,a3,a4.above w'⟩,h6⟩
end
def kP (n:Nat):PSt:=⟨[⟨1,true,[],⟨#[]⟩⟩],[],List.replicate n 0⟩
theorem aDK {α:Type} (f:α->Value) (z:α) (n:Nat):madeCells #[f z] n=((List.replicate n z).map f).toArray:=by apply Array.toList_inj.1;rw[toList_madeCells_one];simp
theorem RowAt.of_blk1 {w:World} {b:Nat} {t:TypeId} (xs:List Int) (cap:Nat) (h:Blk w b (xs.map λx=>Value.int .i64 x).toArray t) (hm:xs.length<=maxLen):RowAt w 1 (.slice b xs.length cap) (xs.map aJ):=by
 refine⟨_,_,by rw[lM],by rw[lM];exact hm,λ_=>⟨b,0,rfl,h.lt.lt,λq cs hq t u hu=>?_⟩⟩;rw[gM]at hq;obtain⟨x,hx,rfl⟩:=Option.map_eq_some_iff.1 hq;rcases t with _|t
 .simp only[aJ,zH,zF]at hu;subst hu;rw[h.cell];simp[hx]
 simp[aJ]at hu
theorem bBF (n:Nat) (h1:1<=n) (h8:n<=8) (w:World):
 Calls prog 51 #[n] w λe w'=>∃iv ov mv,e=.returned (.tuple #[.agg #[iv,ov,mv],.int .i64 0])/\Bl w w'/\StRead w' iv ov mv (kP n):=by
 obtain⟨i0,hi,hz0,hz1,hz2⟩:=info_parts aAS;have a1:∀u:World,(Instr.makeSlice 24 (.int .i64 n) (.int .i64 n)).run prog u=.ok (.slice (some ⟨u.heap.size,0,none⟩) n n) (u.alloc (.cells ((List.replicate n (0:Int)).map λx=>Value.int .i64 x).toArray 3)):=λu=>by have:=run_makeSlice (P:=prog) u 24 3 i0 _ underlying24 hi hz0 .i64 .i64 n n (by omega) (Int.le_refl _) (by rw[hz1];omega) (by rw[hz2];omega) (by omega);rw[<-aDK (λx=>Value.int .i64 x)];simpa[hz1,Value.cells]using this
 have g1:¬(n:Int)<1:=by omega
 have g2:¬(8:Int)<n:=by omega
 go_in;go_wp2_with fail;refine xD (v:=.tuple #[.agg #[.slice (some ⟨w.heap.size+1,0,none⟩) 1 1,.slice none 0 0,.slice (some ⟨w.heap.size+1+1,0,none⟩) n n],.int .i64 0]) (by unfold results;simp only[results51];go_simp) rfl ⟨_,_,_,rfl,bel _ _,?_,?_,[⟨1,true,.slice none 0 0,⟨#[]⟩,rfl⟩],?_,rfl,?_⟩
 .exact⟨none,0,rfl,by simp[kP],λh=>absurd h (by simp[kP])⟩
 .have a0:Blk (((w.alloc (.cells #[.slice (some ⟨w.heap.size+1,0,none⟩) 1 1,.slice none 0 0,.slice (some ⟨w.heap.size+1+1,0,none⟩) n n] 26)).alloc (.cells #[.int .i64 1,true,.slice none 0 0,.string ⟨#[]⟩] 68)).alloc (.cells (Array.replicate n (.int .i64 0)) 3)) (w.heap.size+1+1) (Array.replicate n (.int .i64 0)) 3:=Blk.new_i ((w.alloc (.cells #[.slice (some ⟨w.heap.size+1,0,none⟩) 1 1,.slice none 0 0,.slice (some ⟨w.heap.size+1+1,0,none⟩) n n] 26)).alloc (.cells #[.int .i64 1,true,.slice none 0 0,.string ⟨#[]⟩] 68)) _ _ _;have:=RowAt.of_blk1 (b:=w.heap.size+1+1) (t:=3) (List.replicate n (0:Int)) n (by simpa using a0) (by rw[yP];unfold maxLen;omega);rw[yP]at this;exact this
 .refine⟨_,_,rfl,by unfold maxLen;simp,λ_=>⟨w.heap.size+1,0,rfl,by simp,λq cs hq t u hu=>?_⟩⟩;rcases q with _|q
  .simp only[xB,map_nil,zH,zF]at hq;subst hq;have hb:Blk ((((w.alloc (.cells #[.slice (some ⟨w.heap.size+1,0,none⟩) 1 1,.slice none 0 0,.slice (some ⟨w.heap.size+1+1,0,none⟩) n n] 26)).alloc (.cells #[.int .i64 1,true,.slice none 0 0,.string ⟨#[]⟩] 68))).alloc (.cells ((List.replicate n (0:Int)).map λx=>Value.int .i64 x).toArray 3)) (w.heap.size+1) #[.int .i64 1,.bool true,.slice none 0 0,.string ⟨#[]⟩] 68:=(Blk.new_i (w.alloc (.cells #[.slice (some ⟨w.heap.size+1,0,none⟩) 1 1,.slice none 0 0,.slice (some ⟨w.heap.size+1+1,0,none⟩) n n] 26)) _ _ _).alloc _;have:=(hb.cell t).trans (by simpa[IRec.cells]using hu);simpa using this
  simp at hq
 intro q r x hr hx;rcases q with _|q
 .cases hr;cases hx;exact⟨rfl,rfl,rfl,⟨none,0,rfl,by simp,λh=>absurd h (by simp)⟩⟩
 simp at hr
def aUT (S:PSt):Nat->Int->Bool
 |0,_=>false
 | f+1,n=>decide (0<=cV (nL n) S.ins)&&match S.ins[(cV (nL n) S.ins).toNat]? with
   |none=>false
   |some x=>!x.dir||x.ents.all (λe=>aUT S f e.num)
section
variable {S:PSt} {c:PCall}
theorem mQ (h:fP S c=true):cO S=true/\0<=c.core/\c.core<S.made.length:=by unfold fP at h;simp only[zE,zI]at h;exact⟨h.2,h.1.1.2,h.1.2⟩
theorem aYE (R:Except Int (PSt × PRes)) {S':PSt} {r':PRes} (hwf:S.wf) (he:doM S c R=(S',r'))
 (hrun:fP S c=true->∀B ww d b,DoAt B ww d b S c PRes.zero->B<=ww.heap.size->Calls prog 108 #[.pointer (some ⟨d,0,none⟩)] ww (bL B ww d b c R)):Did S c S' r':=by
 intro w iv ov mv h;have:=bBO iv ov mv S c R w h hwf hrun;rw[he]at this;exact this
instance (n:Int):Decidable (I64 n):=by unfold I64;exact inferInstance
end
theorem aD {F:World->Prop} {c:Code} {Q:Exit->Act->World->Prop} {a:Act} {w:World} (hF:F w) (h:∀w,F w->c.wp prog Q a w):c.wp prog Q a w:=h w hF
theorem StRead.slices {w:World} {iv ov mv:Value} {S:PSt} (h:StRead w iv ov mv S):∃ai ni ci ao no co am nm cm,iv=.slice ai ni ci/\ov=.slice ao no co/\mv=.slice am nm cm:=by obtain⟨a1,c1,e1,_⟩:=h.1.at_;obtain⟨a2,c2,e2,_⟩:=h.2.1.at_;obtain⟨_,_,is,h3,_⟩:=h;obtain⟨a3,c3,e3,_⟩:=h3.at_;exact⟨_,_,_,_,_,_,_,_,_,e3,e1,e2⟩
end Go.Proofs.YtmkapobnfigedaaGreatDoor
