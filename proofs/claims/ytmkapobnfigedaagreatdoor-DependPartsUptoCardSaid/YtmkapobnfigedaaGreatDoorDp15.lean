/- A part of a proof of a law. Conditions: none. -/
import Derived.Test.YtmkapobnfigedaaGreatDoorDp13
import Derived.Test.YtmkapobnfigedaaGreatDoorDp11
import Derived.Lib.BufferWrite
import Derived.Lib.SlBytesRow
set_option linter.unusedVariables false
set_option linter.unusedSimpArgs false
set_option maxRecDepth 100000
set_option maxHeartbeats 40000000
namespace Go.Proofs.YtmkapobnfigedaaGreatDoor
open Go.Proofs.Tryz List Go.RowKit
theorem aEY:(prog.info? 5).map (λi=>(i.zero,i.size,i.bytes))=some (some (.int .u8 0),1,1):=by kernel_rfl
theorem StOwn.setData {B:Nat} {w:World} {ov mv:Value} {S:PSt} {bi cap K:Nat} {x:PIn} (h:StOwn B w (.slice bi S.ins.length cap) ov mv S) (hx:S.ins[K]? =some x) (d:ByteArray):
 StOwn B (w.setCell ⟨bi,K*4+3,none⟩ (.string d)) (.slice bi S.ins.length cap) ov mv { S with ins:=S.ins.set K { x with data:=d}}/\B<=bi/\∃c,Blk w bi c 68:=by
 obtain⟨h1,h2,is,h3,h4,h5,h6⟩:=h;obtain⟨hKl,_⟩:=gI.1 hx;have hr:is[K]? =some is[K]:=gE (by omega);obtain⟨a1,a2,a3,a4⟩:=h5 K _ x hr hx;rcases h3 with⟨h0,_⟩|⟨g,cap',arr,heq,hgB,hgb,hnc,hcm,hsz,hri⟩
 .simp at h0
 simp only[zO,zF,yG]at heq;obtain⟨⟨rfl,-,-⟩,hl,rfl⟩:=heq;have hS:Keep (λk=>k=bi) w (w.setCell ⟨bi,K*4+3,none⟩ (.string d)):=Keep.setCell (S:=λk=>k=bi) (p:=⟨bi,K*4+3,none⟩) (Keep.refl _ _) (.inl rfl) _;have far:∀{e:TypeId} {k:Nat} {v:Value} {rows:List (List Value)},OwnP B w e k v rows->e≠68->OwnP B (w.setCell ⟨bi,K*4+3,none⟩ (.string d)) e k v rows:=by intro e k v rows ho hee;exact ho.keep hS (λg hg hh=>ho.ne_blk hgb hee hg hh)
 have a6:K<is.length:=by omega
 have a5:(is.map IRec.cells).set K (is[K].cells.set 3 (.string d))=(is.set K ⟨is[K].num,is[K].dir,is[K].ev,d,is[K].one⟩).map IRec.cells:=by rw[map_set];rfl
 have a8:K*4+3<arr.size:=by rw[lM]at hnc;omega
 refine⟨⟨far h1 (by decide),far h2 (by decide),is.set K ⟨is[K].num,is[K].dir,is[K].ev,d,is[K].one⟩,.inr ⟨bi,cap,arr.setIfInBounds (K*4+3) (.string d),?_,hgB,hgb.set_ _ _,?_,hcm,by rw[Array.size_setIfInBounds];exact hsz,?_⟩,?_,?_,?_⟩,hgB,_,hgb⟩
 .rw[lM,yB,h4]
 .rw[lM,yB];rw[lM]at hnc;exact hnc
 .rw[<-a5];exact hri.set (gL _) (by rw[gM,hr];rfl) (by decide) a8 _
 .show(is.set K _).length=(S.ins.set K _).length;rw[yB,yB,h4]
 .intro q r x' hq a0;have a0:(S.ins.set K { x with data:=d})[q]? =some x':=a0;by_cases e:K=q
  .subst e;rw[zY a6]at hq;rw[zY hKl]at a0;cases hq;cases a0;exact⟨a1,a2,rfl,far a4 (by decide)⟩
  rw[zX e]at hq a0;obtain⟨b1,b2,b3,b4⟩:=h5 q r x' hq a0;exact⟨b1,b2,b3,far b4 (by decide)⟩
 intro p q r r' hpq hp hq k hk;have a7:∀(j:Nat) (rb:IRec),(is.set K ⟨is[K].num,is[K].dir,is[K].ev,d,is[K].one⟩)[j]? =some rb->∃ro,is[j]? =some ro/\ro.ev=rb.ev:=by
  intro j rb hj;by_cases e:K=j
  .subst e;rw[zY a6]at hj;cases hj;exact⟨_,hr,rfl⟩
  rw[zX e]at hj;exact⟨rb,hj,rfl⟩
 obtain⟨o1,p1,e1⟩:=a7 p r hp;obtain⟨o2,p2,e2⟩:=a7 q r' hq;rw[<-e1]at hk;rw[<-e2];exact h6 p q o1 o2 hpq p1 p2 k hk
section
def tA (x:Int):Bool:=decide (0<=x)&&decide (x<=256)
theorem rT (x:Int) (w:World):vR w 183 #[.int .i64 x] (.bool (tA x)):=by
 unfold tA;by_cases h:0<=x
 .have hb:decide (0<=x)=true:=decide_eq_true h
  unfold vR;go_in;go_wp2;go_ret;exact⟨by first|rfl|simp[hb],bel _ _⟩
 have hb:decide (0<=x)=false:=yM h;unfold vR;go_in;go_wp2;go_ret;exact⟨by first|rfl|simp[hb],bel _ _⟩
def qY (s:ByteArray) (o n:Nat):ByteArray:=if s.size<=o then⟨#[]⟩else s.extract o (min s.size (o+n))
theorem aQX (s:ByteArray) (o n:Nat) (w:World) (hs:s.size<=1000000000) (ho:o<=1000000000) (hn:n<=1000000000):
 vR w 184 #[.string s,.int .i64 o,.int .i64 n] (.string (qY s o n)):=by
 unfold qY;by_cases h:s.size<=o
 .rw[zB h];have hI:(s.size:Int)<=o:=by omega
  unfold vR;go_in;go_wp2;go_ret;exact gAC
 rw[zA h];have hI:¬(s.size:Int)<=o:=by omega
 have e:(min (s.size:Int) ((o:Int)+n)).toNat=min s.size (o+n):=by omega
 unfold vR;go_in;go_wp2;go_ret;exact gAC
def bM (l:List UInt8):Array Value:=(Lib.byteCells l).toArray
theorem uL (l:List UInt8):(bM l).size=l.length:=by unfold bM;simp[Lib.byteCells_length]
theorem mkN (n:Nat) (hn:n<=1000000000) (u:World):(Instr.makeSlice 147 (.int .i64 n) (.int .i64 n)).run prog u=.ok (.slice u.heap.size n n) (u.alloc (.cells (bM (List.replicate n 0)) 5)):=by
 obtain⟨i,hi,hz,h1,h2⟩:=info_parts aEY;have:=run_make u (P:=prog) 147 5 i _ underlying147 hi hz .i64 .i64 n n (by omega) (Int.le_refl _) (by rw[h2];omega) (by omega);rw[h1]at this;rw[this];have e:madeCells (Value.int IntKind.u8 0).cells ((n:Int).toNat*1)=bM (List.replicate n 0):=by apply Array.toList_inj.1;have h3:(Value.int IntKind.u8 0).cells=#[.int .u8 0]:=rfl;rw[h3,toList_madeCells_one];unfold bM Lib.byteCells;simp
 rw[e];rfl
theorem cpN (w:World) (ty:TypeId) (g o n cap:Nat) (l:List UInt8) (s:ByteArray) (h:Blk w g (bM l) 5) (hle:s.size<=n) (hfit:o+s.size<=l.length):
 (Builtin.copy_ #[147,9] ty #[.slice (some ⟨g,o,none⟩) n cap,.string s]).run prog w=.ok (.int .i64 s.size) (w.setRow g (bM (l.take o++s.data.toList++l.drop (o+s.size)))):=by
 obtain⟨i,hi,hz,h1,h2⟩:=info_parts aEY;have:=Lib.run_copy_row_string (P:=prog) w 147 9 ty 5 g o n cap s (bM l) 5 underlying147 (by rw[hi];simp[h1]) h hle (by rw[uL];exact hfit);rw[this];have e:((bM l).toList.take o++Lib.byteCells s.data.toList++(bM l).toList.drop (o+s.size)).toArray=bM (l.take o++s.data.toList++l.drop (o+s.size)):=by unfold bM Lib.byteCells;simp[map_take,map_drop]
 rw[e];rfl
theorem cvN (w:World) (g n cap:Nat) (l:List UInt8) (h:Blk w g (bM l) 5) (hn:l.length=n):(convert 147 9 (.slice g n cap)).run prog w=.ok (.string ⟨l.toArray⟩) w:=by
 have hs:(⟨l.toArray⟩:ByteArray).size=n:=by rw[<-hn];rfl
 have:=Lib.run_convert_whole (P:=prog) w 147 5 9 underlying147 underlying5 underlying9 g 0 ⟨l.toArray⟩ (λi hi=>by
  rw[h.cell,zM];have a0:i<l.length:=hi;unfold bM Lib.byteCells;simp[a0];rfl) cap
 rw[hs]at this;exact this
variable {g:Nat} {s:ByteArray} {w:World}
theorem kE {a:Array Value} {t:TypeId} (h:Blk w g a t) (a':Array Value):Blk (w.setRow g a') g a' t:=setRow_heap w g a a' t _ h
def aVF (had:List UInt8) (off:Nat) (data:List UInt8):List UInt8:=
 (had++List.replicate (max had.length (off+data.length)-had.length) 0).take off++data++(had++List.replicate (max had.length (off+data.length)-had.length) 0).drop (off+data.length)
def aBD (had:ByteArray) (off:Nat) (data:ByteArray):ByteArray:=if data.size=0 then had else⟨(aVF had.data.toList off data.data.toList).toArray⟩
theorem mN {B:Nat} {w0:World} (hb:Below B w0 w) (hBg:B<=g) (cs:Array Value):Below B w0 (w.setRow g cs):=
 hb.trans ⟨rfl,rfl,rfl,by simp[World.setRow],λk hk=>setRow_other w g k cs (by omega)⟩
theorem aFH (s:ByteArray):s.toList=s.data.toList:=zW s
theorem aNH (h:s.size=0):s.toList.isEmpty=true:=by
 rw[aFH];rcases s with⟨⟨l⟩⟩
 have:l=[]:=zT h;subst this;rfl
theorem aFI (h:¬s.size=0):s.toList.isEmpty=false:=by
 rw[aFH];rcases s with⟨⟨l⟩⟩
 rcases l with _|⟨a,l⟩
 .exact absurd rfl h
 rfl
theorem aXY (had data:ByteArray) (off:Nat) (w:World) (hh:had.size<=1000000) (hd:data.size<=1000000) (ho:off<=1000000):
 vR w 185 #[.string had,.int .i64 off,.string data] (.string (aBD had off data)):=by
 unfold aBD;by_cases h0:data.size=0
 .rw[zB h0];have b3:=aNH h0
  unfold vR;go_in;go_wp2;go_ret;exact gAC
 rw[zA h0];have b4:data.toList.isEmpty=false:=aFI h0;obtain⟨M,hM⟩:∃M:Nat,(off:Int)+data.size=M:=⟨off+data.size,by omega⟩;obtain⟨N,hN⟩:∃N:Nat,max (had.size:Int) (M:Int)=N:=⟨max had.size M,by omega⟩;have a7:IntKind.i64.wrap (M:Int)=M:=I64.wrap ⟨by omega,by omega⟩;have a8:wrap64 (M:Int)=M:=by rw[<-IntWalk.i64_left];exact a7
 have a9:=λu=>mkN N (by omega) u;unfold vR;go_in;go_upto_region 4 with fail;refine aD (F:=λW=>Blk W w.heap.size (bM (List.replicate N 0)) 5/\Below w.heap.size w W) ⟨Blk.new _ _ _,bel _ _⟩ ?_;obtain⟨g,hg⟩:=gAB w.heap.size;rw[hg];rintro W ⟨hB,hbW⟩;have iG:=hB.lt;have a5:data.data.toList.length=data.size:=rfl;have a6:had.data.toList.length=had.size:=rfl;have a0:=λty=>cpN W ty g 0 N N (List.replicate N 0) had hB (by omega) (by rw[yP];omega);obtain⟨L1,hL1⟩:∃L,(List.replicate N 0).take 0++had.data.toList++(List.replicate N (0:UInt8)).drop (0+had.size)=L:=⟨_,rfl⟩;rw[hL1]at a0;have a1:L1.length=N:=by rw[<-hL1];simp[a6];omega
 have HW:=eH hB hbW hL1;have HG:=aC hg;clear hB hbW hL1 hg a9;go_upto_region 5 with fail;refine aD (F:=λW2=>Blk W2 g (bM L1) 5/\Below g w W2) ⟨kE HW.out.1 _,mN HW.out.2.1 (zC _) _⟩ ?_;clear a0 iG;rintro W2 ⟨hB2,hbW2⟩;have iG:=hB2.lt;have b5:off<=N:=by omega
 have a0:=λty=>cpN W2 ty g off (N-off) (N-off) L1 data hB2 (by omega) (by omega);obtain⟨L2,hL2⟩:∃L,L1.take off++data.data.toList++L1.drop (off+data.size)=L:=⟨_,rfl⟩;rw[hL2]at a0;have a2:L2.length=N:=by rw[<-hL2];simp[a5,a1];omega
 have a4:=eH hB2 hbW2 hL2;clear hB2 hbW2 hL2;go_upto_region 6 with fail;refine aD (F:=λW3=>Blk W3 g (bM L2) 5/\Below g w W3) ⟨kE a4.out.1 _,mN a4.out.2.1 (zC _) _⟩ ?_;clear a0 iG;rintro W3 ⟨hB3,hbW3⟩;have iG:=hB3.lt;have b6:=cvN W3 g N N L2 hB3 a2;have b0:=bJ hB3 hbW3;have a3:aVF had.data.toList off data.data.toList=L2:=by
  have e1:=HW.out.2.2;have e2:=a4.out.2.2;rw[<-e2,<-e1];unfold aVF;have b1:N=max had.size (off+data.size):=by omega
  simp only[take_zero,nil_append,zM,drop_replicate,a5,a6,b1]
 have b2:=aC a3;clear hB3 hbW3 a3;go_wp2;go_ret;exact⟨by rw[b2.out];rfl,by rw[HG.out];exact b0.out.2⟩
end
section
def eL (S:PSt) (c:PCall):Option (Nat × PIn):=if cV (eW c) S.op<0 then none else
 match S.op[(cV (eW c) S.op).toNat]? with
 |none=>none
 | some y=>match S.ins[(aK S.nums y.num).toNat]? with
   |none=>none
   |some x=>some ((aK S.nums y.num).toNat,x)
theorem kF {S:PSt} {c:PCall} {K:Nat} {x:PIn} (h:eL S c=some (K,x)):S.ins[K]? =some x/\K<S.ins.length:=by
 unfold eL at h;split at h
 .cases h
 split at h
 .cases h
 split at h
 .cases h
 rename_i hx;simp only[zF,Prod.mk.injEq]at h;obtain⟨rfl,rfl⟩:=h;obtain⟨hl,_⟩:=gI.1 hx;exact⟨hx,hl⟩
def qO (S:PSt) (c:PCall) (bi:Nat) (e:Ending):Prop:=match eL S c with
 |none=>e=bR 4
 |some y=>e=.returned (.tuple #[.pointer (some ⟨bi,y.1*4,none⟩),.int .i64 (cV (eW c) S.op)])
theorem aXZ {w:World} {d b bi cap:Nat} {S:PSt} {c:PCall} (h:DR w d b S c) (hf:Fine S) (hc:w.cell? b=some (.slice bi S.ins.length cap)):
 Calls prog 143 #[.pointer d] w λe w'=>Bl w w'/\qO S c bi e:=by
 refine(aSA d b S c w h hf).mono ?_;rintro e w' ⟨hb,ho⟩;refine⟨hb,?_⟩;unfold qO eL;rcases ho with⟨hi,y,bi',off,cap',hy,hc',rfl⟩|⟨hi,rfl⟩
 .rw[zA (by omega),hy];rw[hc]at hc';simp only[zF,zO,yG]at hc';obtain⟨⟨rfl,rfl,-⟩,-,-⟩:=hc';have h0:=hf.opens y (mG hy);have a1:=cX S.nums y.num;have a2:S.nums.length=S.ins.length:=by unfold PSt.nums;rw[lM]
  have a0:(aK S.nums y.num).toNat<S.ins.length:=by omega
  simp only[gE a0,zM]
 rw[zB hi]
theorem DoAt.parts {B:Nat} {w:World} {d b:Nat} {S:PSt} {c:PCall} {r:PRes} (h:DoAt B w d b S c r) (h0:0<S.ins.length):
 ∃bi cap ov mv nv,B<=b/\B<=d/\Blk w d (jY b c r nv) 136/\Blk w b #[.slice (some ⟨bi,0,none⟩) S.ins.length cap,ov,mv] 26/\StOwn B w (.slice (some ⟨bi,0,none⟩) S.ins.length cap) ov mv S/\OwnP B w 9 1 nv (r.names.map cL):=by
 obtain⟨iv,ov,mv,nv,h1,h2,h3,h4,h5,h6⟩:=h;obtain⟨bi,cap,rfl⟩:=h5.ins_form h0;exact⟨bi,cap,ov,mv,nv,h1,h2,h3,h4,h5,h6⟩
structure DPart (B:Nat) (w:World) (d b bi cap:Nat) (ov mv nv:Value) (S:PSt) (c:PCall) (r:PRes):Prop where
 hBb:B<=b
 hBd:B<=d
 hD:Blk w d (jY b c r nv) 136
 hb:Blk w b #[.slice bi S.ins.length cap,ov,mv] 26
 st:StOwn B w (.slice bi S.ins.length cap) ov mv S
 nm:OwnP B w 9 1 nv (r.names.map cL)
theorem DoAt.part {B:Nat} {w:World} {d b:Nat} {S:PSt} {c:PCall} {r:PRes} (h:DoAt B w d b S c r) (h0:0<S.ins.length):∃bi cap ov mv nv,DPart B w d b bi cap ov mv nv S c r:=by obtain⟨bi,cap,ov,mv,nv,h1,h2,h3,h4,h5,h6⟩:=h.parts h0;exact⟨bi,cap,ov,mv,nv,h1,h2,h3,h4,h5,h6⟩
section
variable {B:Nat} {w w':World} {d b bi cap:Nat} {ov mv nv:Value} {S:PSt} {c:PCall} {r:PRes}
theorem DPart.at_ (h:DPart B w d b bi cap ov mv nv S c r):DoAt B w d b S c r:=⟨_,_,_,_,h.hBb,h.hBd,h.hD,h.hb,h.st,h.nm⟩
theorem DPart.below (h:DPart B w d b bi cap ov mv nv S c r) (hb:Bl w w'):DPart B w' d b bi cap ov mv nv S c r:=by have hk:Keep (λ_=>False) w w':=Keep.of_below hb _;exact⟨h.hBb,h.hBd,hk.blk h.hD id,hk.blk h.hb id,h.st.keep hk (λ_ h=>h.elim),h.nm.keep hk (λ_ _ h=>h)⟩
theorem DPart.file (h:DPart B w d b bi cap ov mv nv S c r) (hf:Fine S):Calls prog 143 #[.pointer d] w λe w'=>Bl w w'/\qO S c bi e:=
 aXZ (DR.of_blk h.hD (SP.of_blk h.hb h.st.read)) hf (h.hb.cell 0)
theorem DPart.dat {K:Nat} {x:PIn} (h:DPart B w d b bi cap ov mv nv S c r) (hx:S.ins[K]? =some x):BlockLt bi w/\w.cell? ⟨bi,K*4,none⟩=some (.int .i64 x.num)/\w.cell? ⟨bi,K*4+1,none⟩=some (.bool x.dir)/\w.cell? ⟨bi,K*4+3,none⟩=some (.string x.data):=by obtain⟨a,cap',e1,hai⟩:=h.st.read.ins_at2;cases e1;obtain⟨bi',oi,ev,he,iI0,hoi,her,hci⟩:=hai K x hx;cases he;obtain⟨i2,x0,x1,-,x3⟩:=hci w (Below.refl _ _);simp only[zM]at x0 x1 x3;exact⟨i2,x0,x1,x3⟩
theorem DPart.res (h:DPart B w d b bi cap ov mv nv S c r) {t:Nat} {u:Value} {r':PRes} (hc:(jY b c r nv).setIfInBounds t u=jY b c r' nv) (hn:r'.names=r.names):DPart B (w.setCell ⟨d,t,none⟩ u) d b bi cap ov mv nv S c r':=by have a0:Keep (λk=>k=d) w (w.setCell ⟨d,t,none⟩ u):=Keep.setCell (S:=λk=>k=d) (p:=⟨d,t,none⟩) (Keep.refl _ _) (.inl rfl) _;refine⟨h.hBb,h.hBd,?_,a0.blk h.hb (h.hb.ne_ h.hD (by decide)),h.st.keep a0 (λg hg=>by rw[hg];exact⟨_,136,h.hD,by decide,by decide,by decide,by decide⟩),by rw[hn];exact h.nm.keep a0 (λg hg=>h.nm.ne_blk h.hD (by decide) hg)⟩;rw[<-hc];exact h.hD.set_ t u
end
def rU (S:PSt) (c:PCall) (r:PRes):Except Int (PSt × PRes):=match eL S c with
 |none=>.error 4
 |some y=>if(tA c.off&&tA c.num)=true then .ok (S,{ r with data:=qY y.2.data c.off.toNat c.num.toNat})else .error 9
theorem aII (B d b:Nat) (S:PSt) (c:PCall) (r:PRes) (w:World) (h:DoAt B w d b S c r) (hB:B<=w.heap.size) (hf:Fine S) (hk:c.kind=4) (hsz:∀x∈S.ins,x.data.size<=1000000):
 Calls prog 146 #[.pointer d] w (bL B w d b c (rU S c r)):=by
 obtain⟨bi,cap,ov,mv,nv,hP⟩:=h.part hf.pos;have ht:=hP.file hf;have iD:=hP.hD.lt;unfold qO at ht;unfold rU;generalize hX:eL S c=X at ht |-;rcases X with _|⟨K,x⟩
 .simp only at ht |-
  go_in;go_wp2_with(go_at_call 143;refine ht.mono ?_;rintro e w1 ⟨hb1,rfl⟩);exact⟨rfl,hb1.mono hB,rfl⟩
 simp only at ht |-;obtain⟨hx,hKl⟩:=kF hX;have a9:=hsz x (mG hx);generalize cV (eW c) S.op=I at ht;have HP:=aC hP;clear h hP hX hsz;have a0:=λww=>rT c.off ww;have a2:=λww=>rT c.num ww;generalize hpo:tA c.off=po at a0 |-;rcases po with _|_
 .simp only[yJ,zP,if_false]
  go_in;go_upto_region 1 with(go_at_call 143;refine ht.mono ?_;rintro e w1 ⟨hb1,rfl⟩;have HB:=aC hb1;clear hb1)
  refine aD (F:=λwA=>DPart B wA d b bi cap ov mv nv S c r/\Bl w wA) ⟨HP.out.below HB.out,HB.out⟩ ?_;clear ht iD HP HB;rintro wA ⟨hA,hbA⟩;have iD:=hA.hD.lt;have a1:wA.cell? ⟨d,1,none⟩=some (.int .i64 c.kind):=hA.hD.cell 1;have a4:wA.cell? ⟨d,4,none⟩=some (.int .i64 c.off):=hA.hD.cell 4;have a5:wA.cell? ⟨d,5,none⟩=some (.int .i64 c.num):=hA.hD.cell 5;have a3:wA.cell? ⟨d,13,none⟩=some (.string r.data):=hA.hD.cell 13;have a6:=hA.hD.frozen 13;rw[hk]at a1;obtain⟨iI,x0,x1,x3⟩:=hA.dat hx;have HA:=bJ hA hbA;clear hA hbA hx;go_wp2_with(first|(go_at_call 183;with_reducible refine aE (a0 _) λp=>?_)|(go_at_call 183;with_reducible refine aE (a2 _) λp=>?_)|(go_at_call 172;refine aE (aP _ _) λp=>?_));exact⟨rfl,(HA.out.2.trans ((bel wA _).mono HA.out.2.size)).mono hB,rfl⟩
 generalize hpn:tA c.num=pn at a2 |-;rcases pn with _|_
 .simp only[Bool.and_false,zP,if_false]
  go_in;go_upto_region 1 with(go_at_call 143;refine ht.mono ?_;rintro e w1 ⟨hb1,rfl⟩;have HB:=aC hb1;clear hb1)
  refine aD (F:=λwA=>DPart B wA d b bi cap ov mv nv S c r/\Bl w wA) ⟨HP.out.below HB.out,HB.out⟩ ?_;clear ht iD HP HB;rintro wA ⟨hA,hbA⟩;have iD:=hA.hD.lt;have a1:wA.cell? ⟨d,1,none⟩=some (.int .i64 c.kind):=hA.hD.cell 1;have a4:wA.cell? ⟨d,4,none⟩=some (.int .i64 c.off):=hA.hD.cell 4;have a5:wA.cell? ⟨d,5,none⟩=some (.int .i64 c.num):=hA.hD.cell 5;have a3:wA.cell? ⟨d,13,none⟩=some (.string r.data):=hA.hD.cell 13;have a6:=hA.hD.frozen 13;rw[hk]at a1;obtain⟨iI,x0,x1,x3⟩:=hA.dat hx;have HA:=bJ hA hbA;clear hA hbA hx;go_wp2_with(first|(go_at_call 183;with_reducible refine aE (a0 _) λp=>?_)|(go_at_call 183;with_reducible refine aE (a2 _) λp=>?_)|(go_at_call 172;refine aE (aP _ _) λp=>?_));exact⟨rfl,(HA.out.2.trans ((bel wA _).mono HA.out.2.size)).mono hB,rfl⟩
 simp only[Bool.and_self,if_true];unfold tA at hpo hpn;simp only[zE,zI]at hpo hpn;obtain⟨o,ho⟩:∃o:Nat,c.off=o:=⟨c.off.toNat,by omega⟩;obtain⟨n,hn⟩:∃n:Nat,c.num=n:=⟨c.num.toNat,by omega⟩;have a7:=λww=>aQX x.data o n ww (by omega) (by omega) (by omega);have eo:c.off.toNat=o:=by omega
 have en:c.num.toNat=n:=by omega
 rw[eo,en];rw[ho]at a0;rw[hn]at a2;generalize qY x.data o n=pc at a7 |-;have HO:=bJ ho hn;clear eo en hpo hpn ho hn;go_in;go_upto_region 1 with(go_at_call 143;refine ht.mono ?_;rintro e w1 ⟨hb1,rfl⟩;have HB:=aC hb1;clear hb1)
 refine aD (F:=λwA=>DPart B wA d b bi cap ov mv nv S c r/\Bl w wA) ⟨HP.out.below HB.out,HB.out⟩ ?_;clear ht iD HP HB;rintro wA ⟨hA,hbA⟩;have iD:=hA.hD.lt;have a1:wA.cell? ⟨d,1,none⟩=some (.int .i64 c.kind):=hA.hD.cell 1;have a4:wA.cell? ⟨d,4,none⟩=some (.int .i64 c.off):=hA.hD.cell 4;have a5:wA.cell? ⟨d,5,none⟩=some (.int .i64 c.num):=hA.hD.cell 5;have a3:wA.cell? ⟨d,13,none⟩=some (.string r.data):=hA.hD.cell 13;have a6:=hA.hD.frozen 13;rw[hk]at a1;rw[HO.out.1]at a4;rw[HO.out.2]at a5;obtain⟨iI,x0,x1,x3⟩:=hA.dat hx;have HA:=bJ hA hbA;clear hA hbA hx;go_upto_region 5 with(first|(go_at_call 183;with_reducible refine aE (a0 _) λp=>?_)|(go_at_call 183;with_reducible refine aE (a2 _) λp=>?_)|(go_at_call 172;refine aE (aG _ _) λp=>?_))
 refine aH [15,19] true (λw'=>w'.cell? ⟨d,4,none⟩=some (.int .i64 o)/\w'.cell? ⟨d,5,none⟩=some (.int .i64 n)/\w'.cell? ⟨bi,K*4+3,none⟩=some (.string x.data)) (by kernel_rfl) (by kernel_rfl) ?_ ?_
 · (try dsimp only);(repeat' apply And.intro)<;>go_simp
 repeat
  apply aI0 rfl rfl
  focus
   rintro w' ⟨s0,s1,s2⟩;go_simp
   first|done|rfl
  simp only[Act.put,sA,sZ,sS]
 refine bB rfl rfl ?_;refine aS 184 #[.string x.data,.int .i64 o,.int .i64 n] ?hr ?_
 case hr=>
  go_simp
  first|done|rfl
 refine aE (a7 _) λq1=>?_;refine⟨_,rfl,.inl ?_,?_⟩
 · (try dsimp only);(repeat' apply And.intro)<;>go_simp
 simp only[Act.put,sA,sZ,sS]
 repeat
  apply aI0 rfl rfl
  focus
   rintro w' ⟨s0,s1,s2⟩;go_simp
   first|done|rfl
  simp only[Act.put,sA,sZ,sS]
 refine aW rfl rfl ?_;apply Exists.intro;refine⟨?_,.inr ⟨rfl,rfl⟩,?_⟩
 focus
  go_simp;rfl
 simp only[Act.put,sA,sZ,sS];refine aU ?_;clear a1 a4 a5 a3 a6 x0 x1 x3;go_wp2_with fail;have a8:Below B w (wA.setCell ⟨d,13,none⟩ (.string pc)):=(HA.out.2.mono hB).setCell (p:=⟨d,13,none⟩) HA.out.1.hBd _;exact xE (v:=.tuple #[]) (by simp[results,go_sem]) rfl ⟨a8.trans ((bel _ _).mono (zD hB a8.size)),rfl,((HA.out.1.res (t:=13) (r':={ r with data:=pc}) rfl rfl).below (bel _ _)).at_⟩
def rV (S:PSt) (c:PCall) (r:PRes):Except Int (PSt × PRes):=match eL S c with
 |none=>.error 4
 |some y=>.ok (S,{ r with num:=y.2.data.size})
theorem aIJ (B d b:Nat) (S:PSt) (c:PCall) (r:PRes) (w:World) (h:DoAt B w d b S c r) (hB:B<=w.heap.size) (hf:Fine S) (hk:c.kind=7):
 Calls prog 146 #[.pointer d] w (bL B w d b c (rV S c r)):=by
 obtain⟨bi,cap,ov,mv,nv,hP⟩:=h.part hf.pos;have ht:=hP.file hf;have iD:=hP.hD.lt;unfold qO at ht;unfold rV;generalize hX:eL S c=X at ht |-;rcases X with _|⟨K,x⟩
 .simp only at ht |-
  go_in;go_wp2_with(go_at_call 143;refine ht.mono ?_;rintro e w1 ⟨hb1,rfl⟩);exact⟨rfl,hb1.mono hB,rfl⟩
 simp only at ht |-;obtain⟨hx,hKl⟩:=kF hX;generalize cV (eW c) S.op=I at ht;have HP:=aC hP;clear h hP hX;go_in;go_upto_region 1 with(go_at_call 143;refine ht.mono ?_;rintro e w1 ⟨hb1,rfl⟩;have HB:=aC hb1;clear hb1)
 refine aD (F:=λwA=>DPart B wA d b bi cap ov mv nv S c r/\Bl w wA) ⟨HP.out.below HB.out,HB.out⟩ ?_;clear ht iD HP HB;rintro wA ⟨hA,hbA⟩;have iD:=hA.hD.lt;have a1:wA.cell? ⟨d,1,none⟩=some (.int .i64 c.kind):=hA.hD.cell 1;have a0:wA.cell? ⟨d,11,none⟩=some (.int .i64 r.num):=hA.hD.cell 11;have a2:=hA.hD.frozen 11;rw[hk]at a1;obtain⟨iI,x0,x1,x3⟩:=hA.dat hx;have HA:=bJ hA hbA;clear hA hbA hx;go_wp2;exact xE (v:=.tuple #[]) (by simp[results,go_sem]) rfl ⟨(HA.out.2.mono hB).setCell (p:=⟨d,11,none⟩) HA.out.1.hBd _,rfl,(HA.out.1.res (t:=11) (r':={ r with num:=x.data.size}) rfl rfl).at_⟩
end
section
def dN (c:Int):List PDesc->Nat->Nat->Nat->Nat × Nat
 |[],_,f,a=>(f,a)
 |o::r,i,f,a=>dN c r (i+1) (if o.core=c/\o.fd=f then f+1 else f) (if o.core<c\/(o.core=c/\o.fd=f)then i+1 else a)
theorem aHF (c:Int):∀(l:List PDesc) (i f a:Nat),f<=i->a<=i->(dN c l i f a).1<=i+l.length/\(dN c l i f a).2<=i+l.length
 |[],i,f,a,h1,h2=>by unfold dN;simp;omega
 | o::r,i,f,a,h1,h2=>by unfold dN;have:=aHF c r (i+1) (if o.core=c/\o.fd=f then f+1 else f) (if o.core<c\/(o.core=c/\o.fd=f)then i+1 else a) (by split<;>omega) (by split<;>omega);simp only[zK];omega
def vI (l:List PDesc) (k:Nat) (y:PDesc):List PDesc:=l.take k++y::l.drop k
def rK (S:PSt) (c:PCall) (r:PRes):Except Int (PSt × PRes):=
 if(aL S 0 (aA c.path).2).2≠0 then .error (aL S 0 (aA c.path).2).2 else
 match S.ins[(aL S 0 (aA c.path).2).1]? with
 |none=>.ok (S,r)
 | some x=>if x.dir=true then .error 8 else if 4<=(dN c.core S.op 0 0 0).1 then .error 10 else
   .ok ({ S with op:=vI S.op (dN c.core S.op 0 0 0).2 ⟨c.core,(dN c.core S.op 0 0 0).1,x.num⟩},{ r with fd:=(dN c.core S.op 0 0 0).1})
def PathE (bi:Nat) (W:Nat × Int) (e:Ending):Prop:=(W.2=0/\e=.returned (.pointer (some ⟨bi,W.1*4,none⟩)))\/(W.2≠0/\e=bR W.2)
theorem PathE.ok {bi K:Nat} {e:Ending} (h:PathE bi (K,0) e):e=.returned (.pointer (some ⟨bi,K*4,none⟩)):=by
 rcases h with⟨_,h⟩|⟨h,_⟩
 .exact h
 exact absurd rfl h
theorem PathE.bad {bi K:Nat} {C:Int} {e:Ending} (h:PathE bi (K,C) e) (hC:C≠0):e=bR C:=by
 rcases h with⟨h,_⟩|⟨_,h⟩
 .exact absurd h hC
 exact h
section
variable {B:Nat} {w w':World} {d b bi cap:Nat} {ov mv nv:Value} {S:PSt} {c:PCall} {r:PRes}
theorem DPart.path (h:DPart B w d b bi cap ov mv nv S c r) (hf:Fine S) (s:ByteArray) (hp:(aA s).1=0) (hpl:(aA s).2.length<=1000000000):
 Calls prog 178 #[.pointer d,s] w λe w'=>Bl w w'/\PathE bi (aL S 0 (aA s).2) e:=by
 refine(aRO d b S c s w (DR.of_blk h.hD (SP.of_blk h.hb h.st.read)) hf hp hpl).mono ?_;rintro e w' ⟨hb,ho⟩;refine⟨hb,?_⟩;rcases ho with⟨hc,bi',off,cap',hc',rfl⟩|⟨hc,rfl⟩
 .have h0:=h.hb.cell 0;simp only[yD,zH]at h0;rw[h0]at hc';simp only[zF,zO,yG]at hc';obtain⟨⟨rfl,rfl,-⟩,-,-⟩:=hc';exact .inl ⟨hc,by rw[zM]⟩
 exact .inr ⟨hc,rfl⟩
end
theorem StOwn.setOp3 {B:Nat} {w w1:World} {iv ov ov' mv:Value} {S:PSt} {op':List PDesc} (h:StOwn B w iv ov mv S) (hk:Keep (λg=>ov.ownBlock=some g) w w1) (ho:OwnP B w1 95 3 ov' (op'.map PDesc.cells)):StOwn B w1 iv ov' mv { S with op:=op'}:=by
 obtain⟨h1,h2,is,h3,h4,h5,h6⟩:=h;have key:∀{e:TypeId} {k:Nat} {v:Value} {rows:List (List Value)},OwnP B w e k v rows->e≠95->OwnP B w1 e k v rows:=by
  intro e k v rows ho he;refine ho.keep hk (λg hg hx=>?_);rcases h1 with⟨h0,_⟩|⟨g',cap',cur,h0,_,hb',_⟩
  .rw[h0]at hx;cases hx
  rw[h0]at hx;simp only[Value.ownBlock,zF]at hx;subst hx;exact ho.ne_blk hb' he hg rfl
 exact⟨ho,key h2 (by decide),is,key h3 (by decide),h4,λq r x hr hx=>by
  obtain⟨a1,a2,a3,a4⟩:=h5 q r x hr hx;exact⟨a1,a2,a3,key a4 (by decide)⟩,h6⟩
theorem aYU (B d b:Nat) (S:PSt) (c:PCall) (r:PRes) (w:World) (h:DoAt B w d b S c r) (hB:B<=w.heap.size) (hf:Fine S) (hop:S.op.length<=100000) (hp:(aA c.path).1=0) (hpl:(aA c.path).2.length<=1000000000):
 Calls prog 142 #[.pointer d] w (bL B w d b c (rK S c r)):=by
 obtain⟨bi,cap,ov,mv,nv,hP⟩:=h.part hf.pos;have ht:=hP.path hf c.path hp hpl;have a6:=fO hf (aA c.path).2 0 hf.pos;have iD:=hP.hD.lt;have d6:w.cell? ⟨d,6,none⟩=some (.string c.path):=hP.hD.cell 6;have HP:=aC hP;obtain⟨RR,hRR⟩:=gAB (rK S c r);rw[hRR];unfold rK at hRR;generalize aL S 0 (aA c.path).2=W at ht a6 hRR;obtain⟨K,C⟩:=W;simp only at a6 hRR;clear h hP hp hpl;by_cases hC:C=0
 .subst hC;rw[zA (by simp)]at hRR;obtain⟨x,hx⟩:=gAA a6
  rw[hx]at hRR;simp only at hRR;have a3:=aC hRR;clear hRR;go_in;go_upto_region 1 with(go_at_call 178;refine ht.mono ?_;rintro e w1 ⟨hb1,ho⟩;obtain rfl:=ho.ok;have HB:=aC hb1;clear hb1 ho)
  refine aD (F:=λwA=>DPart B wA d b bi cap ov mv nv S c r/\Bl w wA) ⟨HP.out.below HB.out,HB.out⟩ ?_;clear ht iD HP HB d6;rintro wA ⟨hA,hbA⟩;obtain⟨iI,x0,x1,x3⟩:=hA.dat hx;obtain⟨xn,xd,xe,xdat⟩:=x;have a3:=aC (show (if xd=true then Except.error 8 else if 4<=(dN c.core S.op 0 0 0).1 then Except.error 10 else Except.ok ({ S with op:=vI S.op (dN c.core S.op 0 0 0).2 ⟨c.core,(dN c.core S.op 0 0 0).1,xn⟩},{ r with fd:=(dN c.core S.op 0 0 0).1}):Except Int (PSt × PRes))=RR from a3.out);simp only at x0 x1;rcases xd with _|_
  .have HA:=bJ hA hbA;have b5:=aHF c.core S.op 0 0 0 (zC _) (zC _);obtain⟨R,hR⟩:=gAB (dN c.core S.op 0 0 0)
   rw[hR]at b5;have HR:=aC hR;have a3:=aC (show (if 4<=R.1 then Except.error 10 else Except.ok ({ S with op:=vI S.op R.2 ⟨c.core,R.1,xn⟩},{ r with fd:=R.1}):Except Int (PSt × PRes))=RR by rw[<-a3.out,hR];rfl);have iD:=hA.hD.lt;have iL:=hA.hb.lt;have d0:wA.cell? d=some (.pointer b):=hA.hD.cell 0;have d2:wA.cell? ⟨d,2,none⟩=some (.int .i64 c.core):=hA.hD.cell 2;have b1:wA.cell? ⟨b,1,none⟩=some ov:=hA.hb.cell 1;obtain⟨ao,co,rfl,hato⟩:=hA.st.read.1.at_;rw[lM]at b1;have HO:=aC hato;have HA:=aC (show DPart B wA d b bi cap (.slice ao S.op.length co) mv nv S c r/\Bl w wA by have h:=HA.out;rw[lM]at h;exact h);have HX:=aC hx;clear hA hbA hx x3 hR hato;go_wp2_with(go_at_call 172;refine aE (aG _ _) λp=>?_)
   go_loopw[3,4,27] (λv3 v4 v27 wr=>∃(q f a:Nat),v27=.int .i64 q/\v3=.int .i64 f/\v4=.int .i64 a/\q<=S.op.length/\f<=q/\a<=q/\dN c.core (S.op.drop q) q f a=R/\Bl wA wr) (λ_ _ v27 _=>(S.op.length-intOf v27).toNat)
   case atStart=>exact⟨0,0,0,rfl,rfl,rfl,by omega,by omega,by omega,HR.out,bel _ _⟩
   obtain⟨q,f,a,rfl,rfl,rfl,hq,hfq,haq,hre,hb⟩:=hrel;have iB:Bel wA wr:=⟨hb⟩;have c2:BlockLt d wr:=⟨by have:=hb.size;have:=iD.lt;omega⟩;have r0:wr.cell? d=some (.pointer b):=(hb.cell (p:=d) iD.lt).trans d0;have r2:wr.cell? ⟨d,2,none⟩=some (.int .i64 c.core):=(hb.cell (p:=⟨d,2,none⟩) iD.lt).trans d2;by_cases a6:q<S.op.length
   .obtain⟨y,hy⟩:=gAA a6
    rw[cQ hy]at hre;unfold dN at hre;obtain⟨bo,off,rfl,iG0,iG,hc⟩:=HO.out wr hb q y.cells (by rw[gM,hy];rfl);have y0:=hc 0 _ rfl;have y1:=hc 1 _ rfl;have y2:=hc 2 _ rfl;rw[zN]at y0;have c9:IntKind.i64.wrap ((f:Int)+1)=((f+1:Nat):Int):=I64.wrap ⟨by omega,by omega⟩;have d1:IntKind.i64.wrap ((q:Int)+1)=((q+1:Nat):Int):=I64.wrap ⟨by omega,by omega⟩;have b2:=aC hre;clear hc hy hre;by_cases g1:y.core<c.core
    .have c3:decide (y.core<c.core)=true:=decide_eq_true g1;have b3:(y.core==c.core)=false:=by simp;omega
     have e1:¬(y.core=c.core/\y.fd=(f:Int)):=by omega
     go_upto_region 6 with fail;refine qR ?_
     repeat(go_big_quiet_step (fail))
     refine QN λp=>?_;go_wp2;refine qR ?_
     repeat(go_big_quiet_step (fail))
     refine QN λp=>?_;go_wp2;go_roundw
     case rel=>exact⟨q+1,f,q+1,by go_num,rfl,by go_num,by omega,by omega,by omega,by have:=b2.out;rw[zA e1,zB (.inl g1)]at this;exact this,bel _ _⟩
     simp[intOf];omega
    have c3:decide (y.core<c.core)=false:=yM g1;by_cases g2:y.core=c.core
    .have b3:(y.core==c.core)=true:=by simpa using g2
     by_cases g3:y.fd=(f:Int)
     .have b6:(y.fd==(f:Int))=true:=by simpa using g3
      clear g2 g3;go_upto_region 6 with fail;refine qR ?_
      repeat(go_big_quiet_step (fail))
      refine QN λp=>?_;go_wp2;refine qR ?_
      repeat(go_big_quiet_step (fail))
      refine QN λp=>?_;go_wp2;go_roundw
      case rel=>exact⟨q+1,f+1,q+1,by go_num,by go_num,by go_num,by omega,by omega,by omega,by have:=b2.out;rw[zB ⟨by simpa using b3,by simpa using b6⟩,zB (.inr ⟨by simpa using b3,by simpa using b6⟩)]at this;exact this,bel _ _⟩
      simp[intOf];omega
     have b6:(y.fd==(f:Int))=false:=by simpa using g3
     clear g2;go_upto_region 6 with fail;refine qR ?_
     repeat(go_big_quiet_step (fail))
     refine QN λp=>?_;go_wp2;refine qR ?_
     repeat(go_big_quiet_step (fail))
     refine QN λp=>?_;go_wp2;go_roundw
     case rel=>exact⟨q+1,f,a,by go_num,rfl,rfl,by omega,by omega,by omega,by have:=b2.out;rw[zA (λh=>g3 h.2),zA (λh=>h.elim (λh=>absurd h (by omega)) (λh=>g3 h.2))]at this;exact this,bel _ _⟩
     simp[intOf];omega
    have b3:(y.core==c.core)=false:=by simpa using g2
    go_upto_region 6 with fail;refine qR ?_
    repeat(go_big_quiet_step (fail))
    refine QN λp=>?_;go_wp2;refine qR ?_
    repeat(go_big_quiet_step (fail))
    refine QN λp=>?_;go_wp2;go_roundw
    case rel=>exact⟨q+1,f,a,by go_num,rfl,rfl,by omega,by omega,by omega,by have:=b2.out;rw[zA (λh=>g2 h.1),zA (λh=>h.elim (λh=>absurd h (by omega)) (λh=>g2 h.1))]at this;exact this,bel _ _⟩
    simp[intOf];omega
   rw [zS (by omega)]at hre;unfold dN at hre;subst hre;have hP:=HA.out.1.below hb;have b4:Bl w wr:=HA.out.2.trans (hb.mono HA.out.2.size);by_cases hf4:4<=f
   .obtain rfl:RR=.error 10:=by rw[<-a3.out];exact zB hf4
    have b7:(4:Int)<=f:=by omega
    have HP:=aC b4;clear hP b4 HA a3 HR;go_wp2_with(go_at_call 172;refine aE (aP _ _) λp=>?_);exact⟨rfl,(HP.out.trans ((bel wr _).mono HP.out.size)).mono hB,rfl⟩
   obtain rfl:RR=.ok ({ S with op:=vI S.op a ⟨c.core,f,xn⟩},{ r with fd:=f}):=by rw[<-a3.out];exact zA hf4
   have b7:¬(4:Int)<=f:=by omega
   obtain⟨iI,x0,-,-⟩:=hP.dat (HX.out);simp only at x0;have b1:wr.cell? ⟨b,1,none⟩=some (.slice ao S.op.length co):=by have:=hP.hb.cell 1;simpa using this
   have c4:=hP.hb.lt;have HP:=bJ hP b4;clear hP b4 a3 HR;go_upto_region 12 with(go_at_call 172;refine aE (aG _ _) λp=>?_)
   refine aD (F:=λwz=>DPart B wz d b bi cap (.slice ao S.op.length co) mv nv S c r/\Bl w wz) ⟨HP.out.1.below (bel wr _),HP.out.2.trans ((bel wr _).mono HP.out.2.size)⟩ ?_;clear iI x0 b1 c4 HP r0 r2 c2 d0 d2 iD iL hb iB HA HO;rintro wz ⟨hz,hbz⟩;have iD:=hz.hD.lt;have iL:=hz.hb.lt;have d0:wz.cell? d=some (.pointer b):=hz.hD.cell 0;have d2:wz.cell? ⟨d,2,none⟩=some (.int .i64 c.core):=hz.hD.cell 2;have b1:wz.cell? ⟨b,1,none⟩=some (.slice ao S.op.length co):=by have:=hz.hb.cell 1;simpa using this
   obtain⟨iI,x0,-,-⟩:=hz.dat HX.out;simp only at x0;obtain⟨u1,u2,is,u3,u4,u5,u6⟩:=hz.st;have c1:B<=wz.heap.size:=zD hB hbz.size;have d3:a<=S.op.length:=by omega
   have a7:∀ww gv,Bl wz ww->wz.heap.size<=gv->Blk ww gv #[c.core,f,xn] 95->Calls prog 179 #[.slice ao S.op.length co,a,.slice (some ⟨gv,0,none⟩) 1 1] ww _:=λww gv hb hg hgv=>
    aOC B _ (S.op.map PDesc.cells) a gv [.int .i64 c.core,.int .i64 f,.int .i64 xn] ww (u1.keep (Keep.of_below hb (λ_=>False)) (λ_ _ h=>h)) (nD _) (qA _) (by rw[lM];omega) (by rw[lM];omega) hgv rfl (by intro u hu;simp only[mem_cons,not_mem_nil,or_false]at hu;rcases hu with rfl|rfl|rfl<;>rfl) (λe=>by have:=u1.lt e;omega) (zD c1 hb.size)
   have HZ:=eH hz hbz a7;clear hz hbz a7 u1 u2 u3 u4 u5 u6;refine aH [23,24,27] true (λw'=>w'.cell? d=some (.pointer b)/\w'.cell? ⟨d,2,none⟩=some (.int .i64 c.core)/\w'.cell? ⟨b,1,none⟩=some (.slice ao S.op.length co)/\w'.cell? ⟨bi,K*4,none⟩=some (.int .i64 xn)) (by kernel_rfl) (by kernel_rfl) ?_ ?_
   · (try dsimp only);(repeat' apply And.intro)<;>go_simp
   repeat
    apply aI0 rfl rfl
    focus
     rintro w' ⟨s0,s1,s2,s3⟩;go_simp
     first|done|rfl
    simp only[Act.put,sA,sZ,sS]
   refine nS rfl rfl ?_;apply Exists.intro;apply Exists.intro;refine⟨?_,?_,?_⟩
   focus
    go_simp;exact⟨rfl,rfl⟩
   focus
    refine .inl ⟨?_,?_,?_,?_⟩<;>go_simp
   simp only[Act.put,sA,sZ,sS];refine bB rfl rfl ?_;refine aS 179 #[.slice ao S.op.length co,.int .i64 a,.slice wz.heap.size 1 1] ?hr ?_
   case hr=>
    go_simp
    first|done|rfl
   refine(HZ.out.2.2 (wz.drew.alloc (.cells #[c.core,f,xn] 95)) wz.heap.size (bel wz _) (zC _) (Blk.new_i _ _ _ _)).mono ?_;rintro e w5 ⟨v',rfl,ho5,hk5,_⟩;obtain⟨hz,hbz,-⟩:=HZ.out;have a0:=(Keep.of_below (bel wz (wz.drew.alloc (.cells #[c.core,f,xn] 95))) (λg=>(Value.slice ao S.op.length co).ownBlock=some g)).trans hk5 (λ_ _ h=>h);have a4:=hz.st.setOp3 (op':=vI S.op a ⟨c.core,f,xn⟩) a0 (by unfold vI;rw[yS,xB,map_take,map_drop];exact ho5);have a8:∀{g:Nat} {cc:Array Value} {t:TypeId},Blk wz g cc t->t≠95->¬(Value.slice ao S.op.length co).ownBlock=some g:=λhb ht hg=>hz.st.1.ne_blk hb (λe=>ht e.symm) hg rfl;have a1:=a0.blk hz.hD (a8 hz.hD (by decide));have a2:=a0.blk hz.hb (a8 hz.hb (by decide));have a9:=hz.nm.keep a0 (λg hg h=>by
    rcases hz.nm with⟨h0,_⟩|⟨g',cap',cur,h0,_,hb',_⟩
    .rw[h0]at hg;cases hg
    rw[h0]at hg;simp only[Value.ownBlock,zF]at hg;subst hg;exact a8 hb' (by decide) h)
   have a5:Below B w w5:=(hbz.mono hB).trans (a0.below c1 (λi hi h=>by have:=hz.st.1.ge h;omega));have y0:w5.cell? d=some (.pointer b):=a1.cell 0;have y2:w5.cell? ⟨d,2,none⟩=some (.int .i64 c.core):=a1.cell 2;have y1:w5.cell? ⟨b,1,none⟩=some (.slice ao S.op.length co):=by have:=a2.cell 1;simpa using this
   have d4:=a2.frozen 1;have jD:=a1.lt;have jB:=a2.lt;have d5:w5.cell? ⟨d,10,none⟩=some (.int .i64 r.fd):=a1.cell 10;have c5:=a1.frozen 10;have c6:¬d=b:=a1.ne_ a2 (by decide);have d7:¬b=d:=λe=>c6 e.symm;have b0:∃c,Blk wz bi c 68:=by
    obtain⟨_,_,is,u3,_⟩:=hz.st;rcases u3 with⟨h0,_⟩|⟨g',_,arr,h0,_,hb',_⟩
    .simp at h0
    simp only[zO,zF,yG]at h0;obtain⟨⟨rfl,-,-⟩,-,-⟩:=h0;exact⟨_,hb'⟩
   obtain⟨cc,hcc⟩:=b0;have b8:=a0.blk hcc (a8 hcc (by decide));have c7:=b8.lt;have x5:w5.cell? ⟨bi,K*4,none⟩=some (.int .i64 xn):=by rw[b8.cell,<-hcc.cell];exact x0
   obtain⟨va,vn,vc,rfl⟩:=ho5.form;have H5:=jj7 a4 a1 a2 a9 a5 hz.hBb hz.hBd;clear a4 a1 a2 a9 a0 hk5 ho5 a8 hz hbz hcc b8 a5 HZ;refine⟨_,rfl,.inl ⟨y0,y2,y1,x5⟩,?_⟩;simp only[Act.put,sA,sZ,sS]
   repeat
    apply aI0 rfl rfl
    focus
     rintro w' ⟨s0,s1,s2,s3⟩;go_simp
     first|done|rfl
    simp only[Act.put,sA,sZ,sS]
   refine aW rfl rfl ?_;apply Exists.intro;refine⟨?_,.inr ⟨rfl,rfl⟩,?_⟩
   focus
    go_simp;rfl
   simp only[Act.put];refine aU ?_;clear d0 d2 b1 x0 iD iL iI x5 c7 y2;go_wp2_with fail;obtain⟨a4,a1,a2,a9,a5,e1,e2⟩:=H5.out;have b9:Keep (λg=>g=b) w5 (w5.setCell ⟨b,1,none⟩ (.slice va vn vc)):=Keep.setCell (S:=λg=>g=b) (p:=⟨b,1,none⟩) (Keep.refl _ _) (.inl rfl) _;have c0:DoAt B ((w5.setCell ⟨b,1,none⟩ (.slice va vn vc)).setCell ⟨d,10,none⟩ (.int .i64 f)) d b { S with op:=vI S.op a ⟨c.core,f,xn⟩} c { r with fd:=f}:=by have hp:DPart B (w5.setCell ⟨b,1,none⟩ (.slice va vn vc)) d b bi cap (.slice va vn vc) mv nv { S with op:=vI S.op a ⟨c.core,f,xn⟩} c r:=⟨e1,e2,b9.blk a1 (a1.ne_ a2 (by decide)),by have:=a2.set_ 1 (.slice va vn vc);simpa using this,a4.keep b9 (λg hg=>by rw[hg];exact⟨_,26,a2,by decide,by decide,by decide,by decide⟩),a9.keep b9 (λg hg=>a9.ne_blk a2 (by decide) hg)⟩;exact(hp.res (t:=10) (r':={ r with fd:=f}) rfl rfl).at_
   have c8:Below B w ((w5.setCell ⟨b,1,none⟩ (.slice va vn vc)).setCell ⟨d,10,none⟩ (.int .i64 f)):=(a5.setCell (p:=⟨b,1,none⟩) e1 _).setCell (p:=⟨d,10,none⟩) e2 _;exact xE (v:=.tuple #[]) (by simp[results,go_sem]) rfl ⟨c8,rfl,c0⟩
  obtain rfl:RR=.error 8:=by rw[<-a3.out];rfl
  have HA:=aC hbA;clear hA hbA hx x3;go_wp2_with(go_at_call 172;refine aE (aP _ _) λp=>?_);exact⟨rfl,(HA.out.trans ((bel wA _).mono HA.out.size)).mono hB,rfl⟩
 rw[zB hC]at hRR;subst hRR;go_in;go_wp2_with(go_at_call 178;refine ht.mono ?_;rintro e w1 ⟨hb1,ho⟩;obtain rfl:=ho.bad hC);exact⟨rfl,hb1.mono hB,rfl⟩
end
section
variable {B K b bi cap d:Nat} {S:PSt} {c:PCall} {mv nv ov:Value} {r:PRes} {w:World} {x:PIn}
theorem DPart.setData (h:DPart B w d b bi cap ov mv nv S c r) (hx:S.ins[K]? =some x) (z:ByteArray):
 DPart B (w.setCell ⟨bi,K*4+3,none⟩ (.string z)) d b bi cap ov mv nv { S with ins:=S.ins.set K { x with data:=z}} c r:=by
 obtain⟨h1,h2,cc,h3⟩:=h.st.setData hx z;have hK:Keep (λk=>k=bi) w (w.setCell ⟨bi,K*4+3,none⟩ (.string z)):=Keep.setCell (S:=λk=>k=bi) (p:=⟨bi,K*4+3,none⟩) (Keep.refl _ _) (.inl rfl) _;refine⟨h.hBb,h.hBd,hK.blk h.hD (h.hD.ne_ h3 (by decide)),?_,?_,h.nm.keep hK (λg hg e=>h.nm.ne_blk h3 (by decide) hg e)⟩
 .show Blk _ b #[.slice bi (S.ins.set K { x with data:=z}).length cap,ov,mv] 26;rw[yB];exact hK.blk h.hb (h.hb.ne_ h3 (by decide))
 show StOwn B _ (.slice bi (S.ins.set K { x with data:=z}).length cap) ov mv _;rw[yB];exact h1
theorem DPart.ge_bi (h:DPart B w d b bi cap ov mv nv S c r) (hx:S.ins[K]? =some x):B<=bi/\∃cc,Blk w bi cc 68:=by obtain⟨h1,h2,h3⟩:=h.st.setData hx x.data;exact⟨h2,h3⟩
def aIK (S:PSt) (c:PCall) (r:PRes):Except Int (PSt × PRes):=match eL S c with
 |none=>.error 4
 |some y=>.ok ({ S with ins:=S.ins.set y.1 { y.2 with data:=aBD y.2.data c.off.toNat c.data}},{ r with num:=c.data.size})
theorem aFJ (B d b:Nat) (S:PSt) (c:PCall) (r:PRes) (w:World) (h:DoAt B w d b S c r) (hB:B<=w.heap.size) (hf:Fine S) (hk:c.kind=5) (hoff0:0<=c.off) (hsum:c.off+c.data.size<=256) (a3:∀x∈S.ins,x.data.size<=1000000):
 Calls prog 146 #[.pointer d] w (bL B w d b c (aIK S c r)):=by
 obtain⟨bi,cap,ov,mv,nv,hP⟩:=h.part hf.pos;have ht:=hP.file hf;have iD:=hP.hD.lt;unfold qO at ht;unfold aIK;generalize hX:eL S c=X at ht |-;rcases X with _|⟨K,x⟩
 .simp only at ht |-
  go_in;go_wp2_with(go_at_call 143;refine ht.mono ?_;rintro e w1 ⟨hb1,rfl⟩);exact⟨rfl,hb1.mono hB,rfl⟩
 simp only at ht |-;obtain⟨hx,hKl⟩:=kF hX;have b1:=a3 x (mG hx);generalize cV (eW c) S.op=I at ht;have HP:=aC hP;have a0:=λww=>rT c.off ww;have a2:=λww=>rT (c.data.size:Int) ww;rw[show tA c.off=true by unfold tA;simp;omega]at a0;rw[show tA (c.data.size:Int)=true by unfold tA;simp;omega]at a2;obtain⟨o,ho⟩:∃o:Nat,c.off=o:=⟨c.off.toNat,by omega⟩;have a5:=λww=>aXY x.data c.data o ww (by omega) (by omega) (by omega);have eo:c.off.toNat=o:=by omega
 rw[eo];rw[ho]at a0 hsum;generalize aBD x.data o c.data=z at a5 |-;have HO:=aC ho;clear h hP hX a3 eo ho hoff0;have a3:(c.data.size:Int)<=256:=by omega
 have b2:decide ((256:Int)<(o:Int)+c.data.size)=false:=yM (by omega);have b3:IntKind.i64.wrap ((o:Int)+c.data.size)=(o:Int)+c.data.size:=I64.wrap ⟨by omega,by omega⟩;have a7:(o:Int)+c.data.size<=256:=by omega
 go_in;go_upto_region 1 with(go_at_call 143;refine ht.mono ?_;rintro e w1 ⟨hb1,rfl⟩;have HB:=aC hb1;clear hb1)
 refine aD (F:=λwA=>DPart B wA d b bi cap ov mv nv S c r/\Bl w wA) ⟨HP.out.below HB.out,HB.out⟩ ?_;clear ht iD HP HB;rintro wA ⟨hA,hbA⟩;have iD:=hA.hD.lt;have a1:wA.cell? ⟨d,1,none⟩=some (.int .i64 c.kind):=hA.hD.cell 1;have a4:wA.cell? ⟨d,4,none⟩=some (.int .i64 c.off):=hA.hD.cell 4;have a8:wA.cell? ⟨d,8,none⟩=some (.string c.data):=hA.hD.cell 8;have b4:wA.cell? ⟨d,11,none⟩=some (.int .i64 r.num):=hA.hD.cell 11;have b5:=hA.hD.frozen 11;rw[hk]at a1;rw[HO.out]at a4;obtain⟨iI,x0,x1,x3⟩:=hA.dat hx;obtain⟨hge,cc,hcc⟩:=hA.ge_bi hx;have f3:=hcc.frozen (K*4+3);have a9:¬bi=d:=hcc.ne_ hA.hD (by decide);have b0:¬d=bi:=λe=>a9 e.symm;have HA:=mJ hA hbA hx hge;clear hA hbA hx hge hcc;go_upto_region 8 with(first|(go_at_call 183;with_reducible refine aE (a0 _) λp=>?_)|(go_at_call 183;with_reducible refine aE (a2 _) λp=>?_)|(go_at_call 172;refine aE (aG _ _) λp=>?_))
 refine qR ?_
 repeat(go_big_quiet_step (((with_reducible first|refine cI (aG _ _)|refine cJ (aG _ _)))))
 refine QN λp=>?_;go_upto_region 9 with fail;refine aH [15,18] true (λw'=>w'.cell? ⟨d,4,none⟩=some (.int .i64 o)/\w'.cell? ⟨d,8,none⟩=some (.string c.data)/\w'.cell? ⟨bi,K*4+3,none⟩=some (.string x.data)) (by kernel_rfl) (by kernel_rfl) ?_ ?_
 · (try dsimp only);(repeat' apply And.intro)<;>go_simp
 repeat
  apply aI0 rfl rfl
  focus
   rintro w' ⟨s0,s1,s2⟩;go_simp
   first|done|rfl
  simp only[Act.put,sA,sZ,sS]
 refine bB rfl rfl ?_;refine aS 185 #[.string x.data,.int .i64 o,.string c.data] ?hr ?_
 case hr=>
  go_simp
  first|done|rfl
 refine aE (a5 _) λq1=>?_;refine⟨_,rfl,.inl ?_,?_⟩
 · (try dsimp only);(repeat' apply And.intro)<;>go_simp
 simp only[Act.put,sA,sZ,sS]
 repeat
  apply aI0 rfl rfl
  focus
   rintro w' ⟨s0,s1,s2⟩;go_simp
   first|done|rfl
  simp only[Act.put,sA,sZ,sS]
 refine aW rfl rfl ?_;apply Exists.intro;refine⟨?_,.inr ⟨rfl,rfl⟩,?_⟩
 focus
  go_simp;rfl
 simp only[Act.put,sA,sZ,sS];refine aU ?_;clear a4 x0 x1 x3;go_wp2_with fail;have a6:Below B w ((wA.setCell ⟨bi,K*4+3,none⟩ (.string z)).setCell ⟨d,11,none⟩ (.int .i64 c.data.size)):=((HA.out.2.1.mono hB).setCell (p:=⟨bi,K*4+3,none⟩) HA.out.2.2.2 _).setCell (p:=⟨d,11,none⟩) HA.out.1.hBd _;exact xE (v:=.tuple #[]) (by simp[results,go_sem]) rfl ⟨a6.trans ((bel _ _).mono (zD hB a6.size)),rfl,(((HA.out.1.setData HA.out.2.2.1 z).res (t:=11) (r':={ r with num:=c.data.size}) rfl rfl).below (bel _ _)).at_⟩
end
section
theorem OwnP.blk_of {B:Nat} {w:World} {e:TypeId} {k:Nat} {v:Value} {rows:List (List Value)} (h:OwnP B w e k v rows) {g:Nat} (hg:v.ownBlock=some g):∃cc,Blk w g cc e:=by
 rcases h with⟨h0,_⟩|⟨g',cap',cur,h0,_,hb',_⟩
 .rw[h0]at hg;cases hg
 rw[h0]at hg;simp only[Value.ownBlock,zF]at hg;subst hg;exact⟨_,hb'⟩
section
variable {B:Nat} {w w':World} {d b bi cap:Nat} {ov mv nv:Value} {S:PSt} {c:PCall} {r:PRes}
theorem DPart.ents {K:Nat} {x:PIn} (h:DPart B w d b bi cap ov mv nv S c r) (hx:S.ins[K]? =some x):∃ev,w.cell? ⟨bi,K*4+2,none⟩=some ev/\OwnP B w 97 2 ev (x.ents.map PEnt.cells):=by obtain⟨_,_,is,h3,h4,h5,_⟩:=h.st;obtain⟨hl,_⟩:=gI.1 hx;obtain⟨rr,hrr⟩:∃rr,is[K]? =some rr:=⟨_,gE (by omega)⟩;obtain⟨a1,a2,a3,a4⟩:=h5 K rr x hrr hx;refine⟨rr.ev,?_,a4⟩;obtain⟨a,c',he,hat⟩:=h3.row.at_;obtain⟨g,off,he2,_,_,hc⟩:=hat w (Below.refl _ _) K rr.cells (by rw[gM,hrr];rfl);subst he2;simp only[zO,zF,yG]at he;obtain⟨⟨rfl,rfl,-⟩,-,-⟩:=he;have:=hc 2 _ rfl;simpa using this
theorem DPart.named {s:ByteArray} {v':Value} (h:DPart B w d b bi cap ov mv nv S c r) (hg:Grew B 9 1 w nv ((r.names++[s]).map cL) v' w'):DPart B (w'.setCell ⟨d,14,none⟩ v') d b bi cap ov mv v' S c { r with names:=r.names++[s]}:=by
 obtain⟨ho,hk,hat⟩:=hg;have a1:∀{g:Nat} {cc:Array Value} {t:TypeId},Blk w g cc t->t≠9->¬nv.ownBlock=some g:=λhb ht hg=>h.nm.ne_blk hb (λe=>ht e.symm) hg rfl;have hD:=hk.blk h.hD (a1 h.hD (by decide));have hb:=hk.blk h.hb (a1 h.hb (by decide));have a2:=h.st.keep hk (λg hg=>by
  obtain⟨cc,hcc⟩:=h.nm.blk_of hg;exact⟨_,9,hcc,by decide,by decide,by decide,by decide⟩)
 have a0:Keep (λk=>k=d) w' (w'.setCell ⟨d,14,none⟩ v'):=Keep.setCell (S:=λk=>k=d) (p:=⟨d,14,none⟩) (Keep.refl _ _) (.inl rfl) _;refine⟨h.hBb,h.hBd,?_,a0.blk hb (hb.ne_ hD (by decide)),a2.keep a0 (λg hg=>by rw[hg];exact⟨_,136,hD,by decide,by decide,by decide,by decide⟩),ho.keep a0 (λg hg=>ho.ne_blk hD (by decide) hg)⟩;exact hD.set_ 14 v'
theorem DPart.named_ents {rows:List (List Value)} {ev:Value} {s:ByteArray} {v':Value} (h:DPart B w d b bi cap ov mv nv S c r) (hg:Grew B 9 1 w nv ((r.names++[s]).map cL) v' w') (he:OwnP B w 97 2 ev rows):OwnP B (w'.setCell ⟨d,14,none⟩ v') 97 2 ev rows:=by
 obtain⟨ho,hk,hat⟩:=hg;have h1:OwnP B w' 97 2 ev rows:=he.keep hk (λg hg hh=>by
  obtain⟨cc,hcc⟩:=h.nm.blk_of hh;exact he.ne_blk hcc (by decide) hg rfl)
 have hD:=hk.blk h.hD (λhh=>by
  obtain⟨cc,hcc⟩:=h.nm.blk_of hh;exact h.hD.ne_ hcc (by decide) rfl)
 have a0:Keep (λk=>k=d) w' (w'.setCell ⟨d,14,none⟩ v'):=Keep.setCell (S:=λk=>k=d) (p:=⟨d,14,none⟩) (Keep.refl _ _) (.inl rfl) _;exact h1.keep a0 (λg hg=>h1.ne_blk hD (by decide) hg)
end
theorem aEP {α:Type} {l:List α} {q:Nat} {x:α} (h:l[q]? =some x):l.take (q+1)=l.take q++[x]:=by rw[take_add_one,h];rfl
def aCP (S:PSt) (c:PCall) (r:PRes):Except Int (PSt × PRes):=
 if(aL S 0 (aA c.path).2).2≠0 then .error (aL S 0 (aA c.path).2).2 else
 match S.ins[(aL S 0 (aA c.path).2).1]? with
 |none=>.ok (S,r)
 |some x=>if x.dir=true then .ok (S,{ r with names:=r.names++x.ents.map PEnt.name})else .error 7
theorem aOR (B d b:Nat) (S:PSt) (c:PCall) (r:PRes) (w:World) (h:DoAt B w d b S c r) (hB:B<=w.heap.size) (hf:Fine S) (hk:c.kind=12) (hrn:r.names.length<=1000000000) (hp:(aA c.path).1=0) (hpl:(aA c.path).2.length<=1000000000):
 Calls prog 150 #[.pointer d] w (bL B w d b c (aCP S c r)):=by
 obtain⟨i9x,hi9,h90,h91,h92⟩:=info_parts aTJ;obtain⟨bi,cap,ov,mv,nv,hP⟩:=h.part hf.pos;have ht:=hP.path hf c.path hp hpl;have a1:=fO hf (aA c.path).2 0 hf.pos;have iD:=hP.hD.lt;have d1:w.cell? ⟨d,1,none⟩=some (.int .i64 c.kind):=hP.hD.cell 1;have d6:w.cell? ⟨d,6,none⟩=some (.string c.path):=hP.hD.cell 6;rw[hk]at d1;have HP:=aC hP;obtain⟨RR,hRR⟩:=gAB (aCP S c r);rw[hRR];unfold aCP at hRR;generalize aL S 0 (aA c.path).2=W at ht a1 hRR;obtain⟨K,C⟩:=W;simp only at a1 hRR;clear h hP hp hpl;by_cases hC:C=0
 .subst hC;rw[zA (by simp)]at hRR;obtain⟨x,hx⟩:=gAA a1
  rw[hx]at hRR;simp only at hRR;have b6:x.ents.length<=1000000000:=(hf.wf.2.2.2.1 x (mG hx)).2.1;have a2:=aC hRR;clear hRR;go_in;go_upto_region 1 with(go_at_call 178;refine ht.mono ?_;rintro e w1 ⟨hb1,ho⟩;obtain rfl:=ho.ok;have HB:=aC hb1;clear hb1 ho)
  refine aD (F:=λwA=>DPart B wA d b bi cap ov mv nv S c r/\Below w.heap.size w wA) ⟨HP.out.below HB.out,HB.out⟩ ?_;clear ht iD HP HB d6 d1;rintro wA ⟨hA,hbA⟩;have iD:=hA.hD.lt;have d1:wA.cell? ⟨d,1,none⟩=some (.int .i64 c.kind):=hA.hD.cell 1;rw[hk]at d1;obtain⟨iI,x0,x1,x3⟩:=hA.dat hx;obtain⟨ev,x2,hev⟩:=hA.ents hx;obtain⟨xn,xd,xe,xdat⟩:=x;simp only at x0 x1 x2 hev b6;have HX:=eH hA hbA hev;have a2:=aC (show (if xd=true then Except.ok (S,{ r with names:=r.names++xe.map PEnt.name})else Except.error 7:Except Int (PSt × PRes))=RR from a2.out);rcases xd with _|_
  .obtain rfl:RR=.error 7:=by rw[<-a2.out];rfl
   clear hA hbA hev hx x2 x3;go_wp2_with(go_at_call 172;refine aE (aP _ _) λp=>?_);exact⟨rfl,(HX.out.2.1.trans ((bel wA _).mono HX.out.2.1.size)).mono hB,rfl⟩
  obtain rfl:RR=.ok (S,{ r with names:=r.names++xe.map PEnt.name}):=by rw[<-a2.out];rfl
  obtain⟨ae,ce,rfl,-⟩:=hev.row.at_;rw[lM]at x2;have HX:=aC (show DPart B wA d b bi cap ov mv nv S c r/\Below w.heap.size w wA/\OwnP B wA 97 2 (.slice ae xe.length ce) (xe.map PEnt.cells) by have h:=HX.out;rw[lM]at h;exact h);clear hA hbA hev hx x3 a2;go_wp2_with(go_at_call 172;refine aE (aG _ _) λp=>?_)
  go_loopw[50] (λv50 wr=>∃(q:Nat) (nv':Value),v50=.int .i64 q/\q<=xe.length/\DPart B wr d b bi cap ov mv nv' S c { r with names:=r.names++(xe.take q).map PEnt.name}/\OwnP B wr 97 2 (.slice ae xe.length ce) (xe.map PEnt.cells)/\Below B w wr) (λv50 _=>(xe.length-intOf v50).toNat)
  case atStart=>exact⟨0,nv,rfl,by omega,by simpa using HX.out.1.below (bel wA (wA.junk p)),HX.out.2.2.keep (Keep.of_below (bel wA (wA.junk p)) (λ_=>False)) (λ_ _ h=>h),(HX.out.2.1.trans ((bel wA (wA.junk p)).mono HX.out.2.1.size)).mono hB⟩
  obtain⟨q,nv',rfl,hq,hP,hev,hb⟩:=hrel;have b1:=hP.hD.lt;by_cases a1:q<xe.length
  .obtain⟨e,he⟩:=gAA a1
   obtain⟨a',c',e',hat⟩:=hev.row.at_;simp only[zO]at e';obtain⟨rfl,-,rfl⟩:=e';obtain⟨bo,off,rfl,iG0,iG,hc⟩:=hat wr (Below.refl _ _) q e.cells (by rw[gM,he];rfl);have y0:=hc 0 _ rfl;have y1:=hc 1 _ rfl;rw[zN]at y0;have a6:wr.cell? ⟨d,14,none⟩=some nv':=hP.hD.cell 14;have b7:=hP.hD.frozen 14;have b2:(r.names++(xe.take q).map PEnt.name).length<=2000000000:=by simp;omega
   have c2:=hP.nm.one;obtain⟨an,nn,cn,rfl⟩:=hP.nm.form;have HR:=mJ hP hev hb he;have c3:(q:Int)<xe.length:=by omega
   have b8:B<=wr.heap.size:=by have:=hP.hBd;have:=b1.lt;omega
   clear hP hev hb he hat hc;go_upto_region 9 with fail;refine aD (F:=λwz=>DPart B wz d b bi cap ov mv (.slice an nn cn) S c { r with names:=r.names++(xe.take q).map PEnt.name}/\OwnP B wz 97 2 (.slice (some ⟨bo,off,none⟩) xe.length ce) (xe.map PEnt.cells)/\Below B w wz/\Blk wz wr.heap.size #[e.name,e.num] 97) ⟨HR.out.1.below (bel wr _),HR.out.2.1.keep (Keep.of_below (bel wr _) (λ_=>False)) (λ_ _ h=>h),HR.out.2.2.1.trans ((bel wr _).mono b8),Blk.new _ _ _⟩ ?_;obtain⟨g4,hg4⟩:∃g,wr.heap.size=g:=⟨_,rfl⟩;rw[hg4];clear y0 y1 a6 b7 iG b1;rintro wz ⟨hP,hev,hb,h4⟩;have b3:=hP.hD.lt;have a6:wz.cell? ⟨d,14,none⟩=some (.slice an nn cn):=hP.hD.cell 14;have i4:=h4.lt;have z0:=h4.cell 0;simp at z0;have b9:B<=wz.heap.size:=by have:=hP.hBd;have:=b3.lt;omega
   have HZ:=eH hP hev hb;have H4:=aC h4;clear hP hev hb h4;refine aH [8,9,13] true (λw'=>w'.cell? ⟨d,14,none⟩=some (.slice an nn cn)/\w'.cell? g4=some (.string e.name)) (by kernel_rfl) (by kernel_rfl) ?_ ?_
   · (try dsimp only);(repeat' apply And.intro)<;>go_simp
   repeat
    apply aI0 rfl rfl
    focus
     rintro w' ⟨s0,s1⟩;go_simp
     first|done|rfl
    simp only[Act.put,sA,sZ,sS]
   refine nS rfl rfl ?_;apply Exists.intro;apply Exists.intro;refine⟨?_,?_,?_⟩
   focus
    go_simp;exact⟨rfl,rfl⟩
   focus
    refine .inl ?_
    (try dsimp only);(repeat' apply And.intro)<;>go_simp
   simp only[Act.put,sA,sZ,sS];refine bB rfl rfl ?_;refine sO (.tmp 59) (.tmp 62) 50 ?e00 B 9 1 16 i9x _ underlying50 hi9 h90 h91 h92 ?e9 ?e10 (.slice an nn cn) (.slice wz.heap.size 1 1) ((r.names++(xe.take q).map PEnt.name).map cL) [cL e.name] ?e1 ?e3 ?e2 ?e4 ?e5 ?e6 ?e11 ?e12 ?e13 ?e14 ?_
   case e00=>rfl
   case e9=>rfl
   case e10=>decide
   case e1=>rfl
   case e3=>rfl
   case e2=>exact aMN _
   case e4=>intro cs hcs;simp at hcs;subst hcs;rfl
   case e5=>intro cs hcs u hu;simp at hcs;subst hcs;simp[cL]at hu;subst hu;rfl
   case e6=>exact(HZ.out.1.below (bel wz (wz.drew.alloc (Obj.cells #[e.name] 9)))).nm
   case e11=>exact RowAt.single (Blk.new wz.drew #[e.name] 9) 1 1
   case e12=>rw[lM];unfold maxLen;simp at b2 |-;omega
   case e13=>rw[lM];simp at b2 |-;omega
   case e14=>simp;omega
   intro v' w5 hg5;have a0:=HZ.out.1.below (bel wz (wz.drew.alloc (Obj.cells #[e.name] 9)));have a7:Grew B 9 1 (wz.drew.alloc (Obj.cells #[e.name] 9)) (.slice an nn cn) ((({ r with names:=r.names++(xe.take q).map PEnt.name}:PRes).names++[e.name]).map cL) v' w5:=by rw[yS];exact hg5
   have a3:=a0.named a7;have a4:=a0.named_ents a7 (HZ.out.2.1.keep (Keep.of_below (bel wz (wz.drew.alloc (Obj.cells #[e.name] 9))) (λ_=>False)) (λ_ _ h=>h));have a8:∀{g:Nat} {cc:Array Value} {t:TypeId},Blk (wz.drew.alloc (Obj.cells #[e.name] 9)) g cc t->t≠9->¬(Value.slice an nn cn).ownBlock=some g:=λhb ht hg=>a0.nm.ne_blk hb (λe=>ht e.symm) hg rfl;have a5:=hg5.2.1.blk a0.hD (a8 a0.hD (by decide));have b4:w5.cell? ⟨d,14,none⟩=some (.slice an nn cn):=a5.cell 14;have a9:=a5.frozen 14;have c4:=a5.lt;obtain⟨va,vn,vc,rfl⟩:=hg5.1.form;have b5:Below B w (w5.setCell ⟨d,14,none⟩ (.slice va vn vc)):=(HZ.out.2.2.trans (((bel wz (wz.drew.alloc (Obj.cells #[e.name] 9))).mono b9).trans (hg5.2.1.below (by simp;omega) (λi hi h=>by have:=a0.nm.ge h;omega)))).setCell (p:=⟨d,14,none⟩) HZ.out.1.hBd _;have b0:=hg5.2.1.blk (aB H4.out (bel wz (wz.drew.alloc (Obj.cells #[e.name] 9)))) (a8 (aB H4.out (bel wz (wz.drew.alloc (Obj.cells #[e.name] 9)))) (by decide));have t4:w5.cell? g4=some (.string e.name):=by have:=b0.cell 0;simpa using this
   have c0:=b0.lt;have HF:=eH a3 a4 b5;clear hg5 a7 a3 a4 b5 a0 a8 a5 b0;refine⟨.inl ⟨b4,t4⟩,?_⟩;simp only[Act.put,sA,sZ,sS]
   repeat
    apply aI0 rfl rfl
    focus
     rintro w' ⟨s0,s1⟩;go_simp
     first|done|rfl
    simp only[Act.put,sA,sZ,sS]
   refine aW rfl rfl ?_;apply Exists.intro;refine⟨?_,.inr ⟨rfl,rfl⟩,?_⟩
   focus
    go_simp;rfl
   simp only[Act.put,sA,sZ,sS];refine aU ?_;clear b4 a9 t4 c0 a6 i4 z0 b3;go_wp2;go_roundw
   case rel=>exact⟨q+1,_,by go_num,by omega,by have h:=HF.out.1;rw[show (({ r with names:=r.names++(xe.take q).map PEnt.name}:PRes).names++[e.name])=r.names++(xe.take (q+1)).map PEnt.name by rw[aEP HR.out.2.2.2];simp]at h;exact h,HF.out.2.1,HF.out.2.2⟩
   simp[intOf];omega
  have c1:q=xe.length:=by omega
  subst c1;rw[take_of_length_le (zC _)]at hP;have HR:=bJ hP hb;clear hP hb hev;go_wp2;exact xE (v:=.tuple #[]) (by simp[results,go_sem]) rfl ⟨HR.out.2,rfl,HR.out.1.at_⟩
 rw[zB hC]at hRR;subst hRR;go_in;go_wp2_with(go_at_call 178;refine ht.mono ?_;rintro e w1 ⟨hb1,ho⟩;obtain rfl:=ho.bad hC);exact⟨rfl,hb1.mono hB,rfl⟩
end
theorem dC {s:ByteArray} (h:(aA s).1=0):(aA s).2.length<=4:=by
 unfold aA at h |-;by_cases h1:64<s.size
 .rw[zB h1]at h;cases h
 rw [zA h1]at h |-;by_cases h2:0<s.size
 .rw [dif_pos h2]at h |-;by_cases h3:(((s[0]'h2).toNat:Int)==47)=false
  .rw[zB h3]at h;cases h
  rw[zA h3]at h |-;by_cases h4:s.size=1
  .rw[zB h4];exact Nat.zero_le _
  rw[zA h4]at h |-;simp only at h |-;generalize cM s (s++⟨#[47]⟩) (s++⟨#[47]⟩:ByteArray).size 0 1 []=r at h |-;by_cases h5:r.1=0/\4<r.2.length
  .rw[zB h5]at h;cases h
  rw[zA h5]at h |-;omega
 rw[dif_neg h2]at h;cases h
theorem aZT (B d b:Nat) (S:PSt) (c:PCall) (r:PRes) (w:World) (h:DoAt B w d b S c r) (hB:B<=w.heap.size) (hp:(aA c.path).1≠0):
 Calls prog 150 #[.pointer d] w (bL B w d b c (.error (eE (aA c.path).1))):=by
 have a0:∀ww,Bl w ww->Calls prog 178 #[.pointer d,c.path] ww _:=λww hb=>aIH d b S c c.path ww (h.read.below hb (zC _)) hp;obtain⟨iv,ov,mv,nv,hBb,hBd,hD,hbk,hst,hnv⟩:=h;have iD:=hD.lt;have d6:w.cell? ⟨d,6,none⟩=some (.string c.path):=hD.cell 6;clear hD hbk hst hnv;go_in;go_wp2_with(go_at_call 178;refine(a0 _ (bel _ _)).mono ?_;rintro e w1 ⟨rfl,hb1⟩);exact⟨rfl,hb1.mono hB,rfl⟩
def uJ (S:PSt) (c:PCall) (r:PRes):Except Int (PSt × PRes):=
 if(aL S 0 (aA c.path).2).2≠0 then .error (aL S 0 (aA c.path).2).2 else
 match S.ins[(aL S 0 (aA c.path).2).1]? with
 |none=>.ok (S,r)
 |some x=>if x.dir=true then .error 8 else .ok (S,{ r with num:=dR S x.num})
theorem aLA (B d b:Nat) (S:PSt) (c:PCall) (r:PRes) (w:World) (h:DoAt B w d b S c r) (hB:B<=w.heap.size) (hf:Fine S) (hk:c.kind=14) (hp:(aA c.path).1=0):
 Calls prog 150 #[.pointer d] w (bL B w d b c (uJ S c r)):=by
 obtain⟨bi,cap,ov,mv,nv,hP⟩:=h.part hf.pos;have ht:=hP.path hf c.path hp (zD (dC hp) (by decide));have a1:=fO hf (aA c.path).2 0 hf.pos;have iD:=hP.hD.lt;have d1:w.cell? ⟨d,1,none⟩=some (.int .i64 c.kind):=hP.hD.cell 1;have d6:w.cell? ⟨d,6,none⟩=some (.string c.path):=hP.hD.cell 6;rw[hk]at d1;have HP:=aC hP;obtain⟨RR,hRR⟩:=gAB (uJ S c r);rw[hRR];unfold uJ at hRR;generalize aL S 0 (aA c.path).2=W at ht a1 hRR;obtain⟨K,C⟩:=W;simp only at a1 hRR;clear h hP hp;by_cases hC:C=0
 .subst hC;rw[zA (by simp)]at hRR;obtain⟨x,hx⟩:=gAA a1
  rw[hx]at hRR;simp only at hRR;have a2:=aC hRR;clear hRR;go_in;go_upto_region 1 with(go_at_call 178;refine ht.mono ?_;rintro e w1 ⟨hb1,ho⟩;obtain rfl:=ho.ok;have HB:=aC hb1;clear hb1 ho)
  refine aD (F:=λwA=>DPart B wA d b bi cap ov mv nv S c r/\Bl w wA) ⟨HP.out.below HB.out,HB.out⟩ ?_;clear ht iD HP HB d6 d1;rintro wA ⟨hA,hbA⟩;have iD:=hA.hD.lt;have iL:=hA.hb.lt;have d1:wA.cell? ⟨d,1,none⟩=some (.int .i64 c.kind):=hA.hD.cell 1;rw[hk]at d1;obtain⟨iI,x0,x1,x3⟩:=hA.dat hx;have HX:=bJ hA hbA;generalize hdd:x.dir=xd at x1;rcases xd with _|_
  .obtain rfl:RR=.ok (S,{ r with num:=dR S x.num}):=by rw[<-a2.out,hdd];rfl
   have d0:wA.cell? d=some (.pointer b):=hA.hD.cell 0;have a5:wA.cell? ⟨d,11,none⟩=some (.int .i64 r.num):=hA.hD.cell 11;have a6:=hA.hD.frozen 11;have b0:wA.cell? b=some (.slice bi S.ins.length cap):=hA.hb.cell 0;have b1:wA.cell? ⟨b,1,none⟩=some ov:=hA.hb.cell 1;have b2:wA.cell? ⟨b,2,none⟩=some mv:=hA.hb.cell 2;have a8:=hA.st.read.1.one;have a9:=hA.st.read.2.1.one;have a3:vB wA 181 #[.agg #[.slice bi S.ins.length cap,ov,mv],.int .i64 x.num] (.int .i64 (dR S x.num)):=λww hb=>aMV _ ov mv S x.num ww (hA.st.read.below hb (zC _)) hf.wf;obtain⟨ln,a0⟩:∃l,dR S x.num=l:=⟨_,rfl⟩;rw[a0]at a3;have a7:=aC a0;clear a0;clear hA hbA hx a2 hdd x3;go_upto_region 3 with(go_at_call 172;refine aE (aG _ _) λp=>?_)
   refine aH [11,15] true (λw'=>w'.cell? d=some (.pointer b)/\w'.cell? b=some (.slice bi S.ins.length cap)/\w'.cell? ⟨b,1,none⟩=some ov/\w'.cell? ⟨b,2,none⟩=some mv/\w'.cell? ⟨bi,K*4,none⟩=some (.int .i64 x.num)) (by kernel_rfl) (by kernel_rfl) ?_ ?_
   · (try dsimp only);(repeat' apply And.intro)<;>go_simp
   repeat
    apply aI0 rfl rfl
    focus
     rintro w' ⟨s0,s1,s2,s3,s4⟩;go_simp
     first|done|rfl
    simp only[Act.put,sA,sZ,sS]
   refine bB rfl rfl ?_;refine aS 181 #[.agg #[.slice bi S.ins.length cap,ov,mv],.int .i64 x.num] ?hr ?_
   case hr=>
    go_simp
    first|done|rfl
   refine aE (a3 _ (bel _ _)) λq1=>?_;refine⟨_,rfl,.inl ?_,?_⟩
   · (try dsimp only);(repeat' apply And.intro)<;>go_simp
   simp only[Act.put,sA,sZ,sS]
   repeat
    apply aI0 rfl rfl
    focus
     rintro w' ⟨s0,s1,s2,s3,s4⟩;go_simp
     first|done|rfl
    simp only[Act.put,sA,sZ,sS]
   refine aW rfl rfl ?_;apply Exists.intro;refine⟨?_,.inr ⟨rfl,rfl⟩,?_⟩
   focus
    go_simp;rfl
   simp only[Act.put,sA,sZ,sS];refine aU ?_;clear d0 d1 a5 a6 b0 b1 b2 x0 x1;go_wp2_with fail;have a0:=a7.out;subst a0;have a4:Below B w (wA.setCell ⟨d,11,none⟩ (.int .i64 (dR S x.num:Nat))):=(HX.out.2.mono hB).setCell (p:=⟨d,11,none⟩) HX.out.1.hBd _;exact xE (v:=.tuple #[]) (by simp[results,go_sem]) rfl ⟨a4.trans ((bel _ _).mono (zD hB a4.size)),rfl,((HX.out.1.res (t:=11) (r':={ r with num:=dR S x.num}) rfl rfl).below (bel _ _)).at_⟩
  obtain rfl:RR=.error 8:=by rw[<-a2.out,hdd];rfl
  clear hA hbA hx x3 hdd;go_wp2_with(go_at_call 172;refine aE (aP _ _) λp=>?_);exact⟨rfl,(HX.out.2.trans ((bel wA _).mono HX.out.2.size)).mono hB,rfl⟩
 rw[zB hC]at hRR;subst hRR;go_in;go_wp2_with(go_at_call 178;refine ht.mono ?_;rintro e w1 ⟨hb1,ho⟩;obtain rfl:=ho.bad hC);exact⟨rfl,hb1.mono hB,rfl⟩
end Go.Proofs.YtmkapobnfigedaaGreatDoor
