/- A part of a proof of a law. Conditions: none. -/
import Derived.Test.YtmkapobnfigedaaGreatDoorDk21
set_option linter.unusedVariables false
set_option linter.unusedSimpArgs false
set_option maxRecDepth 100000
set_option maxHeartbeats 8000000
namespace Go.Proofs.YtmkapobnfigedaaGreatDoor
open Go.Proofs.Tryz List Go.RowKit
theorem cpC (w:World) (ty:TypeId) (g n cap:Nat) (l:List UInt8) (s:ByteArray) (h:Blk w g (bK l) 5) (hl:l.length=n) (hgt:n<=s.size):
 (Builtin.copy_ #[147,9] ty #[.slice g n cap,.string s]).run prog w=.ok (.int .i64 n) (w.setRow g (bK (s.data.toList.take n))):=by
 obtain⟨i,hi,hz,h1,h2⟩:=info_parts aEI;have a3:(bK l).size=n:=by rw[uC,hl]
 have a2:(Lib.byteCells (s.data.toList.take n)).length=n:=by rw[Lib.byteCells_length,zU,<-Lib.size_eq];omega
 have a0:=run_storeCells_at prog g 0 5 (Lib.byteCells (s.data.toList.take n)) 0 (bK l) w h (by rw[a2];omega) (Lib.byteCells_one _);have a1:Nat.min s.size n=n:=Nat.min_eq_right hgt;have a4:List.take n (List.map (λb:UInt8=>Value.int IntKind.u8 (b.toNat:Int)) s.data.toList)=Lib.byteCells (s.data.toList.take n):=by unfold Lib.byteCells;rw[map_take]
 have e:(List.take 0 (bK l).toList++Lib.byteCells (List.take n s.data.toList)++List.drop (0+n) (bK l).toList).toArray=bK (s.data.toList.take n):=by unfold bK;refine congrArg List.toArray ?_;rw[take_zero,nil_append,zS (by have:=a3;unfold bK at this;simp at this;simp;omega),append_nil]
 rw[a2]at a0;simp only[zN]at a0;rw[e]at a0;have a5:i.size=1:=h1;simp[Builtin.copy_,run_underlying underlying147,Builtin.lenOf,Builtin.firstCells,sizeOf,typeInfo,hi,a1,a5];rw[a4,a0];rfl
def sW (had:List UInt8) (n:Nat):List UInt8:=if had.length<=n then had++List.replicate (n-had.length) 0 else had.take n
def rN (had:ByteArray) (n:Nat):ByteArray:=⟨(sW had.data.toList n).toArray⟩
theorem vS (had:List UInt8) (n:Nat):(sW had n).length=n:=by
 unfold sW;split
 .simp only[lP,yP];omega
 rw[zU];omega
theorem aAX (had:ByteArray) (n g:Nat) (W:World) (hB:Blk W g (bK (List.replicate n 0)) 5):∃m0:TypeId->Int,∀ty,(Builtin.copy_ #[147,9] ty #[.slice g n n,.string had]).run prog W=.ok (.int .i64 (m0 ty)) (W.setRow g (bK (sW had.data.toList n))):=by
 have a0:had.data.toList.length=had.size:=rfl;have a1:∀ty,∃m:Int,(Builtin.copy_ #[147,9] ty #[.slice g n n,.string had]).run prog W=.ok (.int .i64 m) (W.setRow g (bK (sW had.data.toList n))):=λty=>by
  unfold sW;by_cases hle:had.size<=n
  .rw[zB (by rw[a0];exact hle)];have:=cpN W ty g 0 n n (List.replicate n 0) had hB hle (by rw[yP];omega);simp only[take_zero,nil_append,zM,drop_replicate]at this;exact⟨_,this⟩
  rw[zA (by rw[a0];exact hle)];exact⟨_,cpC W ty g n n (List.replicate n 0) had hB yP (by omega)⟩
 exact⟨λty=>Classical.choose (a1 ty),λty=>Classical.choose_spec (a1 ty)⟩
theorem aXI (had:ByteArray) (n:Nat) (w:World) (hh:had.size<=1000000) (hn:n<=1000000):
 vR w 186 #[.string had,.int .i64 n] (.string (rN had n)):=by
 have a2:=λu=>mkN n (by omega) u;have a0:=aAX had n;have a1:=vS had.data.toList n;unfold rN;generalize sW had.data.toList n=L1 at a0 a1 |-;have HC:=aC a0;clear a0;unfold vR;go_in;go_upto_region 2 with fail;refine aD (F:=λW=>Blk W w.heap.size (bK (List.replicate n 0)) 5/\Below w.heap.size w W) ⟨Blk.new _ _ _,bel _ _⟩ ?_;obtain⟨g,hg⟩:∃g,w.heap.size=g:=⟨_,rfl⟩;rw[hg];rintro W ⟨hB,hbW⟩;have iG:=hB.lt;obtain⟨m0,hm0⟩:=HC.out g W hB;have HW:=bG hB hbW;have HG:=aC hg;clear hB hbW hg a2;go_upto_region 3 with fail;refine aD (F:=λW2=>Blk W2 g (bK L1) 5/\Below g w W2) ⟨jW HW.out.1 _,lU HW.out.2 (zC _) _⟩ ?_;clear hm0 iG;rintro W2 ⟨hB2,hbW2⟩;have iG:=hB2.lt;have a4:=cvN W2 g n n L1 hB2 a1;have a3:=bG hB2 hbW2;clear hB2 hbW2;go_wp2;go_ret;exact⟨rfl,by rw[HG.out];exact a3.out.2⟩
def bAX (d:Nat) (OO1:Int) (SS1:ByteArray):Nat->Value
 |0=>.pointer (some ⟨d,0,none⟩)
 |1=>.pointer (some ⟨d,0,none⟩)
 |2=>.pointer (some ⟨d,1,none⟩)
 |3=>.pointer (some ⟨d,4,none⟩)
 |4=>.int .i64 OO1
 |5=>.pointer (some ⟨d,0,none⟩)
 |6=>.pointer (some ⟨d,0,none⟩)
 |7=>.pointer (some ⟨d,1,none⟩)
 |8=>.pointer (some ⟨d,8,none⟩)
 |9=>.string SS1
 |10=>.int .i64 SS1.size
 |11=>.int .i64 (OO1+SS1.size)
 |12=>.bool true
 |_=>undef
def lC (S:PSt) (c:PCall) (r:PRes):Except Int (PSt × PRes):=match eH S c with
 |none=>.error 4
 |some y=>if(sP c.off&&sP (c.data.size:Int))=true then(if 256<c.off+c.data.size then .error 5 else .ok ({ S with ins:=S.ins.set y.1 { y.2 with data:=aAL y.2.data c.off.toNat c.data}},{ r with num:=c.data.size}))else .error 9
def lD (S:PSt) (c:PCall) (r:PRes):Except Int (PSt × PRes):=match eH S c with
 |none=>.error 4
 |some y=>if sP c.num=true then .ok ({ S with ins:=S.ins.set y.1 { y.2 with data:=rN y.2.data c.num.toNat}},r)else .error 9
theorem aDC (B d b:Nat) (S:PSt) (c:PCall) (r:PRes) (w:World) (h:DoAt B w d b S c r) (hB:B<=w.heap.size) (hf:Fine S) (hk:c.kind=5) (hsz:∀x∈S.ins,x.data.size<=1000000) (hcd:c.data.size<=1000000000000000000):
 Calls prog 146 #[.pointer d] w (bJ B w d b c (lC S c r)):=by
 unfold lC;by_cases hin:(sP c.off&&sP (c.data.size:Int))=true
 .have a3:=hin;unfold sP at a3;simp only[zE,zI]at a3;obtain⟨⟨ho0,ho1⟩,hd0,hd1⟩:=a3;simp only[hin,if_true];by_cases hsum:256<c.off+c.data.size
  .simp only[hsum,if_true];obtain⟨bi,cap,ov,mv,nv,hP⟩:=h.part hf.pos;have ht:=hP.file hf;have iD:=hP.hD.lt;unfold qG at ht;generalize hX:eH S c=X at ht |-;rcases X with _|⟨K,x⟩
   .simp only at ht |-
    go_in;go_wp2_with(go_at_call 143;refine ht.mono ?_;rintro e w1 ⟨hb1,rfl⟩);exact⟨rfl,hb1.mono hB,rfl⟩
   simp only at ht |-;generalize cU (eV c) S.op=I at ht;have a0:=λww=>rK c.off ww;have a2:=λww=>rK (c.data.size:Int) ww;simp only[zE]at hin;rw[hin.1]at a0;rw[hin.2]at a2;have HP:=aC hP;clear h hP hX hsz;go_in;go_upto_region 1 with(go_at_call 143;refine ht.mono ?_;rintro e w1 ⟨hb1,rfl⟩;have HB:=aC hb1;clear hb1)
   refine aD (F:=λwA=>DPart B wA d b bi cap ov mv nv S c r/\Bl w wA) ⟨HP.out.below HB.out,HB.out⟩ ?_;clear ht iD HP HB;rintro wA ⟨hA,hbA⟩;have iD:=hA.hD.lt;have a1:wA.cell? ⟨d,1,none⟩=some (.int .i64 c.kind):=hA.hD.cell 1;rw[hk]at a1;have a4:wA.cell? ⟨d,4,none⟩=some (.int .i64 c.off):=hA.hD.cell 4;have a8:wA.cell? ⟨d,8,none⟩=some (.string c.data):=hA.hD.cell 8;have HA:=lE hA hbA a4 a8;clear hA hbA;go_upto_region 8 with(first|(go_at_call 183;with_reducible refine aE (a0 _) λp=>?_)|(go_at_call 183;with_reducible refine aE (a2 _) λp=>?_)|(go_at_call 172;with_reducible refine aE (aG _ _) λp=>?_))
   refine aD (F:=λwz=>Bl wA wz) (bel _ _) ?_;intro wz hbz;have z4:=(hbz.cell (p:=⟨d,4,none⟩) iD.lt).trans HA.out.2.2.1;have z8:=(hbz.cell (p:=⟨d,8,none⟩) iD.lt).trans HA.out.2.2.2;have a5:B<=wA.heap.size:=zD hB HA.out.2.1.size;have a6:Below B w wz:=(HA.out.2.1.mono hB).trans (hbz.mono a5);have a7:B<=wz.heap.size:=zD a5 hbz.size;have jD:=zR iD.lt hbz.size;have a9:IntKind.i64.wrap (c.off+c.data.size)=c.off+c.data.size:=I64.wrap ⟨by omega,by omega⟩;have b0:decide ((256:Int)<c.off+c.data.size)=true:=decide_eq_true hsum;clear a1 a4 a8;refine lF (RV 13 (bAX d c.off c.data) wz) ?_ ?_ ?_
   .intro σ;exact RV.zero (by decide) (bel wz _)
   .refine⟨?_,?_,?_,?_,?_,?_,?_,?_,?_,?_,?_,?_,?_,?_,trivial⟩
    .intro D σ w1 a h hdf;have e0:(a.tmps[0]?).getD undef=.pointer d:=mH h 0;refine fZ h ?_;clear h;go_simp
     first|done|rfl
    .intro D σ w1 a h hdf;have b1:(a.tmps[81]?).getD undef=.pointer d:=cK h 0 81;refine fZ h ?_;clear h;go_simp
     first|done|rfl
    .intro D σ w1 a h hdf;have b2:(a.tmps[82]?).getD undef=.pointer d:=cK h 1 82;refine fZ h ?_;clear h;go_simp
     first|done|rfl
    .intro D σ w1 a h hdf;have b3:(a.tmps[83]?).getD undef=.pointer (some ⟨d,1,none⟩):=cK h 2 83;refine fZ h ?_;clear h;go_simp
     first|done|rfl
    .intro D σ w1 a h hdf;have b4:(a.tmps[84]?).getD undef=.pointer (some ⟨d,4,none⟩):=cK h 3 84;have hl:=(h.r.below.cell (by exact jD)).trans z4;have iX:BlockLt d w1:=⟨zR jD h.r.below.size⟩
     refine fZ h ?_;clear h;go_simp
     first|done|rfl
    .intro D σ w1 a h hdf;have e0:(a.tmps[0]?).getD undef=.pointer d:=mH h 0;refine fZ h ?_;clear h;go_simp
     first|done|rfl
    .intro D σ w1 a h hdf;have b5:(a.tmps[86]?).getD undef=.pointer d:=cK h 5 86;refine fZ h ?_;clear h;go_simp
     first|done|rfl
    .intro D σ w1 a h hdf;have b6:(a.tmps[87]?).getD undef=.pointer d:=cK h 6 87;refine fZ h ?_;clear h;go_simp
     first|done|rfl
    .intro D σ w1 a h hdf;have b7:(a.tmps[88]?).getD undef=.pointer (some ⟨d,1,none⟩):=cK h 7 88;refine fZ h ?_;clear h;go_simp
     first|done|rfl
    .intro D σ w1 a h hdf;have b8:(a.tmps[89]?).getD undef=.pointer (some ⟨d,8,none⟩):=cK h 8 89;have hl:=(h.r.below.cell (by exact jD)).trans z8;have iX:BlockLt d w1:=⟨zR jD h.r.below.size⟩
     refine fZ h ?_;clear h;go_simp
     first|done|rfl
    .intro D σ w1 a h hdf;have b9:(a.tmps[90]?).getD undef=.string c.data:=cK h 9 90;refine fZ h ?_;clear h;go_simp
     first|done|rfl
    .intro D σ w1 a h hdf;have c0:(a.tmps[85]?).getD undef=.int .i64 c.off:=cK h 4 85;have c1:(a.tmps[91]?).getD undef=.int .i64 c.data.size:=cK h 10 91;refine fZ h ?_;clear h;go_simp
     first|done|rfl
    .intro D σ w1 a h hdf;have c2:(a.tmps[92]?).getD undef=.int .i64 (c.off+c.data.size):=cK h 11 92;refine fZ h ?_;clear h;go_simp
     first|done|rfl
    intro D σ w1 a h hdf;refine⟨λ_=>?_,λe=>absurd e (by simp[Region.wanted])⟩;have c3:(a.tmps[93]?).getD undef=.bool true:=cK h 12 93;intro nx _;refine Oper.wpX 172 #[.bool true,.int .i64 5] ?_ ((aO 5 w1).mono λe w' ⟨he,hb2⟩=>⟨_,he,hdf,a6.trans ((h.r.below.trans (hb2.mono h.r.below.size)).mono a7),rfl⟩);clear h;go_simp
    first|done|rfl
   intro σ w1 hR;exact absurd trivial hR.no
  simp only[hsum,if_false];have:=aET B d b S c r w h hB hf hk ho0 (by omega) hsz;unfold aHL at this;exact this
 simp only[hin,if_false];obtain⟨bi,cap,ov,mv,nv,hP⟩:=h.part hf.pos;have ht:=hP.file hf;have iD:=hP.hD.lt;unfold qG at ht;generalize hX:eH S c=X at ht |-;rcases X with _|⟨K,x⟩
 .simp only at ht |-
  go_in;go_wp2_with(go_at_call 143;refine ht.mono ?_;rintro e w1 ⟨hb1,rfl⟩);exact⟨rfl,hb1.mono hB,rfl⟩
 simp only at ht |-;generalize cU (eV c) S.op=I at ht;have a0:=λww=>rK c.off ww;have a2:=λww=>rK (c.data.size:Int) ww;generalize sP c.off=i1 at hin a0;generalize sP (c.data.size:Int)=i2 at hin a2;have HP:=aC hP;clear h hP hX hsz;go_in;go_upto_region 1 with(go_at_call 143;refine ht.mono ?_;rintro e w1 ⟨hb1,rfl⟩;have HB:=aC hb1;clear hb1)
 refine aD (F:=λwA=>DPart B wA d b bi cap ov mv nv S c r/\Bl w wA) ⟨HP.out.below HB.out,HB.out⟩ ?_;clear ht iD HP HB;rintro wA ⟨hA,hbA⟩;have iD:=hA.hD.lt;have a1:wA.cell? ⟨d,1,none⟩=some (.int .i64 c.kind):=hA.hD.cell 1;rw[hk]at a1;have a4:wA.cell? ⟨d,4,none⟩=some (.int .i64 c.off):=hA.hD.cell 4;have a8:wA.cell? ⟨d,8,none⟩=some (.string c.data):=hA.hD.cell 8;have HA:=bG hA hbA;clear hA;rcases i1 with _|_
 .go_wp2_with(first|(go_at_call 183;with_reducible refine aE (a0 _) λp=>?_)|(go_at_call 172;with_reducible refine aE (aO _ _) λp=>?_))
  exact⟨rfl,(hbA.mono hB).trans ((bel wA _).mono (zD hB hbA.size)),rfl⟩
 rcases i2 with _|_
 .go_wp2_with(first|(go_at_call 183;with_reducible refine aE (a0 _) λp=>?_)|(go_at_call 183;with_reducible refine aE (a2 _) λp=>?_)|(go_at_call 172;with_reducible refine aE (aO _ _) λp=>?_))
  exact⟨rfl,(hbA.mono hB).trans ((bel wA _).mono (zD hB hbA.size)),rfl⟩
 exact absurd rfl hin
theorem aEU (B d b:Nat) (S:PSt) (c:PCall) (r:PRes) (w:World) (h:DoAt B w d b S c r) (hB:B<=w.heap.size) (hf:Fine S) (hk:c.kind=6) (hsz:∀x∈S.ins,x.data.size<=1000000):
 Calls prog 146 #[.pointer d] w (bJ B w d b c (lD S c r)):=by
 unfold lD;obtain⟨bi,cap,ov,mv,nv,hP⟩:=h.part hf.pos;have ht:=hP.file hf;have iD:=hP.hD.lt;unfold qG at ht;generalize hX:eH S c=X at ht |-;rcases X with _|⟨K,x⟩
 .simp only at ht |-
  go_in;go_wp2_with(go_at_call 143;refine ht.mono ?_;rintro e w1 ⟨hb1,rfl⟩);exact⟨rfl,hb1.mono hB,rfl⟩
 simp only at ht |-;obtain⟨hx,hKl⟩:=jX hX;have a8:=hsz x (mG hx);generalize cU (eV c) S.op=I at ht;have a0:=λww=>rK c.num ww;rcases hi:sP c.num with _|_
 .rw[hi]at a0;simp only[zP,if_false];have HP:=aC hP;clear h hP hX hsz
  go_in;go_upto_region 1 with(go_at_call 143;refine ht.mono ?_;rintro e w1 ⟨hb1,rfl⟩;have HB:=aC hb1;clear hb1)
  refine aD (F:=λwA=>DPart B wA d b bi cap ov mv nv S c r/\Bl w wA) ⟨HP.out.below HB.out,HB.out⟩ ?_;clear ht iD HP HB;rintro wA ⟨hA,hbA⟩;have iD:=hA.hD.lt;have a1:wA.cell? ⟨d,1,none⟩=some (.int .i64 c.kind):=hA.hD.cell 1;rw[hk]at a1;have a5:wA.cell? ⟨d,5,none⟩=some (.int .i64 c.num):=hA.hD.cell 5;clear hA;go_wp2_with(first|(go_at_call 183;with_reducible refine aE (a0 _) λp=>?_)|(go_at_call 172;with_reducible refine aE (aO _ _) λp=>?_));exact⟨rfl,(hbA.mono hB).trans ((bel wA _).mono (zD hB hbA.size)),rfl⟩
 rw[hi]at a0;simp only[if_true];have a2:=hi;unfold sP at a2;simp only[zE,zI]at a2;obtain⟨o,ho⟩:∃o:Nat,c.num=o:=⟨c.num.toNat,by omega⟩;have a3:=λww=>aXI x.data o ww (by omega) (by omega);have eo:c.num.toNat=o:=by omega
 rw[eo];rw[ho]at a0;generalize rN x.data o=z at a3 |-;have HO:=aC ho;clear eo ho hi a2;have HP:=aC hP;clear h hP hX hsz;go_in;go_upto_region 1 with(go_at_call 143;refine ht.mono ?_;rintro e w1 ⟨hb1,rfl⟩;have HB:=aC hb1;clear hb1)
 refine aD (F:=λwA=>DPart B wA d b bi cap ov mv nv S c r/\Bl w wA) ⟨HP.out.below HB.out,HB.out⟩ ?_;clear ht iD HP HB;rintro wA ⟨hA,hbA⟩;have iD:=hA.hD.lt;have a1:wA.cell? ⟨d,1,none⟩=some (.int .i64 c.kind):=hA.hD.cell 1;rw[hk]at a1;have a5:wA.cell? ⟨d,5,none⟩=some (.int .i64 c.num):=hA.hD.cell 5;rw[HO.out]at a5;obtain⟨iI,x0,x1,x3⟩:=hA.dat hx;obtain⟨hge,cc,hcc⟩:=hA.ge_bi hx;have f3:=hcc.frozen (K*4+3);have a6:¬bi=d:=hcc.ne_ hA.hD (by decide);have a7:¬d=bi:=λe=>a6 e.symm;have HA:=lE hA hbA hx hge;clear hA hbA hx hge hcc;go_upto_region 13 with(first|(go_at_call 183;with_reducible refine aE (a0 _) λp=>?_)|(go_at_call 172;with_reducible refine aE (aG _ _) λp=>?_))
 refine aH [10,13] true (λw'=>w'.cell? ⟨d,5,none⟩=some (.int .i64 o)/\w'.cell? ⟨bi,K*4+3,none⟩=some (.string x.data)) (by kernel_rfl) (by kernel_rfl) ?_ ?_
 · (try dsimp only);(repeat' apply And.intro)<;>go_simp
 repeat
  apply aI0 rfl rfl
  focus
   rintro w' ⟨s0,s1⟩;go_simp
   first|done|rfl
  simp only[Act.put,sA,sZ,sS]
 refine bA rfl rfl ?_;refine aR 186 #[.string x.data,.int .i64 o] ?hr ?_
 case hr=>
  go_simp
  first|done|rfl
 refine aE (a3 _) λq1=>?_;refine⟨_,rfl,.inl ?_,?_⟩
 · (try dsimp only);(repeat' apply And.intro)<;>go_simp
 simp only[Act.put,sA,sZ,sS]
 repeat
  apply aI0 rfl rfl
  focus
   rintro w' ⟨s0,s1⟩;go_simp
   first|done|rfl
  simp only[Act.put,sA,sZ,sS]
 refine aV rfl rfl ?_;apply Exists.intro;refine⟨?_,.inr ⟨rfl,rfl⟩,?_⟩
 focus
  go_simp;rfl
 simp only[Act.put,sA,sZ,sS];refine aS ?_;clear a5 x0 x1 x3;go_wp2_with fail;have a4:Below B w (wA.setCell ⟨bi,K*4+3,none⟩ (.string z)):=(HA.out.2.1.mono hB).setCell (p:=⟨bi,K*4+3,none⟩) HA.out.2.2.2 _;exact xE (v:=.tuple #[]) (by simp[results,go_sem]) rfl ⟨a4.trans ((bel _ _).mono (zD hB a4.size)),rfl,((HA.out.1.setData HA.out.2.2.1 z).below (bel _ _)).at_⟩
section
theorem aBA (S:PSt):∀(l:List PDesc) (p:Option PDesc),fJ S p l=true->(match p with|none=>True|some q=>q.fd<4)->((match p with|none=>0|some q=>q.core*4+q.fd+1:Int)<=(S.made.length:Int)*4)->(match p with|none=>0|some q=>q.core*4+q.fd+1:Int)+(l.length:Int)<=(S.made.length:Int)*4
 |[],p,_,_,h=>by simpa using h
 | d :: l, p,h,hq,hp=>by
   unfold fJ at h;split at h
   .cases h
   split at h
   .cases h
   split at h
   .cases h
   split at h
   .cases h
   split at h
   .cases h
   split at h
   .cases h
   rename_i c0 c1 f0 f1 hpr _;split at h
   .split at h
    .cases h
    have ih:=aBA S l (some d) h (by show d.fd<4;omega) (by show d.core*4+d.fd+1<=(S.made.length:Int)*4;omega);have a0:d.core*4+d.fd+1+(l.length:Int)<=(S.made.length:Int)*4:=ih;rw[zK];rcases p with _|q
    .show(0:Int)+((l.length+1:Nat):Int)<=_
     push_cast;omega
    show q.core*4+q.fd+1+((l.length+1:Nat):Int)<=_;have a1:q.fd<4:=hq;unfold kB at hpr;simp only[yI,zI,zE]at hpr;have a2:q.core*4+q.fd+1<=(S.made.length:Int)*4:=hp;push_cast;by_cases e:q.core=d.core
    .have:¬d.fd<=q.fd:=λh=>hpr (.inr ⟨e,h⟩)
     omega
    have:¬d.core<q.core:=λh=>hpr (.inl h);omega
   cases h
structure MayBounds (S:PSt):Prop where
 small:Small S
 op:S.op.length<=32
 data:∀x∈S.ins,x.data.size<=256
 made0:0<S.made.length
variable {S:PSt} {c:PCall}
theorem qP (hwf:S.wf) (hm:cS S=true):MayBounds S:=by
 have T:=pK hwf hm;have a0:=hm;unfold cS at a0;split at a0
 .rename_i h1
  simp only[zE]at h1;obtain⟨⟨hmd,_⟩,hop⟩:=h1;unfold dP at hmd;simp only[zE,yL,yV,yW]at hmd;obtain⟨⟨m1,m8⟩,hall⟩:=hmd;refine⟨⟨T.small,λx hx=>zD (T.many x hx) (by decide),by omega,λm hm=>?_⟩,?_,T.data,by omega⟩
  .have:=any_eq_false.1 hall m hm;unfold eA at this;simp at this;omega
  have:=aBA S S.op none hop trivial (by show(0:Int)<=(S.made.length:Int)*4;omega);have a1:(0:Int)+(S.op.length:Int)<=(S.made.length:Int)*4:=this;omega
 cases a0
def rP (S:PSt) (c:PCall) (r:PRes):Except Int (PSt × PRes):=if(aA c.path).1≠0 then .error (eC (aA c.path).1)else rB S c r
theorem aUU (B d b:Nat) (S:PSt) (c:PCall) (r:PRes) (w:World) (h:DoAt B w d b S c r) (hB:B<=w.heap.size) (hf:Fine S) (hop:S.op.length<=100000):
 Calls prog 142 #[.pointer d] w (bJ B w d b c (rP S c r)):=by
 unfold rP;by_cases hp:(aA c.path).1=0
 .rw[zA (by simpa using hp)];exact aYC B d b S c r w h hB hf hop hp (zD (dB hp) (by decide))
 rw[zB hp];have a0:∀ww,Bl w ww->Calls prog 178 #[.pointer d,c.path] ww _:=λww hb=>aHI d b S c c.path ww (h.read.below hb (zC _)) hp;obtain⟨iv,ov,mv,nv,hBb,hBd,hD,hbk,hst,hnv⟩:=h;have d6:w.cell? ⟨d,6,none⟩=some (.string c.path):=hD.cell 6;have iD:=hD.lt;clear hD hbk hst hnv hf;go_in;go_wp2_with(go_at_call 178;refine aE (a0 _ (bel _ _)) λp=>?_);exact⟨rfl,(bel w _).mono hB,rfl⟩
theorem aQE (B d b:Nat) (S:PSt) (c:PCall) (r:PRes) (w:World) (h:DoAt B w d b S c r) (hk:c.kind=0\/c.kind=1) (R:Except Int (PSt × PRes)) (ht:Calls prog 141 #[.pointer d] w (bJ B w d b c R)):
 Calls prog 108 #[.pointer d] w (bJ B w d b c R):=by
 obtain⟨iD,d1⟩:=h.kind;rcases hk with hk|hk
 all_goals
  rw[hk]at d1;clear h;rcases R with k|⟨S',r'⟩
  all_goals(go_in)
  .go_wp2_with(go_at_call 141;refine ht.mono ?_;rintro e w1 ⟨hb1,hr1⟩;obtain rfl:e=bP k:=hr1)
   exact⟨rfl,hb1,rfl⟩
  go_wp2_with(go_at_call 141;refine ht.mono ?_;rintro e w1 ⟨hb1,hr1⟩;have a0:e=.returned (.tuple #[])/\DoAt B w1 d b S' c r':=hr1;clear hr1;obtain⟨rfl,hd1⟩:=a0;have HD:=aC hd1;clear hd1);exact xE (v:=.tuple #[]) (by simp[results,go_sem]) rfl ⟨hb1,rfl,HD.out⟩
theorem aHR (B d b:Nat) (S:PSt) (c:PCall) (r:PRes) (w:World) (h:DoAt B w d b S c r) (hk:c.kind=6) (R:Except Int (PSt × PRes)) (ht:Calls prog 146 #[.pointer d] w (bJ B w d b c R)):
 Calls prog 108 #[.pointer d] w (bJ B w d b c R):=by
 obtain⟨iD,d1⟩:=h.kind
 all_goals
  rw[hk]at d1;clear h;rcases R with k|⟨S',r'⟩
  all_goals(go_in)
  .go_wp2_with(go_at_call 146;refine ht.mono ?_;rintro e w1 ⟨hb1,hr1⟩;obtain rfl:e=bP k:=hr1)
   exact⟨rfl,hb1,rfl⟩
  go_wp2_with(go_at_call 146;refine ht.mono ?_;rintro e w1 ⟨hb1,hr1⟩;have a0:e=.returned (.tuple #[])/\DoAt B w1 d b S' c r':=hr1;clear hr1;obtain⟨rfl,hd1⟩:=a0;have HD:=aC hd1;clear hd1);exact xE (v:=.tuple #[]) (by simp[results,go_sem]) rfl ⟨hb1,rfl,HD.out⟩
theorem aHS (B d b:Nat) (S:PSt) (c:PCall) (r:PRes) (w:World) (h:DoAt B w d b S c r) (hk:c.kind=8) (R:Except Int (PSt × PRes)) (ht:Calls prog 147 #[.pointer d] w (bJ B w d b c R)):
 Calls prog 108 #[.pointer d] w (bJ B w d b c R):=by
 obtain⟨iD,d1⟩:=h.kind
 all_goals
  rw[hk]at d1;clear h;rcases R with k|⟨S',r'⟩
  all_goals(go_in)
  .go_wp2_with(go_at_call 147;refine ht.mono ?_;rintro e w1 ⟨hb1,hr1⟩;obtain rfl:e=bP k:=hr1)
   exact⟨rfl,hb1,rfl⟩
  go_wp2_with(go_at_call 147;refine ht.mono ?_;rintro e w1 ⟨hb1,hr1⟩;have a0:e=.returned (.tuple #[])/\DoAt B w1 d b S' c r':=hr1;clear hr1;obtain⟨rfl,hd1⟩:=a0;have HD:=aC hd1;clear hd1);exact xE (v:=.tuple #[]) (by simp[results,go_sem]) rfl ⟨hb1,rfl,HD.out⟩
theorem aEW (B d b:Nat) (S:PSt) (c:PCall) (r:PRes) (w:World) (h:DoAt B w d b S c r) (hk:c.kind=9\/c.kind=10) (R:Except Int (PSt × PRes)) (ht:Calls prog 148 #[.pointer d] w (bJ B w d b c R)):
 Calls prog 108 #[.pointer d] w (bJ B w d b c R):=by
 obtain⟨iD,d1⟩:=h.kind;rcases hk with hk|hk
 all_goals
  rw[hk]at d1;clear h;rcases R with k|⟨S',r'⟩
  all_goals(go_in)
  .go_wp2_with(go_at_call 148;refine ht.mono ?_;rintro e w1 ⟨hb1,hr1⟩;obtain rfl:e=bP k:=hr1)
   exact⟨rfl,hb1,rfl⟩
  go_wp2_with(go_at_call 148;refine ht.mono ?_;rintro e w1 ⟨hb1,hr1⟩;have a0:e=.returned (.tuple #[])/\DoAt B w1 d b S' c r':=hr1;clear hr1;obtain⟨rfl,hd1⟩:=a0;have HD:=aC hd1;clear hd1);exact xE (v:=.tuple #[]) (by simp[results,go_sem]) rfl ⟨hb1,rfl,HD.out⟩
theorem aEX (B d b:Nat) (S:PSt) (c:PCall) (r:PRes) (w:World) (h:DoAt B w d b S c r) (hk:c.kind=11) (R:Except Int (PSt × PRes)) (ht:Calls prog 149 #[.pointer d] w (bJ B w d b c R)):
 Calls prog 108 #[.pointer d] w (bJ B w d b c R):=by
 obtain⟨iD,d1⟩:=h.kind
 all_goals
  rw[hk]at d1;clear h;rcases R with k|⟨S',r'⟩
  all_goals(go_in)
  .go_wp2_with(go_at_call 149;refine ht.mono ?_;rintro e w1 ⟨hb1,hr1⟩;obtain rfl:e=bP k:=hr1)
   exact⟨rfl,hb1,rfl⟩
  go_wp2_with(go_at_call 149;refine ht.mono ?_;rintro e w1 ⟨hb1,hr1⟩;have a0:e=.returned (.tuple #[])/\DoAt B w1 d b S' c r':=hr1;clear hr1;obtain⟨rfl,hd1⟩:=a0;have HD:=aC hd1;clear hd1);exact xE (v:=.tuple #[]) (by simp[results,go_sem]) rfl ⟨hb1,rfl,HD.out⟩
theorem aQF (hwf:S.wf) (hc:aQR c) (hm:gB S c=true) {B:Nat} {ww:World} {d b:Nat} (hd:DoAt B ww d b S c PRes.zero) (hB:B<=ww.heap.size):Calls prog 108 #[.pointer d] ww (bJ B ww d b c (mA S c)):=by
 have a0:=(lY hm).1;have hf:=iP hwf a0;have a1:=aFB a0;unfold mA;by_cases k4:c.kind=4
 .rw[zB k4];exact tA B d b S c PRes.zero ww hd (.inl k4) _ (aHJ B d b S c PRes.zero ww hd hB hf k4 λx hx=>by have:=a1 x hx;omega)
 rw[zA k4];by_cases k7:c.kind=7
 .rw[zB k7];exact tA B d b S c PRes.zero ww hd (.inr (.inr k7)) _ (aHK B d b S c PRes.zero ww hd hB hf k7)
 rw[zA k7];have hk:c.kind=12\/c.kind=13\/c.kind=14:=by
  rcases hc with h|h|h|h|h
  .exact absurd h k4
  .exact absurd h k7
  .exact .inl h
  .exact .inr (.inl h)
  exact .inr (.inr h)
 refine aQQ B d b S c PRes.zero ww hd hk _ ?_;by_cases hp:(aA c.path).1=0
 .rw[zA (by simpa using hp)];have hl:=dB hp;rcases hk with k|k|k
  .rw[zB k];exact aNS B d b S c PRes.zero ww hd hB hf k (by simp[PRes.zero]) hp (by omega)
  .rw[zA (by omega),zB k];exact aPR B d b S c PRes.zero ww hd hB hf k hp (by omega)
  rw[zA (by omega),zA (by omega)];exact aJZ B d b S c PRes.zero ww hd hB hf k hp
 rw[zB hp];exact aZC B d b S c PRes.zero ww hd hB hp
def eJ (S:PSt) (c:PCall):Except Int (PSt × PRes):=
 if c.kind=0\/c.kind=1 then jO S c PRes.zero else if c.kind=2 then rP S c PRes.zero else if c.kind=3 then lR S c PRes.zero else
 if c.kind=5 then lC S c PRes.zero else if c.kind=6 then lD S c PRes.zero else if c.kind=8 then nP S c PRes.zero else
 if c.kind=9\/c.kind=10 then hJ S c PRes.zero else if c.kind=11 then hU S c PRes.zero else
 if c.kind=15 then lQ S c PRes.zero else if c.kind=16 then .ok (S,PRes.zero)else mA S c
def lX (S:PSt) (c:PCall):PSt × PRes:=doM S c (eJ S c)
theorem aUV (hwf:S.wf) (hcd:c.data.size<=1000000000000000000):Did S c (lX S c).1 (lX S c).2:=by
 refine aXL (eJ S c) hwf (by rfl) λhm B ww d b hd hB=>?_;obtain⟨hmay,hc0,hc1⟩:=lY hm;have hf:=iP hwf hmay;obtain⟨hs,hop,hdat,hmd⟩:=qP hwf hmay;have a0:∀x∈S.ins,x.data.size<=1000000:=λx hx=>by have:=hdat x hx;omega
 have hk:0<=c.kind/\c.kind<=16:=by unfold gB at hm;simp only[zE,zI]at hm;exact⟨hm.1.1.1.1,hm.1.1.1.2⟩
 unfold eJ;by_cases k1:c.kind=0\/c.kind=1
 .rw[zB k1];exact aQE B d b S c PRes.zero ww hd k1 _ (aNR B d b S c PRes.zero ww hd hB hf hs hc0 hc1)
 rw[zA k1];by_cases k2:c.kind=2
 .rw[zB k2];exact aQJ B d b S c PRes.zero ww hd k2 _ (aUU B d b S c PRes.zero ww hd hB hf (by omega))
 rw[zA k2];by_cases k3:c.kind=3
 .rw[zB k3];exact aJY B d b S c PRes.zero ww hd hB hf k3
 rw[zA k3];by_cases k5:c.kind=5
 .rw[zB k5];exact tA B d b S c PRes.zero ww hd (.inr (.inl k5)) _ (aDC B d b S c PRes.zero ww hd hB hf k5 a0 hcd)
 rw[zA k5];by_cases k6:c.kind=6
 .rw[zB k6];exact aHR B d b S c PRes.zero ww hd k6 _ (aEU B d b S c PRes.zero ww hd hB hf k6 a0)
 rw[zA k6];by_cases k8:c.kind=8
 .rw[zB k8];exact aHS B d b S c PRes.zero ww hd k8 _ (aVR B d b S c PRes.zero ww hd hB hf hs hmd)
 rw[zA k8];by_cases k9:c.kind=9\/c.kind=10
 .rw[zB k9];exact aEW B d b S c PRes.zero ww hd k9 _ (aTS B d b S c PRes.zero ww hd hB hf hs hmd)
 rw[zA k9];by_cases k11:c.kind=11
 .rw[zB k11];exact aEX B d b S c PRes.zero ww hd k11 _ (aOZ B d b S c PRes.zero ww hd hB hf hs hmd)
 rw[zA k11];by_cases k15:c.kind=15
 .rw[zB k15];exact aPI B d b S c PRes.zero ww hd hB hf k15
 rw[zA k15];by_cases k16:c.kind=16
 .rw[zB k16];exact aTY B d b S c PRes.zero ww hd hB k16
 rw[zA k16];exact aQF hwf (show aQR c by unfold aQR;omega) hm hd hB
end
def bH:List ByteArray->ByteArray->ByteArray
 |[],s=>s
 |n::r,s=>bH r (s++(⟨#[47]⟩++n))
def eB (ns:List ByteArray):ByteArray × Int:=if ns.all dM=true then(if 4<ns.length then(⟨#[]⟩,1102)else if 64<(bH ns ⟨#[]⟩).size then(⟨#[]⟩,1101)else if(bH ns ⟨#[]⟩).size=0 then(⟨#[47]⟩,0)else(bH ns ⟨#[]⟩,0))else(⟨#[]⟩,1100)
def eU (S:PSt) (p:ByteArray):Int × Int:=if(aA p).1≠0 then(0,eC (aA p).1)else if cS S=true then(if (aK S 0 (aA p).2).2≠0 then(0,(aK S 0 (aA p).2).2)else(gK S (aK S 0 (aA p).2).1,0))else(0,9)
def aBD (S:PSt) (ns:List ByteArray):List PKey:=(List.range ns.length).map λk=>⟨(eU S (eB (ns.take k)).1).1,⟨#[46]⟩⟩
def kK (S:PSt) (ns:List ByteArray):Int:=(eU S (eB (ns.take (ns.length-1))).1).1
def cG (n:ByteArray):ByteArray:=⟨#[47,UInt8.ofNat (48+(aU n).toNat)]⟩
def fU (S:PSt) (p:ByteArray):List PKey:=aBD S (aA p).2
def dD (S:PSt) (p:ByteArray):List PKey:=fU S p++[⟨kK S (aA p).2,cG ((aA p).2.getLastD ⟨#[]⟩)⟩]
def cM (S:PSt) (p:ByteArray):List PKey:=[⟨(eU S p).1,⟨#[]⟩⟩]
def fE (S:PSt) (c:PCall):List PKey:=[⟨match S.op[(cU (eV c) S.op).toNat]? with|some d=>d.num|none=>0,⟨#[]⟩⟩]
def cH (S S':PSt) (c:PCall):Option (List PKey):=
 let l:Option (List PKey):=if c.kind=0\/c.kind=1 then some (dD S c.path++cM S' c.path)else if c.kind=2 then some (fU S c.path++cM S c.path)else
  if c.kind=3\/c.kind=6 then some (fE S c)else if c.kind=5 then(if c.data.size=0 then none else some (fE S c))else
  if c.kind=8 then some (fU S c.path++dD S c.path2++cM S c.path)else if c.kind=9\/c.kind=10 then some (dD S c.path++cM S c.path)else
  if c.kind=11 then some (dD S c.path++dD S c.path2++cM S c.path)else none
 l.map λl=>l++[⟨-1-c.core,⟨#[]⟩⟩]
section
def jF (p:ByteArray):Prop:=(aA p).1=0/\(aA p).2≠[]
structure GatherOk (S:PSt) (c:PCall):Prop where
 may:cS S=true
 core:0<=c.core/\c.core<S.made.length
 kind:0<=c.kind/\c.kind<=16
 path:(c.kind=0\/c.kind=1\/c.kind=2\/c.kind=8\/c.kind=9\/c.kind=10\/c.kind=11)->jF c.path
 path2:(c.kind=8\/c.kind=11)->jF c.path2
 fd:(c.kind=3\/c.kind=5\/c.kind=6)->0<=cU (eV c) S.op
theorem lZ {c:Int} (h:c≠0):eC c≠0:=by
 unfold eC;rw[zA h];split<;>decide
variable {K:Nat} {S:PSt} {c:PCall} {k:Int} {l s:ByteArray} {ns:List ByteArray}
theorem qQ (h:bB S ns=.error k):k≠0:=by
 unfold bB at h;split at h
 .cases h;decide
 split at h
 .rename_i hc;cases h;exact hc
 split at h
 .split at h
  .cases h
  cases h;decide
 cases h;decide
theorem aDK {x:Nat × ByteArray} (h:bB S ns=.ok x):ns≠[]:=by intro e;subst e;cases h
theorem rQ (h:bB S ns=.ok (K,l)):∃x,S.ins[K]? =some x/\x.dir=true:=by
 unfold bB at h;split at h
 .cases h
 split at h
 .cases h
 split at h
 .rename_i x hx
  split at h
  .rename_i hd
   simp only[Except.ok.injEq,Prod.mk.injEq]at h;rw[<-h.1];exact⟨x,hx,hd⟩
  cases h
 cases h
theorem tB {x:Nat × ByteArray} (h:bW S s=.ok x):jF s:=by
 unfold bW at h;split at h
 .cases h
 rename_i hp;exact⟨Decidable.of_not_not hp,aDK h⟩
theorem aKN (h:bW S s=.error k):k≠0:=by
 unfold bW at h;split at h
 .rename_i hp
  cases h;exact lZ hp
 exact qQ h
theorem aMQ (h:bW S s=.ok (K,l)):∃x,S.ins[K]? =some x/\x.dir=true:=by
 unfold bW at h;split at h
 .cases h
 exact rQ h
theorem aQN (h:rD S s=.error k):k≠0:=by
 unfold rD at h;split at h
 .rename_i hp
  cases h;exact lZ hp
 split at h
 .rename_i hp
  cases h;exact hp
 cases h
theorem aEZ (hm:cS S=true):∃x,S.ins[0]? =some x/\x.num=1/\x.dir=true:=by
 unfold cS at hm;split at hm;rotate_left
 .cases hm
 rename_i h1;simp only[zE]at h1;obtain⟨⟨-,hins⟩,-⟩:=h1;unfold dR at hins;rcases e:S.ins with _|⟨x0,r⟩
 .rw[e]at hins;cases hins
 rw[e]at hins;simp only at hins;split at hins;rotate_left
 .cases hins
 rename_i h2;refine⟨x0,rfl,?_,?_⟩
 .simp_all
 simp_all
theorem aQO {y:Nat × PIn} (h:eH S c=some y):0<=cU (eV c) S.op:=by
 unfold eH at h;split at h
 .cases h
 omega
theorem aHV (h:(lX S c).2.code=0):gB S c=true/\((∃y,eJ S c=.ok y/\lX S c=y)\/(eJ S c=.error 0/\(lX S c).1=S)):=by
 unfold lX doM at h |-;split at h;rotate_left
 .cases h
 rename_i hm;refine⟨hm,?_⟩;rw[zB hm];split at h
 .rename_i y e
  exact .inl ⟨y,e,rfl⟩
 rename_i k e;have hk:k=0:=h;subst hk;exact .inr ⟨e,rfl⟩
theorem aQP {es:List PEnt} (h:bR es s=true):∃e,es[cY es s]? =some e:=⟨_,gE (sL h)⟩
theorem aFA (hm:cS S=true) (h:eJ S c≠.error 0->∀k,eJ S c≠.error k) (hk:c.kind=0\/c.kind=1\/c.kind=2\/c.kind=8\/c.kind=9\/c.kind=10\/c.kind=11):jF c.path:=by
 have key:∀k,k≠0->eJ S c=.error k->False:=λk h0 e=>by refine h ?_ k e;rw[e];intro e2;cases e2;exact h0 rfl
 unfold eJ at key;by_cases k1:c.kind=0\/c.kind=1
 .rw[zB k1]at key;unfold jO pP at key;by_cases hp:(aA c.path).1=0
  .refine⟨hp,λe=>?_⟩;rw[zA (by simpa using hp),e]at key;exact key 9 (by decide) rfl
  rw[zB hp]at key;exact(key _ (lZ hp) rfl).elim
 rw[zA k1]at key;by_cases k2:c.kind=2
 .rw[zB k2]at key;unfold rP rB at key;by_cases hp:(aA c.path).1=0
  .refine⟨hp,λe=>?_⟩;rw[zA (by simpa using hp),e]at key;obtain⟨x0,h0,-,h2⟩:=aEZ hm;rw[zA (by unfold aK;simp)]at key;have h3:S.ins[(aK S 0 []).1]? =some x0:=h0;rw[h3]at key;simp only[h2,if_true]at key;exact key 8 (by decide) rfl
  rw[zB hp]at key;exact(key _ (lZ hp) rfl).elim
 rw[zA k2,zA (by omega),zA (by omega),zA (by omega)]at key;by_cases k8:c.kind=8
 .rw[zB k8]at key;unfold nP at key;rcases ha:rD S c.path with k|K
  .rw[ha]at key;exact(key k (aQN ha) rfl).elim
  rw[ha]at key;simp only at key;have hp:(aA c.path).1=0:=by
   unfold rD at ha;split at ha
   .cases ha
   rename_i hp;exact Decidable.of_not_not hp
  refine⟨hp,λe=>?_⟩;unfold rD at ha;rw[e,zA (by simpa using hp),zA (by unfold aK;simp)]at ha;obtain⟨x0,h0,-,h2⟩:=aEZ hm;cases ha;have h3:S.ins[(aK S 0 []).1]? =some x0:=h0;rw[h3]at key;simp only[h2,if_true]at key;exact key 8 (by decide) rfl
 rw[zA k8]at key;by_cases k9:c.kind=9\/c.kind=10
 .rw[zB k9]at key;unfold hJ at key;rcases ha:bW S c.path with k|y
  .rw[ha]at key;exact(key k (aKN ha) rfl).elim
  exact tB ha
 rw[zA k9,zB (by omega)]at key;unfold hU fQ at key;by_cases hp:(aA c.path).1=0
 .refine⟨hp,λe=>?_⟩;rw[zA (by simpa using hp),e]at key;by_cases hp2:(aA c.path2).1=0
  .rw[zB hp2]at key;exact key 9 (by decide) rfl
  rw[zA hp2]at key;unfold nM at key;rw[e]at key;exact key 9 (by decide) rfl
 rw[zB hp]at key;exact(key _ (lZ hp) rfl).elim
theorem aMR (hwf:S.wf) (hm:cS S=true) (h:eJ S c≠.error 0->∀k,eJ S c≠.error k) (hk:c.kind=8\/c.kind=11) (hpo:jF c.path):jF c.path2:=by
 have key:∀k,k≠0->eJ S c=.error k->False:=λk h0 e=>by refine h ?_ k e;rw[e];intro e2;cases e2;exact h0 rfl
 unfold eJ at key;rw[zA (by omega),zA (by omega),zA (by omega),zA (by omega),zA (by omega)]at key;by_cases k8:c.kind=8
 .rw[zB k8]at key;unfold nP at key;rcases ha:rD S c.path with k|K
  .rw[ha]at key;exact(key k (aQN ha) rfl).elim
  rw[ha]at key;simp only at key;rcases hx:S.ins[K]? with _|x
  .exfalso;obtain⟨x,hx2⟩:=aTQ (iP hwf hm) ha;rw[hx]at hx2;cases hx2
  rw[hx]at key;simp only at key;by_cases hd:x.dir=true
  .rw[zB hd]at key;exact(key 8 (by decide) rfl).elim
  rw[zA hd]at key;rcases hq:bW S c.path2 with k|y
  .rw[hq]at key;exact(key k (aKN hq) rfl).elim
  exact tB hq
 rw[zA k8,zA (by omega),zB (by omega)]at key;unfold hU fQ at key;rw[zA (by simpa using hpo.1)]at key;rcases ha:bB S (aA c.path).2 with k|⟨K,s⟩
 .rw[ha]at key;by_cases hp2:(aA c.path2).1=0
  .rw[zB hp2]at key;exact(key k (qQ ha) rfl).elim
  rw[zA hp2]at key;unfold nM at key;rw[ha]at key;exact(key k (qQ ha) rfl).elim
 obtain⟨x,hx,hxd⟩:=rQ ha;unfold nM at key;rw[ha]at key;simp only[hx]at key;by_cases hp2:(aA c.path2).1=0
 .refine⟨hp2,λe=>?_⟩;rw[zB hp2,e]at key;unfold kP at key;rcases hh:bR x.ents s with _|_
  .rw[zB hh]at key;exact key 1 (by decide) rfl
  rw[zA (by rw[hh];decide)]at key;obtain⟨en,hen⟩:=aQP hh;rw[hen]at key;exact key 9 (by decide) rfl
 rw[zA hp2]at key;exfalso;rcases hh:bR x.ents s with _|_
 .rw[hh]at key;exact key 1 (by decide) rfl
 rw[zA (by rw[hh];decide)]at key;exact key _ (lZ hp2) rfl
theorem aXM (h:eJ S c≠.error 0->∀k,eJ S c≠.error k) (hk:c.kind=3\/c.kind=5\/c.kind=6):0<=cU (eV c) S.op:=by
 have key:∀k,k≠0->eJ S c=.error k->False:=λk h0 e=>by refine h ?_ k e;rw[e];intro e2;cases e2;exact h0 rfl
 unfold eJ at key;rw[zA (by omega),zA (by omega)]at key;rcases hf:eH S c with _|y
 .exfalso;rcases hk with hk|hk|hk
  .rw[zB hk]at key;unfold lR at key;rw[hf]at key;exact key 4 (by decide) rfl
  .rw[zA (by omega),zB hk]at key;unfold lC at key;rw[hf]at key;exact key 4 (by decide) rfl
  rw[zA (by omega),zA (by omega),zB hk]at key;unfold lD at key;rw[hf]at key;exact key 4 (by decide) rfl
 exact aQO hf
theorem aBC (hwf:S.wf) (h:(lX S c).2.code=0):GatherOk S c:=by
 obtain⟨hm,hr⟩:=aHV h;obtain⟨hmay,h0,h1⟩:=lY hm;have hk:0<=c.kind/\c.kind<=16:=by unfold gB at hm;simp only[zE,zI]at hm;exact⟨hm.1.1.1.1,hm.1.1.1.2⟩
 have hq:eJ S c≠.error 0->∀k,eJ S c≠.error k:=λh0 k e=>by
  rcases hr with⟨y,e2,-⟩|⟨e2,-⟩
  .rw[e2]at e;cases e
  exact h0 e2
 exact⟨hmay,⟨h0,h1⟩,hk,λk=>aFA hmay hq k,λk=>aMR hwf hmay hq k (aFA hmay hq (by omega)),λk=>aXM hq k⟩
end
theorem aOG {α:Type} (p:α->Bool) (l:List α) (q:Nat) {x:α} (h:l[q]? =some x):(l.drop q).all p=(p x&&(l.drop (q+1)).all p):=by obtain⟨hl,rfl⟩:=gI.1 h;rw[yH hl,all_cons]
theorem aJE (l:List ByteArray) (q:Nat) {x:ByteArray} (h:l[q]? =some x) (s:ByteArray):bH (l.drop q) s=bH (l.drop (q+1)) (s++((⟨#[47]⟩:ByteArray)++x)):=by obtain⟨hl,rfl⟩:=gI.1 h;rw[yH hl];rfl
theorem aOH (l:List ByteArray) (q:Nat) (h:¬q<l.length) (s:ByteArray):bH (l.drop q) s=s:=by rw[drop_eq_nil_of_le (by omega)];rfl
theorem aSY (ns:List ByteArray) (v:Value) (w:World) (h:RowAt w 1 v (ns.map λn=>[.string n])) (hlen:ns.length<=1000000):
 vR w 154 #[v] (.tuple #[.string (eB ns).1,.int .i64 (eB ns).2]):=by
 obtain⟨a,cap,rfl,hat⟩:=h.at_;rw[lM];have HA:=aC hat;obtain⟨R,hR⟩:∃R,eB ns=R:=⟨_,rfl⟩;have HR:=aC hR;rw[hR];clear hat h hR;have a1:=λn ww=>aSJ n ww;unfold vR;go_in;go_wp2
 go_loopw[11] (λvi wr=>∃q:Nat,vi=.int .i64 q/\q<=ns.length/\ns.all dM=(ns.drop q).all dM/\Bl w wr) (λvi _=>(ns.length-intOf vi).toNat)
 case atStart=>exact⟨0,rfl,by omega,by simp,bel _ _⟩
 obtain⟨q,rfl,hq,hre,hbr⟩:=hrel;have iB:Bel w wr:=⟨hbr⟩;by_cases hlt:q<ns.length
 .obtain⟨x,hx⟩:∃x,ns[q]? =some x:=⟨_,gE hlt⟩
  obtain⟨be,offe,rfl,iE0,iE,hce⟩:=HA.out wr hbr q [.string x] (by rw[gM,hx];rfl);have e0:=hce 0 _ rfl;rw[zN,Nat.mul_one]at e0;rw[aOG _ _ _ hx]at hre;rcases hm:dM x with _|_
  .have a0:R=(⟨#[]⟩,1100):=by
    rw[<-HR.out];unfold eB;rw[hre,hm,yJ,zA (by decide)]
   subst a0;have h1:=a1 x;rw[hm]at h1;clear hre hx hce hm;go_wp2_with(go_at_call 132;refine aE (h1 _) λp=>?_)
   go_ret2;refine⟨rfl,bel _ _⟩
  have h1:=a1 x;rw[hm]at h1 hre;rw[xC]at hre;have HE:=aC hre;clear hre hx hce hm;go_wp2_with(go_at_call 132;refine aE (h1 _) λp=>?_);go_roundw
  case rel=>exact⟨q+1,by go_num,by omega,HE.out,bel _ _⟩
  simp[intOf];omega
 rw [drop_eq_nil_of_le (by omega)]at hre;have HE:=aC hre;clear hre;by_cases h4:4<ns.length
 .have a0:R=(⟨#[]⟩,1102):=by
   rw[<-HR.out];unfold eB;rw[HE.out,all_nil,zB rfl,zB h4]
  subst a0;have a3:(4:Int)<ns.length:=by omega
  go_wp2
  go_ret2;refine⟨rfl,bel _ _⟩
 have a3:¬(4:Int)<ns.length:=by omega
 have a2:R=if 64<(bH ns ⟨#[]⟩).size then(⟨#[]⟩,1101)else if(bH ns ⟨#[]⟩).size=0 then(⟨#[47]⟩,0)else(bH ns ⟨#[]⟩,0):=by rw[<-HR.out];unfold eB;rw[HE.out,all_nil,zB rfl,zA h4]
 have HJ:=aC a2;clear a2;go_wp2
 go_loopw[4,24] (λvs vi wr=>∃(q:Nat) (s:ByteArray),vi=.int .i64 q/\vs=.string s/\q<=ns.length/\s.size<=13*q/\bH ns ⟨#[]⟩=bH (ns.drop q) s/\Bl w wr) (λ_ vi _=>(ns.length-intOf vi).toNat)
 case atStart=>exact⟨0,⟨#[]⟩,rfl,rfl,by omega,by decide,by simp,bel _ _⟩
 obtain⟨q,s,rfl,rfl,hq,hsz,hre,hbr⟩:=hrel;have iB:Bel w wr:=⟨hbr⟩;by_cases hlt:q<ns.length
 .obtain⟨x,hx⟩:∃x,ns[q]? =some x:=⟨_,gE hlt⟩
  obtain⟨be,offe,rfl,iE0,iE,hce⟩:=HA.out wr hbr q [.string x] (by rw[gM,hx];rfl);have e0:=hce 0 _ rfl;rw[zN,Nat.mul_one]at e0;rw[aJE _ _ hx]at hre;have a6:x.size<=12:=aAH (all_eq_true.1 (HE.out.trans rfl) x (mG hx));have n1:¬9223372036854775807<1+x.size:=by omega
  have n2:¬9223372036854775807<s.size+(1+x.size):=by omega
  have a4:=aC hre;clear hre hx hce;go_wp2;go_roundw
  case rel=>exact⟨q+1,_,by go_num,rfl,by omega,by rw[xA,xA];show s.size+(1+x.size)<=_;omega,a4.out,bel _ _⟩
  simp[intOf];omega
 rw [aOH _ _ hlt]at hre;rw[hre]at HJ;clear hre;by_cases h64:64<s.size
 .have a0:R=(⟨#[]⟩,1101):=by rw[HJ.out,zB h64]
  subst a0;have a5:(64:Int)<s.size:=by omega
  go_wp2
  go_ret2;refine⟨rfl,bel _ _⟩
 have a5:¬(64:Int)<s.size:=by omega
 by_cases h0:s.size=0
 .have a0:R=(⟨#[47]⟩,0):=by rw[HJ.out,zA h64,zB h0]
  subst a0;have i0:s.toList.isEmpty=true:=by rw[zW,isEmpty_iff];exact zT h0
  clear h0;go_wp2
  go_ret2;refine⟨rfl,bel _ _⟩
 have a0:R=(s,0):=by rw[HJ.out,zA h64,zA h0]
 subst a0;have i0:s.toList.isEmpty=false:=by rw[zW,Bool.eq_false_iff];intro h;rw[isEmpty_iff]at h;apply h0;show s.data.toList.length=0;rw[h];rfl
 clear h0;go_wp2
 go_ret2;refine⟨rfl,bel _ _⟩
theorem aBE (s:ByteArray) (w:World):Calls prog 153 #[s] w λe w'=>∃v,e=.returned (.tuple #[v,.int .i64 (aA s).1])/\Bl w w'/\OwnP 0 w' 9 1 v ((aA s).2.map λn=>[.string n])/\∀b,v.ownBlock=some b->w.heap.size<=b:=by refine(xF s w).mono ?_;rintro e w' ⟨v,he,hb,ho,hg⟩;have:=(OwnP.of_own (rows:=(aA s).2.map λn=>[.string n]) (by rw[lM,sN];exact ho) (by decide) (by intro cs h;obtain⟨x,_,rfl⟩:=mem_map.1 h;rfl));exact⟨v,he,hb,this,hg⟩
theorem aKR (iv ov mv:Value) (S:PSt) (p:ByteArray) (w:World) (h:StRead w iv ov mv S) (hwf:S.wf):
 vR w 152 #[.agg #[iv,ov,mv],.string p] (.tuple #[.int .i64 (eU S p).1,.int .i64 (eU S p).2]):=by
 have b3:=h.box 26;have h1:=h.1.one;have h2:=h.2.1.one;have h3:iv.oneCell'=true:=by obtain⟨_,_,_,h3,_⟩:=h;exact h3.one
 have a1:=λww=>aBE p ww;have a3:=λc ww=>vD c ww;have a0:=λww (hb:Bl w ww)=>aFZ iv ov mv S ww (h.below hb (zC _)) hwf;obtain⟨R,hR⟩:∃R,eU S p=R:=⟨_,rfl⟩;rw[hR];have HR:=aC hR;clear hR;by_cases hp:(aA p).1=0
 .have b6:=dB hp;rw[hp]at a1;rcases hm:cS S with _|_
  .have a7:R=(0,9):=by
    rw[<-HR.out];unfold eU;rw[zA (by simpa using hp),zA (by rw[hm];decide)]
   subst a7;rw[hm]at a0;generalize(aA p).2=ns at *;clear h hp b3 a3 hm;unfold vR;go_in;go_wp2_with(first|(go_at_call 153;refine(a1 _).mono ?_;rintro e w1 ⟨nv,rfl,hb1,hnm,hng⟩;obtain⟨p1,rfl⟩:=hb1.rest;clear hb1;obtain⟨an,cn,rfl,-⟩:=hnm.row)|(go_at_call 39;refine aE (a0 _ (bel _ _)) λp=>?_))
   go_ret2;refine⟨rfl,bel _ _⟩
  have hf:=iP hwf hm;have a7:R=if(aK S 0 (aA p).2).2≠0 then(0,(aK S 0 (aA p).2).2)else(gK S (aK S 0 (aA p).2).1,0):=by rw[<-HR.out];unfold eU;rw[zA (by simpa using hp),zB hm]
  have b5:=fL hf (aA p).2 0 hf.pos;have a9:∀ww v,Below (w.alloc (.cells #[iv,ov,mv] 26)).heap.size (w.alloc (.cells #[iv,ov,mv] 26)) ww->RowAt ww 1 v ((aA p).2.map λn=>[.string n])->Calls prog 191 #[.pointer w.heap.size,v] ww _:=λww v hb hv=>vJ w.heap.size S (aA p).2 v ww (b3.below hb (zC _)) hf.wf hf.pos hf.find hv (zD b6 (by decide));rw[hm]at a0;obtain⟨ai,capi,rfl,hati⟩:=h.ins_at2;have HI:=aC hati;generalize(aA p).2=ns at *;generalize hwr:aK S 0 ns=WR at *;obtain⟨k,cd⟩:=WR;simp only at a7 b5 a9;have HN:=aC hwr;clear h hp b3 a3 hm hati hwr;by_cases hcd:cd=0
  .subst hcd;obtain⟨x,hx⟩:∃x,S.ins[k]? =some x:=⟨_,gE b5⟩
   have b4:R=(x.num,0):=by rw[a7,zA (by simp)];unfold gK;rw[hx]
   subst b4;clear a7;obtain⟨bi,off,ev,rfl,iG0,ho1,hev,hcl⟩:=HI.out k x hx;have b7:(k:Int)<S.ins.length:=by omega
   clear hev;unfold vR;go_in;go_upto_region 2 with(go_at_call 153;refine(a1 _).mono ?_;rintro e w1 ⟨nv,rfl,hb1,hnm,hng⟩;obtain⟨p1,rfl⟩:=hb1.rest;clear hb1;have a2:=hnm.row;obtain⟨an,cn,rfl,-⟩:=hnm.row)
   rw[lM]at a2;refine aD (F:=λwA=>Below (w.alloc (.cells #[.slice (some ⟨bi,off,none⟩) S.ins.length capi,ov,mv] 26)).heap.size (w.alloc (.cells #[.slice (some ⟨bi,off,none⟩) S.ins.length capi,ov,mv] 26)) wA/\RowAt wA 1 (.slice an ns.length cn) (ns.map λn=>[.string n])) ⟨bel _ _,a2⟩ ?_;clear a2 hnm a1;rintro wA ⟨hbA,hrA⟩;have a4:Blk wA w.heap.size #[.slice (some ⟨bi,off,none⟩) S.ins.length capi,ov,mv] 26:=(Blk.new w _ 26).below hbA (by simp);have b0:wA.cell? w.heap.size=some (.slice (some ⟨bi,off,none⟩) S.ins.length capi):=a4.cell 0;have b1:wA.cell? ⟨w.heap.size,1,none⟩=some ov:=a4.cell 1;have b2:wA.cell? ⟨w.heap.size,2,none⟩=some mv:=a4.cell 2;have iB:=a4.lt;have a6:Bl w wA:=(bel w (w.alloc (.cells #[.slice (some ⟨bi,off,none⟩) S.ins.length capi,ov,mv] 26))).trans (hbA.mono (by simp));have a5:=λww (hb:Bl wA ww)=>a0 ww (a6.trans (hb.mono a6.size));have a8:=λww (hb:Bl wA ww)=>a9 ww _ (hbA.trans (hb.mono hbA.size)) (hrA.below hb (zC _));obtain⟨iGA,y0,-⟩:=hcl wA a6;clear hcl;have HB:=aC a6;clear a9 a0 hbA hrA a4 a6;go_wp2_with(first|(go_at_call 39;refine aE (a5 _ (bel _ _)) λp=>?_)|(go_at_call 191;refine aE (a8 _ (bel _ _)) λp=>?_))
   go_ret2;refine⟨rfl,HB.out.trans ((bel wA _).mono HB.out.size)⟩
  have b4:R=(0,cd):=by rw[a7,zB hcd]
  subst b4;clear a7;have b8:(cd !=0)=true:=by simpa using hcd
  clear hcd;unfold vR;go_in;go_upto_region 2 with(go_at_call 153;refine(a1 _).mono ?_;rintro e w1 ⟨nv,rfl,hb1,hnm,hng⟩;obtain⟨p1,rfl⟩:=hb1.rest;clear hb1;have a2:=hnm.row;obtain⟨an,cn,rfl,-⟩:=hnm.row)
  rw[lM]at a2;refine aD (F:=λwA=>Below (w.alloc (.cells #[.slice ai S.ins.length capi,ov,mv] 26)).heap.size (w.alloc (.cells #[.slice ai S.ins.length capi,ov,mv] 26)) wA/\RowAt wA 1 (.slice an ns.length cn) (ns.map λn=>[.string n])) ⟨bel _ _,a2⟩ ?_;clear a2 hnm a1;rintro wA ⟨hbA,hrA⟩;have a4:Blk wA w.heap.size #[.slice ai S.ins.length capi,ov,mv] 26:=(Blk.new w _ 26).below hbA (by simp);have b0:wA.cell? w.heap.size=some (.slice ai S.ins.length capi):=a4.cell 0;have b1:wA.cell? ⟨w.heap.size,1,none⟩=some ov:=a4.cell 1;have b2:wA.cell? ⟨w.heap.size,2,none⟩=some mv:=a4.cell 2;have iB:=a4.lt;have a6:Bl w wA:=(bel w (w.alloc (.cells #[.slice ai S.ins.length capi,ov,mv] 26))).trans (hbA.mono (by simp));have a5:=λww (hb:Bl wA ww)=>a0 ww (a6.trans (hb.mono a6.size));have a8:=λww (hb:Bl wA ww)=>a9 ww _ (hbA.trans (hb.mono hbA.size)) (hrA.below hb (zC _));have HB:=aC a6;clear a9 a0 hbA hrA a4 a6;go_wp2_with(first|(go_at_call 39;refine aE (a5 _ (bel _ _)) λp=>?_)|(go_at_call 191;refine aE (a8 _ (bel _ _)) λp=>?_))
  go_ret2;refine⟨rfl,HB.out.trans ((bel wA _).mono HB.out.size)⟩
 have a7:R=(0,eC (aA p).1):=by rw[<-HR.out];unfold eU;rw[zB hp]
 subst a7;generalize(aA p).1=pc at *;generalize(aA p).2=ns at *;have b9:(pc !=0)=true:=by simpa using hp
 have hc:=a3 pc;generalize eC pc=cc at *;clear a0 h hp b3;unfold vR;go_in;go_wp2_with(first|(go_at_call 153;refine(a1 _).mono ?_;rintro e w1 ⟨nv,rfl,hb1,hnm,hng⟩;obtain⟨p1,rfl⟩:=hb1.rest;clear hb1;obtain⟨an,cn,rfl,-⟩:=hnm.row)|(go_at_call 190;refine aE (hc _) λp=>?_))
 go_ret2;refine⟨rfl,bel _ _⟩
section
theorem aXU:(prog.info? 61).map (λi=>(i.zero,i.size,i.bytes))=some (some (.agg #[.int .i64 0,.string ⟨#[]⟩]),2,24):=by kernel_rfl
theorem oM:aJG PKey.cells 29 61 2:=aCL aXU underlying29 rfl (by decide) (by decide) aSU aGE
def tD (w:World) (g:Nat):Prop:=∃c t,Blk w g c t/\(t=61\/t=106)
theorem aVE {w:World} {g:Nat} {c:Array Value} {t:TypeId} (h:Blk w g c t) (h1:t≠61) (h2:t≠106):¬tD w g:=λ⟨c',t',hb',ht'⟩=>by
 by_cases e:t=t'
 .subst e;rcases ht' with h|h
  .exact h1 h
  exact h2 h
 exact Blk.ne_ h hb' e rfl
structure GAt (w0 w:World) (S S':PSt) (c:PCall) (bs bh bc:Nat) (ks:List PKey):Prop where
 sp:SP w0 bs S
 sh:SP w0 bh S'
 cp:CP w0 bc c
 below:Bl w0 w
 own:∃out,Blk w w0.heap.size #[.pointer bs,.pointer bh,.pointer bc,out] 106/\OwnP w0.heap.size w 61 2 out (ks.map PKey.cells)
section
variable {w0 w w':World} {S S':PSt} {c:PCall} {bs bh bc:Nat} {ks:List PKey}
theorem GAt.later (h:GAt w0 w S S' c bs bh bc ks) (hb:Bl w w'):GAt w0 w' S S' c bs bh bc ks:=by obtain⟨h1,h2,h3,h4,out,h5,h6⟩:=h;exact⟨h1,h2,h3,h4.trans (hb.mono h4.size),out,h5.below hb h5.lt.lt,OwnP.keep h6 (Keep.of_below hb (λ_=>False)) (λ_ _ h=>h)⟩
theorem kA (h:GAt w0 w S S' c bs bh bc ks) (hl:ks.length<=1000000) (n:Int) (s:ByteArray):
 Calls prog 113 #[.pointer w0.heap.size,n,s] w λe w'=>e=.returned (.tuple #[])/\GAt w0 w' S S' c bs bh bc (ks++[⟨n,s⟩])/\Keep (tD w) w w':=by
 obtain⟨h1,h2,h3,h4,out,h5,h6⟩:=h;have iG:=h5.lt;have g3:w.cell? ⟨w0.heap.size,3,none⟩=some out:=h5.cell 3;have a3:=λg hg=>h6.ne_blk h5 (by decide) (g:=g) hg;have b1:=h4.size;have a4:∀g,out.ownBlock=some g->tD w g:=λg hg=>by
  rcases h6 with⟨rfl,_⟩|⟨g',cap,arr,rfl,_,hb,_⟩
  .simp[Value.ownBlock]at hg
  simp[Value.ownBlock]at hg;subst hg;exact⟨_,_,hb,.inl rfl⟩
 have a5:tD w w0.heap.size:=⟨_,_,h5,.inr rfl⟩;have b2:=h6.one;have H6:=aC h6;have H5:=aC h5;clear h6 h5;go_in;go_wp2_with(at_builtin;refine oM rfl _ _ rfl w0.heap.size out (.slice w.heap.size 1 1) ks [⟨n,s⟩] rfl rfl ?c1 ?c2 ?c3 ?c4 ?_)
 case c1=>exact OwnP.keep H6.out (Keep.of_below (bel w _) (λ_=>False)) (λ_ _ h=>h)
 case c2=>exact(OwnP.row (B:=0) (e:=61) (.inr ⟨w.heap.size,1,#[.int .i64 n,.string s],rfl,Nat.zero_le _,Blk.new _ _ _,zC _,by decide,rfl,λq cs hq t u hu=>by
  rcases q with _|q
  .simp only[xB,map_nil,zH,zF]at hq;subst hq;rw[Nat.zero_mul,zM];rcases t with _|_|t
   .exact hu
   .exact hu
   simp[PKey.cells]at hu
  simp at hq⟩))
 case c3=>simp;omega
 case c4=>simp;omega
 intro v' w1 hG;obtain⟨hown,hkeep,-⟩:=hG;rw[show List.map PKey.cells ks++[PKey.cells ⟨n,s⟩]=(ks++([⟨n,s⟩]:List PKey)).map PKey.cells by simp]at hown;have a0:Blk w1 w0.heap.size #[.pointer bs,.pointer bh,.pointer bc,out] 106:=hkeep.blk (H5.out.alloc _) (λhg=>a3 _ hg rfl);have b3:=a0.lt;have b4:w1.cell? ⟨w0.heap.size,3,none⟩=some out:=a0.cell 3;have fz:=a0.frozen 3;have a1:∀g,out.ownBlock=some g->w0.heap.size<=g:=λg hg=>H6.out.ge hg;have a6:Keep (λg=>g=w0.heap.size\/out.ownBlock=some g) w w1:=(Keep.of_below (bel w (w.alloc (.cells #[n,s] 61))) (λg=>g=w0.heap.size\/out.ownBlock=some g)).trans hkeep (λi hi hg=>.inr hg);obtain⟨av,nv,cv,rfl⟩:∃av nv cv,v'=.slice av nv cv:=by obtain⟨a,c,h,-⟩:=hown.row;exact⟨a,_,c,h⟩
 have a2:=a6.setCell (p:=⟨w0.heap.size,3,none⟩) (.inl (.inl rfl)) (.slice av nv cv);have a7:=a2.mono (S':=tD w) (λi hi hg=>hg.elim (λe=>by rw[e];exact a5) (a4 i));have a8:=a0.set_ 3 (.slice av nv cv);have a9:OwnP w0.heap.size (w1.setCell ⟨w0.heap.size,3,none⟩ (.slice av nv cv)) 61 2 (.slice av nv cv) ((ks++([⟨n,s⟩]:List PKey)).map PKey.cells):=OwnP.keep hown (Keep.setCell (S:=λg=>g=w0.heap.size) (p:=⟨w0.heap.size,3,none⟩) (Keep.refl _ w1) (.inl rfl) (.slice av nv cv)) (λg hg a1=>hown.ne_blk a0 (by decide) hg a1);have b0:Bl w0 (w1.setCell ⟨w0.heap.size,3,none⟩ (.slice av nv cv)):=h4.trans (a2.below b1 (λi hi hg=>hg.elim (λe=>by omega) (λe=>by have:=a1 i e;omega)));have HF:=lE a7 a8 a9 b0;clear hown hkeep a6 a2 a7 a8 a9 b0 a4 a5 h4 g3 iG H6 H5 a3 a1;go_wp2;exact xE (v:=.tuple #[]) (by simp[results,go_sem]) rfl ⟨rfl,⟨h1,h2,h3,HF.out.2.2.2,_,HF.out.2.1,HF.out.2.2.1⟩,HF.out.1⟩
end
end
end Go.Proofs.YtmkapobnfigedaaGreatDoor
