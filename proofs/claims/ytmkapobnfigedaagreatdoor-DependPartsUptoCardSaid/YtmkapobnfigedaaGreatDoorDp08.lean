/- A part of a proof of a law. Conditions: none. -/
import Derived.Test.YtmkapobnfigedaaGreatDoorDp07
set_option linter.unusedVariables false
set_option linter.unusedSimpArgs false
set_option maxRecDepth 100000
set_option maxHeartbeats 40000000
namespace Go.Proofs.YtmkapobnfigedaaGreatDoor
open Go.Proofs.Tryz List Go.RowKit
theorem nX {F:World->Prop} {c:Code} {Q:Exit->Act->World->Prop} {a:Act} {w:World} (hF:F w) (h:∀w,F w->c.wp prog Q a w):c.wp prog Q a w:=h w hF
def rL (S:PSt) (n:Int):Bool:=match S.ins[(aK S.nums n).toNat]? with
 |some x=>x.dir
 |none=>false
def uB (S:PSt) (r:PRes) (K1:Nat) (x1:PIn) (s:ByteArray) (num:Int) (K2:Nat) (t:ByteArray):Except Int (PSt × PRes):=
 match(S.ents K1 x1 (aM x1.ents (cZ x1.ents s))).ins[K2]? with
 |none=>.error 0
 |some y=>.ok ((S.ents K1 x1 (aM x1.ents (cZ x1.ents s))).ents K2 y (aY y.ents (cZ y.ents t) ⟨t,num⟩),r)
def vE (S:PSt) (r:PRes) (K1:Nat) (x1:PIn) (s:ByteArray) (num:Int) (K2:Nat) (t:ByteArray):Except Int (PSt × PRes):=
 match S.ins[K2]? with
 |none=>.error 0
 |some x2=>if bT x2.ents t=true then .error 2 else if fB x2.ents t (if x1.num=x2.num then s else⟨#[]⟩)=true then .error 5 else uB S r K1 x1 s num K2 t
def lE (S:PSt) (r:PRes) (ns2:List ByteArray) (K1:Nat) (x1:PIn) (s:ByteArray):Except Int (PSt × PRes):=
 if bT x1.ents s=false then .error 1 else match x1.ents[cZ x1.ents s]? with
 |none=>.error 0
 | some e=>match bC S ns2 with
   |.error k=>.error k
   |.ok (K2,t)=>if(rL S e.num&&jO S ns2 e.num)=true then .error 9 else vE S r K1 x1 s e.num K2 t
def fW (S:PSt) (c:PCall) (r:PRes):Except Int (PSt × PRes):=
 match bC S (aA c.path).2 with
 |.error k=>.error k
 | .ok (K1,s)=>match S.ins[K1]? with
   |none=>.error 0
   |some x1=>lE S r (aA c.path2).2 K1 x1 s
def aHN (S:PSt) (c:PCall):Bool:=match bC S (aA c.path).2 with
 |.error _=>true
 | .ok (K1,s)=>match S.ins[K1]? with
   |none=>true
   | some x1=>match x1.ents[cZ x1.ents s]? with
     |none=>true
     |some e=>!(rL S e.num&&jO S (aA c.path2).2 e.num)
theorem aTZ (B d b:Nat) (S:PSt) (c:PCall) (r:PRes) (w:World) (h:DoAt B w d b S c r) (hB:B<=w.heap.size) (hf:Fine S) (hs:Small S) (hmd:0<S.made.length) (hp:(aA c.path).1=0) (hpl:(aA c.path).2.length<=1000000000) (hp2:(aA c.path2).1=0) (hpl2:(aA c.path2).2.length<=1000000000)
 (hno:aHN S c=true):
 Calls prog 149 #[.pointer d] w (bL B w d b c (fW S c r)):=by
 obtain⟨bi,gm,capi,capm,ov,nv,ho⟩:=h.open_ hf.pos hmd;have d6:w.cell? ⟨d,6,none⟩=some (.string c.path):=ho.hD.cell 6;have d7:w.cell? ⟨d,7,none⟩=some (.string c.path2):=ho.hD.cell 7;have d0:w.cell? d=some (.pointer b):=ho.hD.cell 0;have b0:w.cell? b=some (.slice bi S.ins.length capi):=ho.hb.cell 0;have iD:=ho.hD.lt;have d8:=ho.hb.lt;have iW:Bel w w:=inferInstance;have b1:=λn ww (hb:Bl w ww)=>aAP d b S c c.path2 n ww (ho.at_.read.below hb (zC _)) hf hp2 hpl2;obtain⟨PM1,hPM1⟩:∃PM,bC S (aA c.path).2=PM:=⟨_,rfl⟩;have c4:=ho.parent_call hf c.path hp hpl PM1 hPM1;obtain⟨PM2,hPM2⟩:∃PM,bC S (aA c.path2).2=PM:=⟨_,rfl⟩;have b5:=ho.parent_call hf c.path2 hp2 hpl2 PM2 hPM2;unfold fW;rw[hPM1];rcases PM1 with k|⟨K1,s⟩
 .simp only;have a3:∀ww,Bl w ww->Calls prog 170 #[.pointer d,c.path] ww λe w'=>e=bR k/\Bl ww w':=c4
  clear c4 b5 hPM1 hPM2 hf hs ho b1 hno;go_in;go_wp2_with(first|(go_at_call 170;refine aE (a3 _ (bel _ _)) λp=>?_));exact⟨rfl,(bel w _).mono hB,rfl⟩
 have a3 : vB w 170 #[.pointer d,.string c.path] (.tuple #[.pointer (some ⟨bi,K1*4,none⟩),s]):=c4;obtain⟨x1,hx1,_⟩:=mP hPM1;obtain⟨ea1,ec1,hI1⟩:=ho.ino hs hx1;have a1:=λww hb=>hI1.ent ww s hb;have a2:=hI1.y2;have a0:=hI1.y0;have d9:=hI1.iB;simp only;rw[hx1];simp only;unfold lE;by_cases a8:bT x1.ents s=false
 .rw[zB a8];rw[a8]at a1;clear c4 b5 hPM1 hPM2 hf hs ho b1 hno hI1 hx1
  go_in;go_wp2_with(first|(go_at_call 170;refine aE (a3 _ (bel _ _)) λp=>?_)|(go_at_call 171;refine aE (a1 _ (bel _ _)) λp=>?_)|(go_at_call 172;with_reducible refine aE (aP _ _) λp=>?_)|(go_at_call 172;with_reducible refine aE (aG _ _) λp=>?_));exact⟨rfl,(bel w _).mono hB,rfl⟩
 rw [zA a8];have a8:bT x1.ents s=true:=by simpa using a8
 have c7:=sV a8;rw[a8]at a1;obtain⟨e1,he1⟩:∃e,x1.ents[cZ x1.ents s]? =some e:=⟨_,gE c7⟩;rw[he1];simp only;obtain⟨q,hq⟩:=gAB (cZ x1.ents s);simp only[hq]at a1 c7;have e0:(q:Int)<x1.ents.length:=by omega
 obtain⟨a',c',he',hat'⟩:=hI1.row.at_;simp only[lM,zO]at he';obtain⟨rfl,-,rfl⟩:=he';obtain⟨be,oe,rfl,iE0,-,hce⟩:=hat' w (Below.refl _ _) q e1.cells (by rw[gM,<-hq,he1];rfl);have n1:=hce 1 _ rfl;rw[hPM2];have c6:=ho.at_.read.sp;have b7:=λww (hb:Bl w ww)=>jU b S e1.num ww (c6.below hb (zC _)) hf.wf;have c8:=cX S.nums e1.num;have c9:=hf.find x1 (mG hx1) e1 (mG he1);have e2:S.nums.length=S.ins.length:=by unfold PSt.nums;rw[lM]
 rcases PM2 with k|⟨K2,t⟩
 .simp only;have a6:∀ww,Bl w ww->Calls prog 170 #[.pointer d,c.path2] ww λe w'=>e=bR k/\Bl ww w':=b5
  clear c4 b5 hPM1 hPM2 hf hs ho b1 hno hI1 hx1 hat' hce he1 c6 b7 c8 c9;go_in;go_wp2_with(first|(go_at_call 170;with_reducible refine aE (a3 _ (bel _ _)) λp=>?_)|(go_at_call 171;refine aE (a1 _ (bel _ _)) λp=>?_)|(go_at_call 172;refine aE (aG _ _) λp=>?_)|(go_at_call 170;with_reducible refine aE (a6 _ (bel _ _)) λp=>?_));exact⟨rfl,(bel w _).mono hB,rfl⟩
 have a6 :vB w 170 #[.pointer d,.string c.path2] (.tuple #[.pointer (some ⟨bi,K2*4,none⟩),t]):=b5;simp only;have b6:(rL S e1.num&&jO S (aA c.path2).2 e1.num)=false:=by
  unfold aHN at hno;rw[hPM1]at hno;simp only[hx1,he1]at hno;generalize rL S e1.num=a at hno |-;generalize jO S (aA c.path2).2 e1.num=b at hno |-;revert hno;rcases a with _|_<;>rcases b with _|_<;>simp
 rw[b6];simp only[zP,if_false];obtain⟨f,hfv⟩:∃f:Nat,aK S.nums e1.num=f:=⟨(aK S.nums e1.num).toNat,by omega⟩;have d2:f<S.ins.length:=by omega
 obtain⟨xf,hxf⟩:=gAA d2;obtain⟨eaf,ecf,hIf⟩:=ho.ino hs hxf;have f1:=hIf.y1;have d1:rL S e1.num=xf.dir:=by unfold rL;rw[hfv,zJ,hxf]
 have a5:vB w 102 #[.pointer b,.int .i64 e1.num] (.int .i64 f):=λww hb=>by have:=b7 ww hb;rw[hfv]at this;exact this
 have a4:∀ww,Bl w ww->Calls prog 188 #[.pointer d,c.path2,e1.num] ww _:=λww hb=>b1 e1.num ww hb;rw[d1]at b6;have d3:(f:Int)<S.ins.length:=by omega
 obtain⟨x2,hx2,_⟩:=mP hPM2;obtain⟨ea2,ec2,hI2⟩:=ho.ino hs hx2;have a7:=λww hb=>hI2.ent ww t hb;have c2:=hI2.y2;have c0:=hI2.y0;unfold vE;rw[hx2];simp only;generalize hthv:jO S (aA c.path2).2 e1.num=tv at a4 b6;generalize hdv:xf.dir=dv at f1 b6;obtain⟨but,hbut⟩:∃but,(if x1.num=x2.num then s else⟨#[]⟩)=but:=⟨_,rfl⟩;rw[hbut];have a9:=λww hb=>hI2.ful ww t but hb;obtain⟨hit2,hh2⟩:∃h,bT x2.ents t=h:=⟨_,rfl⟩;obtain⟨fu,hfu⟩:∃h,fB x2.ents t but=h:=⟨_,rfl⟩;rw[hh2]at a7 |-;rw[hfu]at a9 |-;have hK:=jj6 ho hs a8 he1 hx1 hq;have b2:dv=false\/(dv=true/\tv=false):=by
  rcases dv with _|_
  .exact .inl rfl
  exact .inr ⟨rfl,by simpa using b6⟩
 have b8:(x1.num==x2.num)=decide (x1.num=x2.num):=by
  by_cases h:x1.num=x2.num<;>simp[h]
 clear c4 b5 hPM1 hPM2 hf b1 hno hI1 hat' hce c6 b7 c8 c9 b6 hIf hI2 hh2 hfu d1 hdv hthv hfv hxf;rcases hit2 with _|_
 .simp only[zP,if_false];rcases fu with _|_
  .simp only[zP,if_false];obtain⟨S1,hS1⟩:=gAB (S.ents K1 x1 (aM x1.ents (cZ x1.ents s)))
   have d4:S1.ins.length=S.ins.length:=by rw[<-hS1];unfold PSt.ents;simp
   obtain⟨hK2l,_⟩:=gI.1 hx2;obtain⟨y2,hy2⟩:∃y,(S.ents K1 x1 (aM x1.ents (cZ x1.ents s))).ins[K2]? =some y:=⟨_,gE (by rw[hS1];omega)⟩;have c5:y2.ents.length<=100000:=by
    unfold PSt.ents at hy2;simp only at hy2;by_cases hkk:K1=K2
    .subst hkk;rw[zY (by omega)]at hy2;cases hy2;have:=hs.ents x1 (mG hx1);unfold aM;simp only[lP,zU,yK];omega
    rw[zX hkk]at hy2;exact hs.ents y2 (mG hy2)
   unfold uB;rw[hy2];simp only;have d5:=hs.ents x1 (mG hx1);have b3:∀ww,Bl w ww->Calls prog 187 #[.pointer (some ⟨bi,K1*4,none⟩),s] ww _:=λww hb=>aMX B ww ov (.slice gm S.made.length capm) S bi capi K1 x1 s (hK.out.1.below hb).st hK.out.2.2.2.2.1 (zD hB hb.size) (hK.out.2.1.ents x1 (mG hK.out.2.2.2.2.1)) hK.out.2.2.1 e1 hK.out.2.2.2.1;clear hS1 d4;by_cases hsm:x1.num=x2.num
   .rw[zB hsm]at hbut;rw[decide_eq_true hsm]at b8;subst hbut;clear hx1 hx2 ho hs a8 he1 hq hsm;rcases b2 with rfl|⟨rfl,rfl⟩
    .go_in
     go_upto_region 5 with(first|(go_at_call 170;with_reducible refine aE (a3 _ (bel _ _)) λp=>?_)|(go_at_call 171;refine aE (a1 _ (bel _ _)) λp=>?_)|(go_at_call 172;refine aE (aG _ _) λp=>?_)|(go_at_call 170;with_reducible refine aE (a6 _ (bel _ _)) λp=>?_))
     refine qR ?_
     repeat(go_big_quiet_step (first|(first|refine cI (a5 _ (bel _ _))|refine cJ (a5 _ (bel _ _)))|(first|refine cI (a4 _ (bel _ _))|refine cJ (a4 _ (bel _ _)))|(first|refine cI (aG _ _)|refine cJ (aG _ _))))
     refine QN λp=>?_;go_upto_region 9 with(first|(go_at_call 171;refine aE (a7 _ (bel _ _)) λp=>?_)|(go_at_call 172;refine aE (aG _ _) λp=>?_))
     refine qR ?_
     repeat(go_big_quiet_step (fail))
     refine QN λp=>?_;go_upto_region 13 with(first|(go_at_call 173;refine aE (a9 _ (bel _ _)) λp=>?_)|(go_at_call 172;refine aE (aG _ _) λp=>?_)|(go_at_call 187;refine(b3 _ (bel w _)).mono ?_;rintro e w3 ⟨rfl,hb3,hk3,hs3⟩;have o3:=Opened.put (hK.out.1.below (bel w _)) hk3 hs3;have b9:=bJ o3 (((bel w _).mono hB).trans hb3);clear hb3 hk3 hs3 o3))
     refine nX (F:=λwA=>Opened B wA d b bi gm capi capm ov nv (S.ents K1 x1 (aM x1.ents (cZ x1.ents s))) c r/\Below B w wA) b9.out ?_;clear b9 b3;rintro wA ⟨oA,hbA⟩;have b4:=uA B wA ov (.slice gm S.made.length capm) (S.ents K1 x1 (aM x1.ents (cZ x1.ents s))) bi capi K2 y2 t e1.num oA.st hy2 (zD hB hbA.size) c5;have HO:=bJ oA hbA;clear oA hbA;have c3:(S.ents K1 x1 (aM x1.ents (cZ x1.ents s))).ins.length=S.ins.length:=by unfold PSt.ents;simp
     go_wp2_with(go_at_call 175;refine b4.mono ?_;rintro e w4 ⟨rfl,hb4,hk4,hs4⟩;have o4:=Opened.put HO.out.1 hk4 hs4;have c1:=bJ o4 (HO.out.2.trans hb4);clear hb4 hk4 hs4 o4);exact xE (v:=.tuple #[]) (by simp[results,go_sem]) rfl ⟨c1.out.2,rfl,c1.out.1.at_⟩
    go_in;go_upto_region 5 with(first|(go_at_call 170;with_reducible refine aE (a3 _ (bel _ _)) λp=>?_)|(go_at_call 171;refine aE (a1 _ (bel _ _)) λp=>?_)|(go_at_call 172;refine aE (aG _ _) λp=>?_)|(go_at_call 170;with_reducible refine aE (a6 _ (bel _ _)) λp=>?_))
    refine qR ?_
    repeat(go_big_quiet_step (first|(first|refine cI (a5 _ (bel _ _))|refine cJ (a5 _ (bel _ _)))|(first|refine cI (a4 _ (bel _ _))|refine cJ (a4 _ (bel _ _)))|(first|refine cI (aG _ _)|refine cJ (aG _ _))))
    refine QN λp=>?_;go_upto_region 9 with(first|(go_at_call 171;refine aE (a7 _ (bel _ _)) λp=>?_)|(go_at_call 172;refine aE (aG _ _) λp=>?_))
    refine qR ?_
    repeat(go_big_quiet_step (fail))
    refine QN λp=>?_;go_upto_region 13 with(first|(go_at_call 173;refine aE (a9 _ (bel _ _)) λp=>?_)|(go_at_call 172;refine aE (aG _ _) λp=>?_)|(go_at_call 187;refine(b3 _ (bel w _)).mono ?_;rintro e w3 ⟨rfl,hb3,hk3,hs3⟩;have o3:=Opened.put (hK.out.1.below (bel w _)) hk3 hs3;have b9:=bJ o3 (((bel w _).mono hB).trans hb3);clear hb3 hk3 hs3 o3))
    refine nX (F:=λwA=>Opened B wA d b bi gm capi capm ov nv (S.ents K1 x1 (aM x1.ents (cZ x1.ents s))) c r/\Below B w wA) b9.out ?_;clear b9 b3;rintro wA ⟨oA,hbA⟩;have b4:=uA B wA ov (.slice gm S.made.length capm) (S.ents K1 x1 (aM x1.ents (cZ x1.ents s))) bi capi K2 y2 t e1.num oA.st hy2 (zD hB hbA.size) c5;have HO:=bJ oA hbA;clear oA hbA;have c3:(S.ents K1 x1 (aM x1.ents (cZ x1.ents s))).ins.length=S.ins.length:=by unfold PSt.ents;simp
    go_wp2_with(go_at_call 175;refine b4.mono ?_;rintro e w4 ⟨rfl,hb4,hk4,hs4⟩;have o4:=Opened.put HO.out.1 hk4 hs4;have c1:=bJ o4 (HO.out.2.trans hb4);clear hb4 hk4 hs4 o4);exact xE (v:=.tuple #[]) (by simp[results,go_sem]) rfl ⟨c1.out.2,rfl,c1.out.1.at_⟩
   rw[zA hsm]at hbut;rw[yM hsm]at b8;subst hbut;clear hx1 hx2 ho hs a8 he1 hq hsm;rcases b2 with rfl|⟨rfl,rfl⟩
   .go_in
    go_upto_region 5 with(first|(go_at_call 170;with_reducible refine aE (a3 _ (bel _ _)) λp=>?_)|(go_at_call 171;refine aE (a1 _ (bel _ _)) λp=>?_)|(go_at_call 172;refine aE (aG _ _) λp=>?_)|(go_at_call 170;with_reducible refine aE (a6 _ (bel _ _)) λp=>?_))
    refine qR ?_
    repeat(go_big_quiet_step (first|(first|refine cI (a5 _ (bel _ _))|refine cJ (a5 _ (bel _ _)))|(first|refine cI (a4 _ (bel _ _))|refine cJ (a4 _ (bel _ _)))|(first|refine cI (aG _ _)|refine cJ (aG _ _))))
    refine QN λp=>?_;go_upto_region 9 with(first|(go_at_call 171;refine aE (a7 _ (bel _ _)) λp=>?_)|(go_at_call 172;refine aE (aG _ _) λp=>?_))
    refine qR ?_
    repeat(go_big_quiet_step (fail))
    refine QN λp=>?_;go_upto_region 13 with(first|(go_at_call 173;refine aE (a9 _ (bel _ _)) λp=>?_)|(go_at_call 172;refine aE (aG _ _) λp=>?_)|(go_at_call 187;refine(b3 _ (bel w _)).mono ?_;rintro e w3 ⟨rfl,hb3,hk3,hs3⟩;have o3:=Opened.put (hK.out.1.below (bel w _)) hk3 hs3;have b9:=bJ o3 (((bel w _).mono hB).trans hb3);clear hb3 hk3 hs3 o3))
    refine nX (F:=λwA=>Opened B wA d b bi gm capi capm ov nv (S.ents K1 x1 (aM x1.ents (cZ x1.ents s))) c r/\Below B w wA) b9.out ?_;clear b9 b3;rintro wA ⟨oA,hbA⟩;have b4:=uA B wA ov (.slice gm S.made.length capm) (S.ents K1 x1 (aM x1.ents (cZ x1.ents s))) bi capi K2 y2 t e1.num oA.st hy2 (zD hB hbA.size) c5;have HO:=bJ oA hbA;clear oA hbA;have c3:(S.ents K1 x1 (aM x1.ents (cZ x1.ents s))).ins.length=S.ins.length:=by unfold PSt.ents;simp
    go_wp2_with(go_at_call 175;refine b4.mono ?_;rintro e w4 ⟨rfl,hb4,hk4,hs4⟩;have o4:=Opened.put HO.out.1 hk4 hs4;have c1:=bJ o4 (HO.out.2.trans hb4);clear hb4 hk4 hs4 o4);exact xE (v:=.tuple #[]) (by simp[results,go_sem]) rfl ⟨c1.out.2,rfl,c1.out.1.at_⟩
   go_in;go_upto_region 5 with(first|(go_at_call 170;with_reducible refine aE (a3 _ (bel _ _)) λp=>?_)|(go_at_call 171;refine aE (a1 _ (bel _ _)) λp=>?_)|(go_at_call 172;refine aE (aG _ _) λp=>?_)|(go_at_call 170;with_reducible refine aE (a6 _ (bel _ _)) λp=>?_))
   refine qR ?_
   repeat(go_big_quiet_step (first|(first|refine cI (a5 _ (bel _ _))|refine cJ (a5 _ (bel _ _)))|(first|refine cI (a4 _ (bel _ _))|refine cJ (a4 _ (bel _ _)))|(first|refine cI (aG _ _)|refine cJ (aG _ _))))
   refine QN λp=>?_;go_upto_region 9 with(first|(go_at_call 171;refine aE (a7 _ (bel _ _)) λp=>?_)|(go_at_call 172;refine aE (aG _ _) λp=>?_))
   refine qR ?_
   repeat(go_big_quiet_step (fail))
   refine QN λp=>?_;go_upto_region 13 with(first|(go_at_call 173;refine aE (a9 _ (bel _ _)) λp=>?_)|(go_at_call 172;refine aE (aG _ _) λp=>?_)|(go_at_call 187;refine(b3 _ (bel w _)).mono ?_;rintro e w3 ⟨rfl,hb3,hk3,hs3⟩;have o3:=Opened.put (hK.out.1.below (bel w _)) hk3 hs3;have b9:=bJ o3 (((bel w _).mono hB).trans hb3);clear hb3 hk3 hs3 o3))
   refine nX (F:=λwA=>Opened B wA d b bi gm capi capm ov nv (S.ents K1 x1 (aM x1.ents (cZ x1.ents s))) c r/\Below B w wA) b9.out ?_;clear b9 b3;rintro wA ⟨oA,hbA⟩;have b4:=uA B wA ov (.slice gm S.made.length capm) (S.ents K1 x1 (aM x1.ents (cZ x1.ents s))) bi capi K2 y2 t e1.num oA.st hy2 (zD hB hbA.size) c5;have HO:=bJ oA hbA;clear oA hbA;have c3:(S.ents K1 x1 (aM x1.ents (cZ x1.ents s))).ins.length=S.ins.length:=by unfold PSt.ents;simp
   go_wp2_with(go_at_call 175;refine b4.mono ?_;rintro e w4 ⟨rfl,hb4,hk4,hs4⟩;have o4:=Opened.put HO.out.1 hk4 hs4;have c1:=bJ o4 (HO.out.2.trans hb4);clear hb4 hk4 hs4 o4);exact xE (v:=.tuple #[]) (by simp[results,go_sem]) rfl ⟨c1.out.2,rfl,c1.out.1.at_⟩
  simp only[if_true];by_cases hsm:x1.num=x2.num
  .rw[zB hsm]at hbut;rw[decide_eq_true hsm]at b8;subst hbut;clear hx1 hx2 ho hs a8 he1 hq hsm;rcases b2 with rfl|⟨rfl,rfl⟩
   .go_in
    go_upto_region 5 with(first|(go_at_call 170;with_reducible refine aE (a3 _ (bel _ _)) λp=>?_)|(go_at_call 171;refine aE (a1 _ (bel _ _)) λp=>?_)|(go_at_call 172;refine aE (aG _ _) λp=>?_)|(go_at_call 170;with_reducible refine aE (a6 _ (bel _ _)) λp=>?_))
    refine qR ?_
    repeat(go_big_quiet_step (first|(first|refine cI (a5 _ (bel _ _))|refine cJ (a5 _ (bel _ _)))|(first|refine cI (a4 _ (bel _ _))|refine cJ (a4 _ (bel _ _)))|(first|refine cI (aG _ _)|refine cJ (aG _ _))))
    refine QN λp=>?_;go_upto_region 9 with(first|(go_at_call 171;refine aE (a7 _ (bel _ _)) λp=>?_)|(go_at_call 172;refine aE (aG _ _) λp=>?_))
    refine qR ?_
    repeat(go_big_quiet_step (fail))
    refine QN λp=>?_;go_wp2_with(first|(go_at_call 173;refine aE (a9 _ (bel _ _)) λp=>?_)|(go_at_call 172;with_reducible refine aE (aP _ _) λp=>?_)|(go_at_call 172;with_reducible refine aE (aG _ _) λp=>?_));exact⟨rfl,(bel w _).mono hB,rfl⟩
   go_in;go_upto_region 5 with(first|(go_at_call 170;with_reducible refine aE (a3 _ (bel _ _)) λp=>?_)|(go_at_call 171;refine aE (a1 _ (bel _ _)) λp=>?_)|(go_at_call 172;refine aE (aG _ _) λp=>?_)|(go_at_call 170;with_reducible refine aE (a6 _ (bel _ _)) λp=>?_))
   refine qR ?_
   repeat(go_big_quiet_step (first|(first|refine cI (a5 _ (bel _ _))|refine cJ (a5 _ (bel _ _)))|(first|refine cI (a4 _ (bel _ _))|refine cJ (a4 _ (bel _ _)))|(first|refine cI (aG _ _)|refine cJ (aG _ _))))
   refine QN λp=>?_;go_upto_region 9 with(first|(go_at_call 171;refine aE (a7 _ (bel _ _)) λp=>?_)|(go_at_call 172;refine aE (aG _ _) λp=>?_))
   refine qR ?_
   repeat(go_big_quiet_step (fail))
   refine QN λp=>?_;go_wp2_with(first|(go_at_call 173;refine aE (a9 _ (bel _ _)) λp=>?_)|(go_at_call 172;with_reducible refine aE (aP _ _) λp=>?_)|(go_at_call 172;with_reducible refine aE (aG _ _) λp=>?_));exact⟨rfl,(bel w _).mono hB,rfl⟩
  rw[zA hsm]at hbut;rw[yM hsm]at b8;subst hbut;clear hx1 hx2 ho hs a8 he1 hq hsm;rcases b2 with rfl|⟨rfl,rfl⟩
  .go_in
   go_upto_region 5 with(first|(go_at_call 170;with_reducible refine aE (a3 _ (bel _ _)) λp=>?_)|(go_at_call 171;refine aE (a1 _ (bel _ _)) λp=>?_)|(go_at_call 172;refine aE (aG _ _) λp=>?_)|(go_at_call 170;with_reducible refine aE (a6 _ (bel _ _)) λp=>?_))
   refine qR ?_
   repeat(go_big_quiet_step (first|(first|refine cI (a5 _ (bel _ _))|refine cJ (a5 _ (bel _ _)))|(first|refine cI (a4 _ (bel _ _))|refine cJ (a4 _ (bel _ _)))|(first|refine cI (aG _ _)|refine cJ (aG _ _))))
   refine QN λp=>?_;go_upto_region 9 with(first|(go_at_call 171;refine aE (a7 _ (bel _ _)) λp=>?_)|(go_at_call 172;refine aE (aG _ _) λp=>?_))
   refine qR ?_
   repeat(go_big_quiet_step (fail))
   refine QN λp=>?_;go_wp2_with(first|(go_at_call 173;refine aE (a9 _ (bel _ _)) λp=>?_)|(go_at_call 172;with_reducible refine aE (aP _ _) λp=>?_)|(go_at_call 172;with_reducible refine aE (aG _ _) λp=>?_));exact⟨rfl,(bel w _).mono hB,rfl⟩
  go_in;go_upto_region 5 with(first|(go_at_call 170;with_reducible refine aE (a3 _ (bel _ _)) λp=>?_)|(go_at_call 171;refine aE (a1 _ (bel _ _)) λp=>?_)|(go_at_call 172;refine aE (aG _ _) λp=>?_)|(go_at_call 170;with_reducible refine aE (a6 _ (bel _ _)) λp=>?_))
  refine qR ?_
  repeat(go_big_quiet_step (first|(first|refine cI (a5 _ (bel _ _))|refine cJ (a5 _ (bel _ _)))|(first|refine cI (a4 _ (bel _ _))|refine cJ (a4 _ (bel _ _)))|(first|refine cI (aG _ _)|refine cJ (aG _ _))))
  refine QN λp=>?_;go_upto_region 9 with(first|(go_at_call 171;refine aE (a7 _ (bel _ _)) λp=>?_)|(go_at_call 172;refine aE (aG _ _) λp=>?_))
  refine qR ?_
  repeat(go_big_quiet_step (fail))
  refine QN λp=>?_;go_wp2_with(first|(go_at_call 173;refine aE (a9 _ (bel _ _)) λp=>?_)|(go_at_call 172;with_reducible refine aE (aP _ _) λp=>?_)|(go_at_call 172;with_reducible refine aE (aG _ _) λp=>?_));exact⟨rfl,(bel w _).mono hB,rfl⟩
 simp only[if_true];clear hx1 hx2 ho hs a8 he1 hq hbut b8;rcases b2 with rfl|⟨rfl,rfl⟩
 .go_in
  go_upto_region 5 with(first|(go_at_call 170;with_reducible refine aE (a3 _ (bel _ _)) λp=>?_)|(go_at_call 171;refine aE (a1 _ (bel _ _)) λp=>?_)|(go_at_call 172;refine aE (aG _ _) λp=>?_)|(go_at_call 170;with_reducible refine aE (a6 _ (bel _ _)) λp=>?_))
  refine qR ?_
  repeat(go_big_quiet_step (first|(first|refine cI (a5 _ (bel _ _))|refine cJ (a5 _ (bel _ _)))|(first|refine cI (a4 _ (bel _ _))|refine cJ (a4 _ (bel _ _)))|(first|refine cI (aG _ _)|refine cJ (aG _ _))))
  refine QN λp=>?_;go_wp2_with(first|(go_at_call 171;refine aE (a7 _ (bel _ _)) λp=>?_)|(go_at_call 172;with_reducible refine aE (aG _ _) λp=>?_)|(go_at_call 172;with_reducible refine aE (aP _ _) λp=>?_));exact⟨rfl,(bel w _).mono hB,rfl⟩
 go_in;go_upto_region 5 with(first|(go_at_call 170;with_reducible refine aE (a3 _ (bel _ _)) λp=>?_)|(go_at_call 171;refine aE (a1 _ (bel _ _)) λp=>?_)|(go_at_call 172;refine aE (aG _ _) λp=>?_)|(go_at_call 170;with_reducible refine aE (a6 _ (bel _ _)) λp=>?_))
 refine qR ?_
 repeat(go_big_quiet_step (first|(first|refine cI (a5 _ (bel _ _))|refine cJ (a5 _ (bel _ _)))|(first|refine cI (a4 _ (bel _ _))|refine cJ (a4 _ (bel _ _)))|(first|refine cI (aG _ _)|refine cJ (aG _ _))))
 refine QN λp=>?_;go_wp2_with(first|(go_at_call 171;refine aE (a7 _ (bel _ _)) λp=>?_)|(go_at_call 172;with_reducible refine aE (aG _ _) λp=>?_)|(go_at_call 172;with_reducible refine aE (aP _ _) λp=>?_));exact⟨rfl,(bel w _).mono hB,rfl⟩
end Go.Proofs.YtmkapobnfigedaaGreatDoor
