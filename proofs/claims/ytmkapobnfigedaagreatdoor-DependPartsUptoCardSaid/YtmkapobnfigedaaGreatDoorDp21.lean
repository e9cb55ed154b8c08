/- A part of a proof of a law. Conditions: none. -/
import Derived.Test.YtmkapobnfigedaaGreatDoorDp14
import Derived.Test.YtmkapobnfigedaaGreatDoorDp20
set_option linter.unusedVariables false
set_option linter.unusedSimpArgs false
set_option maxRecDepth 100000
set_option maxHeartbeats 40000000
namespace Go.Proofs.YtmkapobnfigedaaGreatDoor
open Go.Proofs.Tryz List Go.RowKit
section
def ByOut (B b:Nat) (w:World) (X:Except Int (PSt × PRes)) (e:Ending) (w':World):Prop:=
 match X with
 |.error k=>e=.returned (aR k 0 0)/\Bl w w'
 |.ok (S',r)=>e=.returned (.agg #[.int .i64 0,.int .i64 r.fd,.int .i64 r.num,.bool r.dir,.string r.data,.slice none 0 0])/\Below B w w'/\Spared b w w'/\∃iv' ov' mv',Blk w' b #[iv',ov',mv'] 26/\StOwn B w' iv' ov' mv' S'
variable {B b:Nat} {S:PSt} {data:ByteArray} {fd num:Int} {iv mv ov:Value} {w w':World}
theorem ByOut.err {k:Int} (h:Bl w w'):ByOut B b w (.error k) (.returned (aR k 0 0)) w':=⟨rfl,h⟩
theorem ByOut.same {dir:Bool} (h:Bl w w') (hB:B<=w.heap.size) (hb:Blk w b #[iv,ov,mv] 26) (ho:StOwn B w iv ov mv S):
 ByOut B b w (.ok (S,⟨0,fd,num,dir,data,[]⟩)) (.returned (.agg #[.int .i64 0,fd,num,dir,data,.slice none 0 0])) w':=⟨rfl,h.mono hB,Spared.of_below h,iv,ov,mv,aB hb h,ho.on h⟩
theorem ByOut.done {S':PSt} {dir:Bool} (h:Below B w w'/\Spared b w w'/\∃iv' ov' mv',Blk w' b #[iv',ov',mv'] 26/\StOwn B w' iv' ov' mv' S'):
 ByOut B b w (.ok (S',⟨0,fd,num,dir,data,[]⟩)) (.returned (.agg #[.int .i64 0,fd,num,dir,data,.slice none 0 0])) w':=⟨rfl,h⟩
theorem lW {K:Nat} {x:PIn} (hb:Blk w b #[iv,ov,mv] 26) (ho:StOwn B w iv ov mv S) (hwf:S.wf) (hx:S.ins[K]? =some x) (hn0:num≠0):∃bi cap ma mn mc oa on oc,iv=.slice (some ⟨bi,0,none⟩) S.ins.length cap/\ov=.slice oa on oc/\mv=.slice ma mn mc/\(∀w2,Bl w w2->BlockLt bi w2/\w2.cell? ⟨bi,K*4+3,none⟩=some (.string x.data))/\BlockLt bi w/\w.cell? ⟨bi,K*4+3,none⟩=some (.string x.data)/\(K:Int)<S.ins.length/\(num==0)=false/\BlockLt b w/\b<w.heap.size/\w.cell? b=some (.slice (some ⟨bi,0,none⟩) S.ins.length cap)/\w.cell? ⟨b,1,none⟩=some (.slice oa on oc)/\w.cell? ⟨b,2,none⟩=some (.slice ma mn mc):=by
 obtain⟨hxl,-⟩:=gI.1 hx;obtain⟨bi,cap,rfl⟩:=ho.ins_form (by omega);obtain⟨ma,mn,mc,rfl⟩:=ho.2.1.form;obtain⟨oa,on,oc,rfl⟩:=ho.1.form;obtain⟨a,cap',e1,hai⟩:=ho.read.ins_at2;cases e1;obtain⟨bi',oi,ev,he,iI0,hoi,her,hci⟩:=hai K x hx;cases he;have a1:∀w2,Bl w w2->BlockLt bi w2/\w2.cell? ⟨bi,K*4+3,none⟩=some (.string x.data):=by intro w2 h2;obtain⟨i2,-,-,-,x3⟩:=hci w2 h2;simp only[zM]at x3;exact⟨i2,x3⟩
 obtain⟨iI,x3⟩:=a1 w (Below.refl _ _);have a2:(K:Int)<S.ins.length:=by omega
 have a3:(num==0)=false:=by simpa using hn0
 have iL:=hb.lt;have a0:b<w.heap.size:=hb.lt.lt;obtain⟨-,s0,s1,s2⟩:=gR hb;exact⟨_,_,_,_,_,_,_,_,rfl,rfl,rfl,a1,iI,x3,a2,a3,iL,a0,s0,s1,s2⟩
theorem bBA (B b:Nat) (S:PSt) (iv ov mv:Value) (kd core f0 off nu:Int) (path p2 dt:ByteArray) (w:World) (hb:Blk w b #[iv,ov,mv] 26) (ho:StOwn B w iv ov mv S) (hB:B<=w.heap.size) (hBb:B<=b) (hwf:S.wf) (num:Int) (hfd:oE S core f0=num) (hn0:num=0):
 Calls prog 95 #[.pointer b,.agg #[kd,core,f0,off,nu,path,p2,dt]] w (ByOut B b w (.error 4)):=by
 have a0:=c43 ho.read hwf.2.1 hfd;have a1:=λk ww=>bE k ww;obtain⟨ia,ni,ci,oa,on,oc,ma,mn,mc,rfl,rfl,rfl⟩:=ho.read.slices;subst hn0;have iL:=hb.lt;have a2:b<w.heap.size:=hb.lt.lt;obtain⟨-,s0,s1,s2⟩:=gR hb;have HH:=bJ hb ho;clear hb ho hwf hfd;go_in;go_upto_region 1 with fail;refine qR ?_
 repeat(go_big_quiet_step ((with_reducible first|refine cI (a0 _ (bel _ _))|refine cJ (a0 _ (bel _ _)))))
 refine QN λp=>?_;go_wp2_with(go_at_call 92;refine aE (a1 _ _) λp=>?_);exact xD (v:=aR 4 0 0) (by unfold results;simp only[results95,aR];go_simp) rfl (ByOut.err (bel w _))
theorem aZC (B b:Nat) (S:PSt) (iv ov mv:Value) (core f0 off nu:Int) (path p2 dt:ByteArray) (w:World) (hb:Blk w b #[iv,ov,mv] 26) (ho:StOwn B w iv ov mv S) (hB:B<=w.heap.size) (hBb:B<=b) (hwf:S.wf) (num:Int) (hfd:oE S core f0=num) (hn0:num≠0) (K:Nat) (x:PIn) (hat:bP S num=K) (hx:S.ins[K]? =some x):
 Calls prog 95 #[.pointer b,.agg #[.int .i64 15,core,f0,off,nu,path,p2,dt]] w (ByOut B b w (.ok (S,⟨0,0,0,false,⟨#[]⟩,[]⟩))):=by
 have a0:=c43 ho.read hwf.2.1 hfd;have a2:=λk ww=>bE k ww;have a1:=vK ho.read hwf.1 hat;obtain⟨bi,cap,ma,mn,mc,oa,on,oc,rfl,rfl,rfl,hcz,iI,x3,hKI,hnb,iL,hblt,s0,s1,s2⟩:=lW hb ho hwf hx hn0;have HH:=bJ hb ho;clear hb ho hwf hfd hx hat hn0;have a3:=aC hcz;clear hcz;go_in;go_upto_region 1 with fail;refine qR ?_
 repeat(go_big_quiet_step ((with_reducible first|refine cI (a0 _ (bel _ _))|refine cJ (a0 _ (bel _ _)))))
 refine QN λp=>?_;go_wp2;refine qR ?_
 repeat(go_big_quiet_step ((with_reducible first|refine cI (a1 _ (bel _ _))|refine cJ (a1 _ (bel _ _)))))
 refine QN λp=>?_;go_wp2_with(go_at_call 92;refine aE (a2 _ _) λp=>?_);exact xD (v:=.agg ()) (by unfold results;simp only[results95];go_simp) rfl (ByOut.same (bel w _) hB HH.out.1 HH.out.2)
theorem bBB (B b:Nat) (S:PSt) (iv ov mv:Value) (core f0 off nu:Int) (path p2 dt:ByteArray) (w:World) (hb:Blk w b #[iv,ov,mv] 26) (ho:StOwn B w iv ov mv S) (hB:B<=w.heap.size) (hBb:B<=b) (hwf:S.wf) (num:Int) (hfd:oE S core f0=num) (hn0:num≠0) (K:Nat) (x:PIn) (hat:bP S num=K) (hx:S.ins[K]? =some x):
 Calls prog 95 #[.pointer b,.agg #[.int .i64 7,core,f0,off,nu,path,p2,dt]] w (ByOut B b w (.ok (S,⟨0,0,x.data.size,false,⟨#[]⟩,[]⟩))):=by
 have a0:=c43 ho.read hwf.2.1 hfd;have a2:=λk ww=>bE k ww;have a1:=vK ho.read hwf.1 hat;obtain⟨bi,cap,ma,mn,mc,oa,on,oc,rfl,rfl,rfl,hcz,iI,x3,hKI,hnb,iL,hblt,s0,s1,s2⟩:=lW hb ho hwf hx hn0;have HH:=bJ hb ho;clear hb ho hwf hfd hx hat hn0;have a3:=aC hcz;clear hcz;go_in;go_upto_region 1 with fail;refine qR ?_
 repeat(go_big_quiet_step ((with_reducible first|refine cI (a0 _ (bel _ _))|refine cJ (a0 _ (bel _ _)))))
 refine QN λp=>?_;go_wp2;refine qR ?_
 repeat(go_big_quiet_step ((with_reducible first|refine cI (a1 _ (bel _ _))|refine cJ (a1 _ (bel _ _)))))
 refine QN λp=>?_;go_wp2;exact xD (v:=.agg #[.int .i64 0,.int .i64 0,x.data.size,false,.string ⟨#[]⟩,.slice none 0 0]) (by unfold results;simp only[results95];go_simp) rfl (ByOut.same (bel w _) hB HH.out.1 HH.out.2)
theorem aZD (B b:Nat) (S:PSt) (iv ov mv:Value) (core f0 off nu:Int) (path p2 dt:ByteArray) (w:World) (hb:Blk w b #[iv,ov,mv] 26) (ho:StOwn B w iv ov mv S) (hB:B<=w.heap.size) (hBb:B<=b) (hwf:S.wf) (num:Int) (hfd:oE S core f0=num) (hn0:num≠0) (K:Nat) (x:PIn) (hat:bP S num=K) (hx:S.ins[K]? =some x) (hbad:off<0\/(¬off<0/\256<off)\/(¬off<0/\¬256<off/\nu<0)\/(¬off<0/\¬256<off/\¬nu<0/\256<nu)):
 Calls prog 95 #[.pointer b,.agg #[.int .i64 4,core,f0,off,nu,path,p2,dt]] w (ByOut B b w (.error 9)):=by
 have a0:=c43 ho.read hwf.2.1 hfd;have a2:=λk ww=>bE k ww;have a1:=vK ho.read hwf.1 hat;obtain⟨bi,cap,ma,mn,mc,oa,on,oc,rfl,rfl,rfl,hcz,iI,x3,hKI,hnb,iL,hblt,s0,s1,s2⟩:=lW hb ho hwf hx hn0;have HH:=bJ hb ho;clear hb ho hwf hfd hx hat hn0;have a3:=aC hcz;clear hcz;go_in;go_upto_region 1 with fail;refine qR ?_
 repeat(go_big_quiet_step ((with_reducible first|refine cI (a0 _ (bel _ _))|refine cJ (a0 _ (bel _ _)))))
 refine QN λp=>?_;go_wp2;refine qR ?_
 repeat(go_big_quiet_step ((with_reducible first|refine cI (a1 _ (bel _ _))|refine cJ (a1 _ (bel _ _)))))
 refine QN λp=>?_;rcases hbad with hbad|hbad|hbad|hbad;rotate_left
 focus
  obtain⟨b1,b2⟩:=hbad
 rotate_left
 focus
  obtain⟨b1,b2,b3⟩:=hbad
 rotate_left
 focus
  obtain⟨b1,b2,b3,b4⟩:=hbad
 rotate_left
 iterate 4
  .go_wp2_with(go_at_call 92;refine aE (a2 _ _) λp=>?_)
   exact xD (v:=aR 9 0 0) (by unfold results;simp only[results95,aR];go_simp) rfl (ByOut.err (bel w _))
theorem aZE (B b:Nat) (S:PSt) (iv ov mv:Value) (core f0 off nu:Int) (path p2 dt:ByteArray) (w:World) (hb:Blk w b #[iv,ov,mv] 26) (ho:StOwn B w iv ov mv S) (hB:B<=w.heap.size) (hBb:B<=b) (hwf:S.wf) (num:Int) (hfd:oE S core f0=num) (hn0:num≠0) (K:Nat) (x:PIn) (hat:bP S num=K) (hx:S.ins[K]? =some x) (hbad:off<0\/(¬off<0/\256<off)\/(¬off<0/\¬256<off/\(256:Int)<dt.size)):
 Calls prog 95 #[.pointer b,.agg #[.int .i64 5,core,f0,off,nu,path,p2,dt]] w (ByOut B b w (.error 9)):=by
 have a0:=c43 ho.read hwf.2.1 hfd;have a2:=λk ww=>bE k ww;have a1:=vK ho.read hwf.1 hat;obtain⟨bi,cap,ma,mn,mc,oa,on,oc,rfl,rfl,rfl,hcz,iI,x3,hKI,hnb,iL,hblt,s0,s1,s2⟩:=lW hb ho hwf hx hn0;have HH:=bJ hb ho;clear hb ho hwf hfd hx hat hn0;have a3:=aC hcz;clear hcz;go_in;go_upto_region 1 with fail;refine qR ?_
 repeat(go_big_quiet_step ((with_reducible first|refine cI (a0 _ (bel _ _))|refine cJ (a0 _ (bel _ _)))))
 refine QN λp=>?_;go_wp2;refine qR ?_
 repeat(go_big_quiet_step ((with_reducible first|refine cI (a1 _ (bel _ _))|refine cJ (a1 _ (bel _ _)))))
 refine QN λp=>?_;rcases hbad with hbad|hbad|hbad;rotate_left
 focus
  obtain⟨b1,b2⟩:=hbad
 rotate_left
 focus
  obtain⟨b1,b2,b3⟩:=hbad
 rotate_left
 iterate 3
  .go_wp2_with(go_at_call 92;refine aE (a2 _ _) λp=>?_)
   exact xD (v:=aR 9 0 0) (by unfold results;simp only[results95,aR];go_simp) rfl (ByOut.err (bel w _))
theorem aZF (B b:Nat) (S:PSt) (iv ov mv:Value) (core f0 off nu:Int) (path p2 dt:ByteArray) (w:World) (hb:Blk w b #[iv,ov,mv] 26) (ho:StOwn B w iv ov mv S) (hB:B<=w.heap.size) (hBb:B<=b) (hwf:S.wf) (num:Int) (hfd:oE S core f0=num) (hn0:num≠0) (K:Nat) (x:PIn) (hat:bP S num=K) (hx:S.ins[K]? =some x) (hbad:nu<0\/(¬nu<0/\256<nu)):
 Calls prog 95 #[.pointer b,.agg #[.int .i64 6,core,f0,off,nu,path,p2,dt]] w (ByOut B b w (.error 9)):=by
 have a0:=c43 ho.read hwf.2.1 hfd;have a1:=λk ww=>bE k ww;have a2:=vK ho.read hwf.1 hat;obtain⟨bi,cap,ma,mn,mc,oa,on,oc,rfl,rfl,rfl,hcz,iI,x3,hKI,hnb,iL,hblt,s0,s1,s2⟩:=lW hb ho hwf hx hn0;have HH:=bJ hb ho;clear hb ho hwf hfd hx hat hn0;have a3:=aC hcz;clear hcz;go_in;go_upto_region 1 with fail;refine qR ?_
 repeat(go_big_quiet_step ((with_reducible first|refine cI (a0 _ (bel _ _))|refine cJ (a0 _ (bel _ _)))))
 refine QN λp=>?_;go_wp2;refine qR ?_
 repeat(go_big_quiet_step ((with_reducible first|refine cI (a2 _ (bel _ _))|refine cJ (a2 _ (bel _ _)))))
 refine QN λp=>?_;rcases hbad with hbad|hbad
 .go_wp2_with(go_at_call 92;refine aE (a1 _ _) λp=>?_)
  exact xD (v:=aR 9 0 0) (by unfold results;simp only[results95,aR];go_simp) rfl (ByOut.err (bel w _))
 obtain⟨b1,b2⟩:=hbad;go_wp2_with(go_at_call 92;refine aE (a1 _ _) λp=>?_);exact xD (v:=aR 9 0 0) (by unfold results;simp only[results95,aR];go_simp) rfl (ByOut.err (bel w _))
theorem aZG (B b:Nat) (S:PSt) (iv ov mv:Value) (core f0 off nu:Int) (path p2 dt:ByteArray) (w:World) (hb:Blk w b #[iv,ov,mv] 26) (ho:StOwn B w iv ov mv S) (hB:B<=w.heap.size) (hBb:B<=b) (hwf:S.wf) (num:Int) (hfd:oE S core f0=num) (hn0:num≠0) (K:Nat) (x:PIn) (hat:bP S num=K) (hx:S.ins[K]? =some x) (b1:¬off<0) (b2:¬256<off) (b3:¬(256:Int)<dt.size) (b4:256<off+dt.size):
 Calls prog 95 #[.pointer b,.agg #[.int .i64 5,core,f0,off,nu,path,p2,dt]] w (ByOut B b w (.error 5)):=by
 have a0:=c43 ho.read hwf.2.1 hfd;have a2:=λk ww=>bE k ww;have a1:=vK ho.read hwf.1 hat;obtain⟨bi,cap,ma,mn,mc,oa,on,oc,rfl,rfl,rfl,hcz,iI,x3,hKI,hnb,iL,hblt,s0,s1,s2⟩:=lW hb ho hwf hx hn0;have HH:=bJ hb ho;clear hb ho hwf hfd hx hat hn0;have a3:=aC hcz;clear hcz;go_in;go_upto_region 1 with fail;refine qR ?_
 repeat(go_big_quiet_step ((with_reducible first|refine cI (a0 _ (bel _ _))|refine cJ (a0 _ (bel _ _)))))
 refine QN λp=>?_;go_wp2;refine qR ?_
 repeat(go_big_quiet_step ((with_reducible first|refine cI (a1 _ (bel _ _))|refine cJ (a1 _ (bel _ _)))))
 refine QN λp=>?_;have a4:wrap64 (off+dt.size)=off+dt.size:=by unfold wrap64;omega
 go_wp2_with(go_at_call 92;refine aE (a2 _ _) λp=>?_);exact xD (v:=aR 5 0 0) (by unfold results;simp only[results95,aR];go_simp) rfl (ByOut.err (bel w _))
theorem aZH (B b:Nat) (S:PSt) (iv ov mv:Value) (core f0 off nu:Int) (path p2 dt:ByteArray) (w:World) (hb:Blk w b #[iv,ov,mv] 26) (ho:StOwn B w iv ov mv S) (hB:B<=w.heap.size) (hBb:B<=b) (hwf:S.wf) (num:Int) (hfd:oE S core f0=num) (hn0:num≠0) (K:Nat) (x:PIn) (hat:bP S num=K) (hx:S.ins[K]? =some x) (b1:¬off<0) (b2:¬256<off) (hde:dt.size=0):
 Calls prog 95 #[.pointer b,.agg #[.int .i64 5,core,f0,off,nu,path,p2,dt]] w (ByOut B b w (.ok (S,⟨0,0,0,false,⟨#[]⟩,[]⟩))):=by
 have a1:=c43 ho.read hwf.2.1 hfd;have a3:=λk ww=>bE k ww;have a2:=vK ho.read hwf.1 hat;obtain⟨bi,cap,ma,mn,mc,oa,on,oc,rfl,rfl,rfl,hcz,iI,x3,hKI,hnb,iL,hblt,s0,s1,s2⟩:=lW hb ho hwf hx hn0;have HH:=bJ hb ho;clear hb ho hwf hfd hx hat hn0;have a4:=aC hcz;clear hcz;go_in;go_upto_region 1 with fail;refine qR ?_
 repeat(go_big_quiet_step ((with_reducible first|refine cI (a1 _ (bel _ _))|refine cJ (a1 _ (bel _ _)))))
 refine QN λp=>?_;go_wp2;refine qR ?_
 repeat(go_big_quiet_step ((with_reducible first|refine cI (a2 _ (bel _ _))|refine cJ (a2 _ (bel _ _)))))
 refine QN λp=>?_;have a0:dt=⟨#[]⟩:=by
  cases dt with
  | mk d=>have:d.size=0:=hde;have:d=#[]:=Array.eq_empty_of_size_eq_zero this;rw[this]
 subst a0;have hz:((⟨#[]⟩:ByteArray).size:Int)=0:=rfl;go_wp2;exact xD (v:=.agg ()) (by unfold results;simp only[results95];go_simp) rfl (ByOut.same (bel w _) hB HH.out.1 HH.out.2)
end
end Go.Proofs.YtmkapobnfigedaaGreatDoor
