/- Part of the proof of a law of chapter 15. Conditions: none. -/
import Derived.Test.YtmkapobnfigedaaGreatDoorDl40
import Derived.Test.YtmkapobnfigedaaGreatDoorDl29
set_option linter.unusedVariables false
set_option linter.unusedSimpArgs false
set_option maxRecDepth 100000
set_option maxHeartbeats 8000000
namespace Go.Proofs.YtmkapobnfigedaaGreatDoor
open Go.RowKit
section
section
variable {w0 w w' w1 w2:World} {S S':PSt} {c:PCall} {bs bh bc:Nat} {ks:List PKey}
theorem aEI (h:GAt w0 w S S' c bs bh bc ks) (hl:ks.length<=1000) (hwf:S.wf) (hwf':S'.wf) (ok:GatherOk S c) {l:List PKey} (hk:dA S S' c=some l):
 Calls Tryz.prog 74 #[.pointer (some ⟨w0.heap.size,0,none⟩)] w λe w'=>e=.returned (.bool true)/\GAt w0 w' S S' c bs bh bc (ks++l):=by
 unfold dA at hk;simp only at hk;obtain⟨m,hm,rfl⟩:=Option.map_eq_some_iff.1 hk;by_cases k0:c.kind=0
 .rw[zB (.inl k0)]at hm;cases hm;exact vU h hl hwf hwf' ok (.inl k0)
 by_cases k1:c.kind=1
 .rw[zB (.inr k1)]at hm;cases hm;exact vU h hl hwf hwf' ok (.inr k1)
 rw[zA (by omega)]at hm;by_cases k2:c.kind=2
 .rw[zB k2]at hm;cases hm;exact aIT h hl hwf hwf' ok k2
 rw[zA k2]at hm;by_cases k3:c.kind=3
 .rw[zB (.inl k3)]at hm;cases hm;exact vV h hl hwf hwf' ok (.inl k3)
 by_cases k6:c.kind=6
 .rw[zB (.inr k6)]at hm;cases hm;exact vV h hl hwf hwf' ok (.inr k6)
 rw[zA (by omega)]at hm;by_cases k5:c.kind=5
 .rw[zB k5]at hm;by_cases hd:c.data.size=0
  .rw[zB hd]at hm;cases hm
  rw[zA hd]at hm;cases hm;exact aIU h hl hwf hwf' ok k5 hd
 rw[zA k5]at hm;by_cases k8:c.kind=8
 .rw[zB k8]at hm;cases hm;exact aIV h hl hwf hwf' ok k8
 rw[zA k8]at hm;by_cases k9:c.kind=9
 .rw[zB (.inl k9)]at hm;cases hm;exact vW h hl hwf hwf' ok (.inl k9)
 by_cases k10:c.kind=10
 .rw[zB (.inr k10)]at hm;cases hm;exact vW h hl hwf hwf' ok (.inr k10)
 rw[zA (by omega)]at hm;by_cases k11:c.kind=11
 .rw[zB k11]at hm;cases hm;exact aEF h hl hwf hwf' ok k11
 rw[zA k11]at hm;cases hm
theorem aJC (h:GAt w0 w S S' c bs bh bc ks) (hk:dA S S' c=none):
 Calls Tryz.prog 74 #[.pointer (some ⟨w0.heap.size,0,none⟩)] w λe w'=>e=.returned (.bool false)/\GAt w0 w' S S' c bs bh bc ks:=by
 obtain⟨out,hgb,-⟩:=h.own;have iG:=hgb.lt;have gc:w.cell? ⟨w0.heap.size,2,none⟩=some (.pointer (some ⟨bc,0,none⟩)):=hgb.cell 2;have iC:BlockLt bc w:=⟨zR h.cp.1 h.below.size⟩;have cp:∀(t:Nat) (u:Value),c.cells[t]? =some u->w.cell? ⟨bc,t,none⟩=some u:=λt u hu=>(h.below.cell (p:=⟨bc,t,none⟩) h.cp.1).trans (h.cp.2 t u hu);have ck:=cp 0 _ rfl;have cd:=cp 7 _ rfl;have HG:=aG h;unfold dA at hk;simp only[Option.map_eq_none_iff]at hk;have a0:¬(c.kind=0\/c.kind=1):=λhh=>by rw[zB hh]at hk;cases hk
 rw[zA a0]at hk;have n2:¬c.kind=2:=λhh=>by rw[zB hh]at hk;cases hk
 rw[zA n2]at hk;have a1:¬(c.kind=3\/c.kind=6):=λhh=>by rw[zB hh]at hk;cases hk
 rw[zA a1]at hk;by_cases k5:c.kind=5
 .rw[zB k5]at hk;have hd:c.data.size=0:=Classical.byContradiction λhn=>by rw[zA hn]at hk;cases hk
  have a3:c.data.toList.isEmpty=true:=by rw[zW,List.isEmpty_iff];exact zT hd
  rw[k5]at ck;clear h hgb cp hk a0 n2 a1 hd;go_enter Tryz.func74,Tryz.ntmps74;go_wp2_with fail;go_ret;exact⟨rfl,HG.out.later (bel w _)⟩
 rw[zA k5]at hk;have n8:¬c.kind=8:=λhh=>by rw[zB hh]at hk;cases hk
 rw[zA n8]at hk;have n9:¬(c.kind=9\/c.kind=10):=λhh=>by rw[zB hh]at hk;cases hk
 rw[zA n9]at hk;have a2:¬c.kind=11:=λhh=>by rw[zB hh]at hk;cases hk
 have e0:(c.kind==0)=false:=by simp;omega
 have e1:(c.kind==1)=false:=by simp;omega
 have e2:(c.kind==2)=false:=by simp;omega
 have e3:(c.kind==3)=false:=by simp;omega
 have e6:(c.kind==6)=false:=by simp;omega
 have e5:(c.kind==5)=false:=by simp;omega
 have e8:(c.kind==8)=false:=by simp;omega
 have e9:(c.kind==9)=false:=by simp;omega
 have a4:(c.kind==10)=false:=by simp;omega
 have a5:(c.kind==11)=false:=by simp;omega
 clear h hgb cp hk a0 n2 a1 k5 n8 n9 a2;go_enter Tryz.func74,Tryz.ntmps74;go_wp2_with fail;go_ret;exact⟨rfl,HG.out.later (bel w _)⟩
end
def pO (code:Int) (o:Option (List PKey)):List PKey:=if code≠0 then[]else match o with|none=>[]|some l=>cO (lL l)
def kV (S:PSt) (c:PCall):List PKey:=pO (mK S c).2.code (dA S (mK S c).1 c)
theorem qV {code:Int} {o:Option (List PKey)} (h:¬code=0):pO code o=[]:=by unfold pO;rw[zB h]
theorem lX (code:Int):pO code none=[]:=by unfold pO;split<;>rfl
theorem oV {code:Int} {l:List PKey} (h:code=0):pO code (some l)=cO (lL l):=by unfold pO;rw[zA (by simpa using h)]
end
end Go.Proofs.YtmkapobnfigedaaGreatDoor
