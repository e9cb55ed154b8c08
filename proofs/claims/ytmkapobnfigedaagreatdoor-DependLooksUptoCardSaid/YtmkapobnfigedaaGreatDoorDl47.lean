/- Part of the proof of a law of chapter 15. Conditions: none. -/
import Derived.Test.YtmkapobnfigedaaGreatDoorDl46
set_option linter.unusedVariables false
set_option linter.unusedSimpArgs false
set_option maxRecDepth 100000
set_option maxHeartbeats 8000000
namespace Go.Proofs.YtmkapobnfigedaaGreatDoor
open Go.RowKit
section
theorem tK:∀(r:List PKey) (p z:PKey),z∈r->z=p\/z∈lR p r
 | y ::r,p,z,h=>by
   unfold lR;rcases List.mem_cons.1 h with rfl|h
   .split
    .rename_i e
     exact .inl e
    exact .inr (by first|exact zQ|simp)
   rcases tK r y z h with rfl|h
   .split
    .rename_i e
     exact .inl e
    exact .inr (by first|exact zQ|simp)
   split
   .rename_i e
    subst e;exact .inr (by first|exact h|simpa using h)
   exact .inr (by first|exact zL _ h|simp[h])
theorem aEO {l:List PKey} {z:PKey} (h:z∈l):z∈cO l:=by
 cases l with
 |nil=>cases h
 | cons x r=>
   unfold cO;rcases List.mem_cons.1 h with rfl|h
   .exact zQ
   rcases tK r x z h with rfl|h
   .exact zQ
   exact zL _ h
variable {S:PSt} {c:PCall}
theorem aJF (h:(mK S c).2.code≠0):kX S c=[]:=by
 unfold kX kV;split
 .exact qV h
 rfl
theorem aEP (h:c.kind=4\/c.kind=7\/c.kind=12\/c.kind=13\/c.kind=14\/c.kind=15\/c.kind=16):kX S c=[]:=by
 unfold kX kV;split
 .have:dA S (mK S c).1 c=none:=by
   unfold dA;rw[zA (by omega),zA (by omega),zA (by omega),zA (by omega),zA (by omega),zA (by omega),zA (by omega)];rfl
  rw[this];exact lX _
 rfl
theorem aCA (h:c.kind=5) (h2:c.data.size=0):kX S c=[]:=by
 unfold kX kV;split
 .have:dA S (mK S c).1 c=none:=by
   unfold dA;rw[zA (by omega),zA (by omega),zA (by omega),zB h,zB h2];rfl
  rw[this];exact lX _
 rfl
theorem aJG (h0:(mK S c).2.code=0) (h:¬(c.kind=4\/c.kind=7\/c.kind=12\/c.kind=13\/c.kind=14\/c.kind=15\/c.kind=16)) (h2:¬(c.kind=5/\c.data.size=0)):dB S=true/\0<=c.core/\c.core<8/\(⟨-1-c.core,⟨#[]⟩⟩:PKey)∈kX S c:=by
 obtain⟨hm,-⟩:=aLZ h0;obtain⟨hmay,hc0,hc1⟩:=mN hm;unfold fI at hm;simp only[zE,zI]at hm;obtain⟨⟨⟨⟨k0,k1⟩,_⟩,c1⟩,_⟩:=hm;have h8:S.made.length<=8:=by
  have h:=hmay;unfold dB at h;split at h
  .rename_i h1
   simp only[zE]at h1;have h2:=h1.1.1;unfold cZ at h2;simp only[zE,yL,yU,yV]at h2;omega
  cases h
 refine⟨hmay,hc0,by omega,?_⟩;have hg:∃l,dA S (mK S c).1 c=some (l++[⟨-1-c.core,⟨#[]⟩⟩]):=by
  have key:∀(o:Option (List PKey)),(∃l,o=some l)->∃l,o.map (λl=>l++[(⟨-1-c.core,⟨#[]⟩⟩:PKey)])=some (l++[⟨-1-c.core,⟨#[]⟩⟩]):=by rintro o ⟨l,rfl⟩;exact⟨l,rfl⟩
  unfold dA;apply key;by_cases a1:c.kind=0\/c.kind=1
  .rw[zB a1];exact⟨_,rfl⟩
  rw[zA a1];by_cases a2:c.kind=2
  .rw[zB a2];exact⟨_,rfl⟩
  rw[zA a2];by_cases a3:c.kind=3\/c.kind=6
  .rw[zB a3];exact⟨_,rfl⟩
  rw[zA a3];by_cases a5:c.kind=5
  .rw[zB a5,zA (λe=>h2 ⟨a5,e⟩)];exact⟨_,rfl⟩
  rw[zA a5];by_cases a8:c.kind=8
  .rw[zB a8];exact⟨_,rfl⟩
  rw[zA a8];by_cases a9:c.kind=9\/c.kind=10
  .rw[zB a9];exact⟨_,rfl⟩
  rw[zA a9,zB (by omega)];exact⟨_,rfl⟩
 obtain⟨l,hl⟩:=hg;unfold kX kV;rw[zB hmay,hl,oV h0];refine aEO ?_;unfold lL;rw[List.mem_mergeSort];exact List.mem_append_right _ zQ
theorem aJH {ks:List PKey} {n:Int} (h:(⟨n,⟨#[]⟩⟩:PKey)∈ks):fX ks ks=true:=by unfold fX;rw[List.any_eq_true];refine⟨_,h,?_⟩;rw[List.any_eq_true];refine⟨_,h,?_⟩;unfold jM;simp
end
end Go.Proofs.YtmkapobnfigedaaGreatDoor
