/- Part of the proof of a law of chapter 15. Conditions: none. -/
import Derived.Test.YtmkapobnfigedaaGreatDoorDl48
set_option linter.unusedVariables false
set_option linter.unusedSimpArgs false
set_option maxRecDepth 100000
set_option maxHeartbeats 8000000
namespace Go.Proofs.YtmkapobnfigedaaGreatDoor
open Go.RowKit
def aMJ (code:Int) (o:Option (List PKey)):List PKey:=if code=0 then(match o with|none=>[]|some l=>cO (isK l))else[]
theorem aMK (code:Int) (o:Option (List PKey)):pO code o=aMJ code o:=by
 unfold aMJ;by_cases h:code=0
 .rw[zB h];rcases o with _|l
  .rw[lX]
  rw[oV h,aMU]
 rw[zA h,qV h]
def aML (S:PSt) (c:PCall):List PKey:=aMJ (mK S c).2.code (dA S (mK S c).1 c)
theorem aBQ (S:PSt) (c:PCall):kV S c=aML S c:=aMK _ _
def aMM:PSt->List PCall->List (List PKey)
 |_,[]=>[]
 |S,c::r=>aML S c::aMM (mK S c).1 r
theorem aAA:∀(cs:List PCall) (S:PSt),mE S cs=aMM S cs
 |[],_=>rfl
 | c::r,S=>by unfold mE aMM;rw[aBQ,aAA r]
def tA (S:PSt) (cs:List PCall) (want:List Int):List Bool:=if dB S=true then qN (dD (aMM S cs)) cs.length (mL cs.length want (List.replicate cs.length false))else mL cs.length want (List.replicate cs.length false)
theorem aBR (S:PSt) (cs:List PCall) (want:List Int):mH S cs want=tA S cs want:=by unfold mH tA;rw[aAA]
def aAB (S:PSt) (cs:List PCall) (inn:List Bool):Bool:=decide (inn.length=cs.length)&&dB S&&aGO (dD (aMM S cs)) inn
theorem aEC (S:PSt) (cs:List PCall) (inn:List Bool):pJ S cs inn=aAB S cs inn:=by unfold pJ aAB;rw[aAA]
def cA:PCall:=⟨0,0,0,0,0,⟨#[47,97]⟩,⟨#[]⟩,⟨#[]⟩⟩
def cB:PCall:=⟨2,1,0,0,0,⟨#[47,97]⟩,⟨#[]⟩,⟨#[]⟩⟩
def ksA:List PKey:=aML (jA 2) cA
theorem aPY:dB (jA 2)=true:=by kernel_rfl
theorem aAC:ksA.length=4:=by kernel_rfl
theorem aQY:ksA[0]? =some ⟨-1,⟨#[]⟩⟩:=by kernel_rfl
theorem aQZ:ksA[3]? =some ⟨2,⟨#[]⟩⟩:=by kernel_rfl
theorem aRU:fX ksA ksA=true:=by kernel_rfl
theorem aRV:fX ksA [⟨1,⟨#[46]⟩⟩]=false:=by kernel_rfl
theorem aRW:tA (jA 2) [cA,cB] [1]=[true,true]:=by kernel_rfl
theorem aRX:aAB (jA 2) [cA] [false]=true:=by kernel_rfl
theorem aED:(jA 2).wf:=by
 refine⟨by decide,by decide,by decide,?_,?_,?_⟩
 .intro x hx;have:x=⟨1,true,[],⟨#[]⟩⟩:=by simpa[jA]using hx
  subst this;exact⟨by unfold I64;decide,by simp,by simp⟩
 .intro d hd;simp[jA]at hd
 intro m hm;have:m=0:=by simpa[jA]using hm
 subst this;unfold I64;decide
end Go.Proofs.YtmkapobnfigedaaGreatDoor
