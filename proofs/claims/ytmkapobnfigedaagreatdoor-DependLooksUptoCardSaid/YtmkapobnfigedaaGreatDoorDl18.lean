/- Part of the proof of a law of chapter 15. Conditions: none. -/
import Derived.Test.YtmkapobnfigedaaGreatDoorDl16
set_option linter.unusedVariables false
set_option linter.unusedSimpArgs false
set_option maxRecDepth 100000
set_option maxHeartbeats 8000000
namespace Go.Proofs.YtmkapobnfigedaaGreatDoor
open Go.RowKit
section
variable {S:PSt} {c:PCall}
theorem mN (h:fI S c=true):dB S=true/\0<=c.core/\c.core<S.made.length:=by unfold fI at h;simp only[zE,zI]at h;exact⟨h.2,h.1.1.2,h.1.2⟩
theorem aRQ (R:Except Int (PSt × PRes)) {S':PSt} {r':PRes} (hwf:S.wf) (he:doM S c R=(S',r'))
 (hrun:fI S c=true->∀B ww d b,DoAt B ww d b S c PRes.zero->B<=ww.heap.size->Calls Tryz.prog 108 #[.pointer (some ⟨d,0,none⟩)] ww (bA B ww d b c R)):Did S c S' r':=by
 intro w iv ov mv h;have:=aUU iv ov mv S c R w h hwf hrun;rw[he]at this;exact this
instance (n:Int):Decidable (I64 n):=by unfold I64;exact inferInstance
end
theorem aI {F:World->Prop} {c:Code} {Q:Exit->Act->World->Prop} {a:Act} {w:World} (hF:F w) (h:∀w,F w->c.wp Tryz.prog Q a w):c.wp Tryz.prog Q a w:=h w hF
theorem StRead.slices {w:World} {iv ov mv:Value} {S:PSt} (h:StRead w iv ov mv S):∃ai ni ci ao no co am nm cm,iv=.slice ai ni ci/\ov=.slice ao no co/\mv=.slice am nm cm:=by obtain⟨a1,c1,e1,_⟩:=h.1.at_;obtain⟨a2,c2,e2,_⟩:=h.2.1.at_;obtain⟨_,_,is,h3,_⟩:=h;obtain⟨a3,c3,e3,_⟩:=h3.at_;exact⟨_,_,_,_,_,_,_,_,_,e3,e1,e2⟩
end Go.Proofs.YtmkapobnfigedaaGreatDoor
