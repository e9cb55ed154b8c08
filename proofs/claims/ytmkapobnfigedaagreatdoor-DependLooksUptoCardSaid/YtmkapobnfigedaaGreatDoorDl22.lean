/- Part of the proof of a law of chapter 15. Conditions: none. -/
import Derived.Test.YtmkapobnfigedaaGreatDoorDl20
set_option linter.unusedVariables false
set_option linter.unusedSimpArgs false
set_option maxRecDepth 100000
set_option maxHeartbeats 8000000
namespace Go.Proofs.YtmkapobnfigedaaGreatDoor
open Go.RowKit
def cS {α:Type} (p:α->Bool) (x:α):List α->Bool->List α->List α
 |[],d,zs=>if d=true then zs else zs++[x]
 |e::r,d,zs=>if d=true then cS p x r true (zs++[e])else if p e=true then cS p x r true (zs++[x]++[e])else cS p x r false (zs++[e])
theorem rD {α:Type} (p:α->Bool) (x:α) (es:List α) (q:Nat) (e:α) (d:Bool) (zs:List α) (h:es[q]? =some e):
 cS p x (es.drop q) d zs=if d=true then cS p x (es.drop (q+1)) true (zs++[e])else if p e=true then cS p x (es.drop (q+1)) true (zs++[x]++[e])else cS p x (es.drop (q+1)) false (zs++[e]):=by
 obtain⟨hl,rfl⟩:=gI.1 h;rw[yH hl,cS]
theorem uE {α:Type} (p:α->Bool) (x:α) (es:List α) (q:Nat) (d:Bool) (zs:List α) (h:¬q<es.length):cS p x (es.drop q) d zs=if d=true then zs else zs++[x]:=by rw[zS (by omega),cS]
def dO (b:Int) (but:ByteArray):List PEnt->Int->Int
 |[],a=>a
 |e::r,a=>dO b but r (if (!(e.name.toList==but.toList)&&aV e.name==b)=true then a+1 else a)
end Go.Proofs.YtmkapobnfigedaaGreatDoor
