/- The walk of the statement on logs under any calls, of whatever number of cores. Conditions: none. -/
import Derived.Test.YtpndplbomnjioaaLawA
namespace Go.Proofs.Ytpndplbomnjioaa
open Go.RowKit
theorem acts_walk (cores : Int) (a : Option Addr) (len cap : Nat) (w : World) (h : IsActs w a len cap) :
    Calls Try.prog 10 #[.int .i64 cores, .slice a len cap] w fun e w' => e = .returned (.bool true) ∧ Below w.heap.size w w' := by
  by_cases hb : cores < 1 ∨ 8 < cores
  · exact acts_bad cores a len cap w hb
  · obtain ⟨n, rfl⟩ : ∃ n : Nat, cores = n := ⟨cores.toNat, by omega⟩
    exact acts_good n (by omega) (by omega) a len cap w h
end Go.Proofs.Ytpndplbomnjioaa
