/- Part of the proof that the named pairs of calls commute. Conditions: none. -/
import Derived.Test.YtjkenolgkkknaaaGreatDoorPp46
import Derived.Test.YtjkenolgkkknaaaGreatDoorPp47
import Derived.Test.YtjkenolgkkknaaaGreatDoorPp50
import Derived.Test.YtjkenolgkkknaaaGreatDoorPp49
import Derived.Test.YtjkenolgkkknaaaGreatDoorPp48
set_option linter.unusedVariables false
set_option linter.unusedSimpArgs false
set_option maxRecDepth 100000
set_option maxHeartbeats 8000000
namespace Go.Proofs.YtjkenolgkkknaaaGreatDoor
open Go.RowKit
theorem pair8g (which i k : Int) (w : World) : ∃ W n m : Nat, W < 40 ∧ n < 16 ∧ m < 16 ∧ Calls Tryz.prog 8 #[.int .i64 which, .int .i64 i, .int .i64 k] w (PairPost W n m w) := by
 have h0 : 0 ≤ IntKind.u64.wrap which := by simp [IntKind.wrap, IntKind.bits, IntKind.signed]; omega
 obtain ⟨n, hn⟩ : ∃ n : Nat, i % 16 = n := ⟨(i % 16).toNat, by omega⟩
 obtain ⟨m, hm⟩ : ∃ m : Nat, k % 16 = m := ⟨(k % 16).toNat, by omega⟩
 obtain ⟨W, hW⟩ : ∃ W : Nat, (IntKind.u64.wrap which).tmod 40 = W := ⟨((IntKind.u64.wrap which) % 40).toNat, by rw [Int.tmod_eq_emod_of_nonneg h0]; omega⟩
 have hW40 : W < 40 := by rw [Int.tmod_eq_emod_of_nonneg h0] at hW; omega
 refine ⟨W, n, m, hW40, by omega, by omega, pair_calls which i k w (PairPost W n m w) ?_⟩
 intro wr g11 gS a1 a2 a3 a4 a5 a6 a7 a8 a9 act K hact hK hgl hP
 rw [hact]
 have e16 : ∀ (n : Nat), n < 16 → ∀ ww, Calls Tryz.prog 16 #[.int .i64 n] ww fun e w' => e = .returned (.int .i64 (bucketR (nmn n))) ∧ Below ww.heap.size ww w' := fun n hn ww => by
  have := bucket16 n ww; rw [show ((n : Int) % 16).toNat = n by omega] at this; exact this
 suffices h : PTail W which i k n m from h w wr g11 a1 a2 a3 a4 a5 a6 a7 a8 a9 _ K (e16 n (by omega)) (e16 m (by omega)) (by omega) (by omega) (by have := hP.b8.lt.lt; omega) (Lib.hid (hP.pz hgl)) hK
 by_cases h32 : W < 32
 · by_cases hnm : n = m
   · exact pair_eq which i k n m hn hm W h32 hnm hW
   · by_cases h16 : W < 16
     · exact pair_names which i k n m hn hm W h16 hnm hW
     · exact pair_dirs which i k n m hn hm W h32 (by omega) hnm hW
 · have : W = 32 ∨ W = 33 ∨ W = 34 ∨ W = 35 ∨ W = 36 ∨ W = 37 ∨ W = 38 ∨ W = 39 := by omega
   rcases this with rfl | rfl | rfl | rfl | rfl | rfl | rfl | rfl
   · exact pair_32 which i k n m hn hm hW
   · by_cases hpq : n % 12 = m % 12
     · exact pair_28a which i k n m hn hm hpq hW
     · exact pair_33 which i k n m hn hm hpq hW
   · by_cases hpq : n % 12 = m % 12
     · exact pair_28b which i k n m hn hm hpq hW
     · exact pair_34 which i k n m hn hm hpq hW
   · exact pair_35 which i k n m hn hm hW
   · exact pair_36 which i k n m hn hm hW
   · exact pair_37 which i k n m hn hm hW
   · exact pair_38 which i k n m hn hm hW
   · exact pair_39 which i k n m hn hm hW
end Go.Proofs.YtjkenolgkkknaaaGreatDoor
