/- Part of the proof that the named pairs of calls commute. Conditions: none. -/
import Derived.Test.YtjkenolgkkknaaaGreatDoorPp39
set_option linter.unusedVariables false
set_option linter.unusedSimpArgs false
set_option maxRecDepth 100000
set_option maxHeartbeats 8000000
namespace Go.Proofs.YtjkenolgkkknaaaGreatDoor
open Go.RowKit
def nearB (a b x y z : Int) : Bool := !(((a != 13) && ((b == 8) && (x == z))) || ((b != 13) && ((a == 8) && (y == z))))
theorem bk18g (a b x y z : Int) (P Q : ByteArray) (hP : 1 ≤ P.size) (hQ : 1 ≤ Q.size) (hPs : P.size ≤ 1000) (hQs : Q.size ≤ 1000)
 (hz : ∀ ww, Calls Tryz.prog 35 #[.string ⟨#[120]⟩] ww fun e w' => e = .returned (.int .i64 z) ∧ Below ww.heap.size ww w')
 (hx : ∀ ww, Calls Tryz.prog 35 #[.string (P.extract 1 P.size)] ww fun e w' => e = .returned (.int .i64 x) ∧ Below ww.heap.size ww w')
 (hy : ∀ ww, Calls Tryz.prog 35 #[.string (Q.extract 1 Q.size)] ww fun e w' => e = .returned (.int .i64 y) ∧ Below ww.heap.size ww w') (w : World) :
 Calls Tryz.prog 18 #[.int .i64 a, .string P, .int .i64 b, .string Q] w fun e w' => e = .returned (.bool (nearB a b x y z)) ∧ Below w.heap.size w w' := by
 obtain ⟨RES, hres⟩ : ∃ r, nearB a b x y z = r := ⟨_, rfl⟩
 rw [hres]
 have hPI : (1 : Int) ≤ P.size := by omega
 have hQI : (1 : Int) ≤ Q.size := by omega
 have arm : True := trivial
 rcases hA1 : (a != 13) with _ | _ <;> rcases hA2 : (a == 8) with _ | _ <;> rcases hB1 : (b != 13) with _ | _ <;> rcases hB2 : (b == 8) with _ | _
 all_goals (have HRES := Lib.hid (show nearB a b x y z = RES from hres); clear hres)
 all_goals (rcases hE1 : (x == z) with _ | _)
 all_goals (have HR2 := Lib.hid (show RES = nearB a b x y z from HRES.out.symm); clear HRES)
 all_goals (go_enter Tryz.func18, Tryz.ntmps18)
 all_goals (go_wp2_with (first | ((go_at_call 35; with_reducible refine aT (hz _) fun p => ?_)) | ((go_at_call 35; with_reducible refine aT (hx _) fun p => ?_)) | ((go_at_call 35; with_reducible refine aT (hy _) fun p => ?_))))
 all_goals go_ret
 all_goals (refine ⟨?_, bel w _⟩)
 all_goals (rw [HR2.out]; unfold nearB; simp only [hA1, hA2, hB1, hB2, hE1]; first | rfl | simp)
theorem pth_tail {n : Nat} (hn : n < 16) : (pth n).extract 1 (pth n).size = nmn n ∧ 1 ≤ (pth n).size ∧ (pth n).size ≤ 1000 ∧ (nmn n).size ≤ 1000000000 := by
 have h : ((List.range 16).all fun n => ((pth n).extract 1 (pth n).size).data.toList == (nmn n).data.toList && (Nat.ble 1 (pth n).size && ((pth n).size.ble 1000 && (nmn n).size.ble 1000))) = true := by kernel_rfl
 have h := List.all_eq_true.1 h n (List.mem_range.2 hn)
 simp only [Bool.and_eq_true, beq_iff_eq] at h
 exact ⟨bytes_inj h.1, Nat.le_of_ble_eq_true h.2.1, Nat.le_of_ble_eq_true h.2.2.1, by have := Nat.le_of_ble_eq_true h.2.2.2; omega⟩
theorem bk18n (a b : Int) {n m : Nat} (hn : n < 16) (hm : m < 16) (w : World) :
 Calls Tryz.prog 18 #[.int .i64 a, .string (pth n), .int .i64 b, .string (pth m)] w fun e w' => e = .returned (.bool (nearM a b n m)) ∧ Below w.heap.size w w' := by
 obtain ⟨p1, p2, p3, p4⟩ := pth_tail hn
 obtain ⟨q1, q2, q3, q4⟩ := pth_tail hm
 have := bk18g a b (bucketR (nmn n)) (bucketR (nmn m)) (bucketR ⟨#[120]⟩) (pth n) (pth m) p2 q2 p3 q3 (fun ww => bucket35 ⟨#[120]⟩ (by show (1 : Nat) ≤ _; omega) ww) (fun ww => by rw [p1]; exact bucket35 (nmn n) p4 ww) (fun ww => by rw [q1]; exact bucket35 (nmn m) q4 ww) w
 have e : nearB a b (bucketR (nmn n)) (bucketR (nmn m)) (bucketR ⟨#[120]⟩) = nearM a b n m := by
  unfold nearB nearM; generalize bucketR (nmn n) = X; generalize bucketR (nmn m) = Y; generalize bucketR ⟨#[120]⟩ = Z; by_cases h1 : a = 13 <;> by_cases h2 : b = 8 <;> by_cases h3 : b = 13 <;> by_cases h4 : a = 8 <;> by_cases h5 : X = Z <;> by_cases h6 : Y = Z <;> simp_all
 rw [e] at this
 exact this
end Go.Proofs.YtjkenolgkkknaaaGreatDoor
namespace Go.Proofs.YtjkenolgkkknaaaGreatDoor
theorem all16 {p : Nat → Bool} (h0 : p 0 = true) (h1 : p 1 = true) (h2 : p 2 = true) (h3 : p 3 = true) (h4 : p 4 = true) (h5 : p 5 = true) (h6 : p 6 = true) (h7 : p 7 = true) (h8 : p 8 = true) (h9 : p 9 = true) (h10 : p 10 = true) (h11 : p 11 = true) (h12 : p 12 = true) (h13 : p 13 = true) (h14 : p 14 = true) (h15 : p 15 = true) : (List.range 16).all p = true := by
 rw [List.all_eq_true]
 intro n hn
 have hn := List.mem_range.1 hn
 have : n = 0 ∨ n = 1 ∨ n = 2 ∨ n = 3 ∨ n = 4 ∨ n = 5 ∨ n = 6 ∨ n = 7 ∨ n = 8 ∨ n = 9 ∨ n = 10 ∨ n = 11 ∨ n = 12 ∨ n = 13 ∨ n = 14 ∨ n = 15 := by omega
 rcases this with rfl | rfl | rfl | rfl | rfl | rfl | rfl | rfl | rfl | rfl | rfl | rfl | rfl | rfl | rfl | rfl
 all_goals assumption
end Go.Proofs.YtjkenolgkkknaaaGreatDoor
