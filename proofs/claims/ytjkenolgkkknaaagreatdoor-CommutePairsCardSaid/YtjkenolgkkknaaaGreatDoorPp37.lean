/- Part of the proof that the named pairs of calls commute. Conditions: none. -/
import Derived.Test.YtjkenolgkkknaaaGreatDoorPp36
import Derived.Test.YtjkenolgkkknaaaGreatDoorPp35
set_option linter.unusedVariables false
set_option linter.unusedSimpArgs false
set_option maxRecDepth 100000
set_option maxHeartbeats 8000000
namespace Go.Proofs.YtjkenolgkkknaaaGreatDoor
open Go.RowKit
theorem dec_pth : ∀ n, n < 16 → (⟨#[47, 110]⟩ : ByteArray) ++ strOfNums (decN n) = pth n := by
 intro n hn
 have h : ((List.range 16).all fun n => ((⟨#[47, 110]⟩ : ByteArray) ++ strOfNums (decN n)).data.toList == (pth n).data.toList) = true := by kernel_rfl
 rw [List.all_eq_true] at h
 have := h n (List.mem_range.2 hn)
 simp only [beq_iff_eq] at this
 exact bytes_inj this
theorem dec_size {n : Nat} (hn : n < 16) : (strOfNums (decN n)).size ≤ 2 := by
 have h : ((List.range 16).all fun n => (strOfNums (decN n)).size.ble 2) = true := by kernel_rfl
 exact Nat.le_of_ble_eq_true (List.all_eq_true.1 h n (List.mem_range.2 hn))
def nmn (n : Nat) : ByteArray := ⟨#[110]⟩ ++ strOfNums (decN n)
theorem at14 (i : Int) (w : World) : Calls Tryz.prog 14 #[.int .i64 i] w fun e w' => e = .returned (.string (pth (i % 16).toNat)) ∧ Below w.heap.size w w' := by
 have hi : 0 ≤ i % 16 ∧ i % 16 < 16 := by omega
 obtain ⟨n, hn⟩ : ∃ n : Nat, i % 16 = n := ⟨(i % 16).toNat, by omega⟩
 have hp := dec_pth n (by omega)
 have hd := fun ww => decimal33 n (by omega) ww
 have e : (i % 16).toNat = n := by omega
 rw [e, ← hp]
 have hz : ¬ 9223372036854775807 < 2 + (strOfNums (decN n)).size := by have := dec_size (n := n) (by omega); omega
 generalize strOfNums (decN n) = s at hd hz ⊢
 clear hp e hi
 go_enter Tryz.func14, Tryz.ntmps14
 go_wp2_with (go_at_call 33; (with_reducible refine (hd _).mono ?_); rintro e w' ⟨rfl, hb⟩; obtain ⟨p, rfl⟩ := hb.rest; clear hb)
 go_ret
 exact ⟨rfl, bel _ _⟩
theorem bucket16 (i : Int) (w : World) : Calls Tryz.prog 16 #[.int .i64 i] w fun e w' => e = .returned (.int .i64 (bucketR (nmn (i % 16).toNat))) ∧ Below w.heap.size w w' := by
 have hi : 0 ≤ i % 16 ∧ i % 16 < 16 := by omega
 obtain ⟨n, hn⟩ : ∃ n : Nat, i % 16 = n := ⟨(i % 16).toNat, by omega⟩
 have hd := fun ww => decimal33 n (by omega) ww
 have hz : (nmn n).size ≤ 1000000000 := by
  have h : ((List.range 16).all fun n => (nmn n).size.ble 100) = true := by kernel_rfl
  have := Nat.le_of_ble_eq_true (List.all_eq_true.1 h n (List.mem_range.2 (by omega))); omega
 have hb := fun ww => bucket35 (nmn n) hz ww
 have e : (i % 16).toNat = n := by omega
 rw [e]
 unfold nmn at hb ⊢
 have hz2 : ¬ 9223372036854775807 < 1 + (strOfNums (decN n)).size := by have := dec_size (n := n) (by omega); omega
 generalize strOfNums (decN n) = s at hd hb hz2 ⊢
 clear e hi hz
 go_enter Tryz.func16, Tryz.ntmps16
 go_wp2_with (first | (go_at_call 33; (with_reducible refine (hd _).mono ?_); rintro e w' ⟨rfl, hb⟩; obtain ⟨p, rfl⟩ := hb.rest; clear hb) | (go_at_call 35; (with_reducible refine (hb _).mono ?_); rintro e w' ⟨rfl, hb⟩; obtain ⟨p, rfl⟩ := hb.rest; clear hb))
 go_ret
 exact ⟨rfl, bel _ _⟩
def namedM (k c : Int) (p : ByteArray) : PCall := if k = 8 then ⟨8, c, 0, 0, 0, ⟨#[47, 120]⟩, p, ⟨#[]⟩⟩ else ⟨k, c, 0, 0, 0, p, ⟨#[]⟩, ⟨#[]⟩⟩
theorem named17 (k c : Int) (p : ByteArray) (w : World) : Calls Tryz.prog 17 #[.int .i64 k, .int .i64 c, .string p] w fun e w' => e = .returned (namedM k c p).val ∧ Below w.heap.size w w' := by
 unfold namedM
 by_cases h : k = 8
 · subst h; rw [if_pos rfl]; unfold PCall.val
   go_enter Tryz.func17, Tryz.ntmps17
   go_wp2_with fail; refine bodyPost_ret (v := .agg #[.int .i64 8, .int .i64 c, .int .i64 0, .int .i64 0, .int .i64 0, .string ⟨#[47, 120]⟩, .string p, .string ⟨#[]⟩]) (by unfold results; simp only [Tryz.results17]; go_simp) rfl ⟨rfl, bel w _⟩
 · rw [if_neg h]; unfold PCall.val
   go_enter Tryz.func17, Tryz.ntmps17
   go_wp2_with fail; refine bodyPost_ret (v := .agg #[.int .i64 k, .int .i64 c, .int .i64 0, .int .i64 0, .int .i64 0, .string p, .string ⟨#[]⟩, .string ⟨#[]⟩]) (by unfold results; simp only [Tryz.results17]; go_simp) rfl ⟨rfl, bel w _⟩
end Go.Proofs.YtjkenolgkkknaaaGreatDoor
