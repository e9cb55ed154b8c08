/- Both logs merge alike, and what is answered may be spoilt. Conditions: none. -/
import Derived.Test.YtpndplbomnjioaaCore
import Derived.Test.YtpndplbomnjioaaRefMerge
set_option linter.unusedVariables false
namespace Go.Proofs.Ytpndplbomnjioaa
open Go.RowKit
theorem own_below {w w' : World} {v : Value} {n : Nat} {xs : List Value} (h : w.ownsRow 0 45 10 v n xs) (hb : Below w.heap.size w w') : w'.ownsRow 0 45 10 v n xs := (Keep.of_below hb (fun _ => False)).own h (fun _ _ e => e)
theorem RLog.below' {B B2 : Nat} {ex : List Nat} {w w' : World} {L n : Nat} {rs : Nat → List Rec} {lc : Nat → Int} (h : RLog B ex w L n rs lc) (hb : Below B2 w w') (hB : B2 = w.heap.size) : RLog B ex w' L n rs lc := by subst hB; exact h.below hb
set_option maxHeartbeats 2000000 in
theorem merged_ok {B B2 : Nat} {ex ex2 : List Nat} {w : World} {L L2 n : Nat} {rs : Nat → List Rec} {lc lc2 : Nat → Int} (hL : RLog B ex w L n rs lc) (hR : RRef B2 ex2 w L2 n rs lc2) (ok : RowsOk rs n) (hms : ∀ j, j < n → (rs j).length ≤ 256) (hlen : (pickOf rs (mergeAll rs n)).length ≤ 1000000) :
    Calls Try.prog 29 #[.pointer (some ⟨L, 0, none⟩), .pointer (some ⟨L2, 0, none⟩)] w fun e w' => e = .returned (.bool true) ∧ Below w.heap.size w w' := by
  generalize hM : pickOf rs (mergeAll rs n) = M at hlen
  have hmg : ∀ w', RLog B ex w' L n rs lc → Calls Try.prog 22 #[.pointer (some ⟨L, 0, none⟩)] w' fun e w'' => ∃ v, e = .returned v ∧ Below w'.heap.size w' w'' ∧ w''.ownsRow 0 45 10 v M.length (recs M) ∧ ∀ b, v.ownBlock = some b → w'.heap.size < b := fun w' h => by rw [← hM]; exact h.merge hms
  have hmr : ∀ w', RRef B2 ex2 w' L2 n rs lc2 → Calls Try.prog 35 #[.pointer (some ⟨L2, 0, none⟩)] w' fun e w'' => ∃ v, e = .returned v ∧ Below w'.heap.size w' w'' ∧ w''.ownsRow 0 45 10 v M.length (recs M) ∧ ∀ b, v.ownBlock = some b → w'.heap.size ≤ b := fun w' h => by rw [← hM]; exact h.merge ok hms
  go_enter Try.func29, Try.ntmps29
  go_upto_region 2 with (go_at_call 22; refine (hmg _ hL).mono ?_; rintro e w1 ⟨v1, rfl, hb1, hv1, hl1⟩)
  have hR1 := hR.below hb1
  obtain ⟨a1, cp1, rfl⟩ := own_form hv1
  go_upto_region 4 with (first
    | (go_at_call 35; refine (hmr _ hR1).mono ?_; rintro e w2 ⟨v2, rfl, hb2, hv2, hl2⟩; obtain ⟨a2, cp2, rfl⟩ := own_form hv2; have hv1b := own_below hv1 hb2)
    | (go_at_call 25; refine (same25 _ _ _ _ _ _ _ hlen hv1b hv2).mono ?_; rintro e w' ⟨rfl, hb⟩; obtain ⟨p, rfl⟩ := hb.rest; clear hb))
  have hv1c := own_below hv1b (below_of_junk w2 p)
  have hbw2 : Below w.heap.size w w2 := hb1.trans (hb2.mono hb1.size)
  have hbw2p : Below w.heap.size w (w2.junk p) := below_junk _ _ _ _ hbw2 hbw2.size
  go_upto_region 5 with (go_at_call 31; refine (spoil31 _ _ _ _ M hlen hv1c).mono ?_; rintro e w3 ⟨rfl, hk3⟩)
  have hbw3 : Below w.heap.size w w3 := hbw2p.trans (hk3.below hbw2p.size (fun i hi e => by have := hl1 i e; omega))
  have hL3 := hL.below hbw3
  have hR3 := hR.below hbw3
  go_wp2_with (first
    | (go_at_call 22; refine (hmg _ hL3).mono ?_; rintro e w4 ⟨v4, rfl, hb4, hv4, hl4⟩; obtain ⟨a4, cp4, rfl⟩ := own_form hv4; have hR4 := hR3.below hb4)
    | (go_at_call 35; refine (hmr _ hR4).mono ?_; rintro e w5 ⟨v5, rfl, hb5, hv5, hl5⟩; obtain ⟨a5, cp5, rfl⟩ := own_form hv5; have hv4b := own_below hv4 hb5)
    | (go_at_call 25; refine (same25 _ _ _ _ _ _ _ hlen hv4b hv5).mono ?_; rintro e w6 ⟨rfl, hb6⟩))
  go_ret
  exact ⟨rfl, ((hbw3.trans (hb4.mono hbw3.size)).trans (hb5.mono (by have := hb4.size; have := hbw3.size; omega))).trans (hb6.mono (by have := hb5.size; have := hb4.size; have := hbw3.size; omega))⟩
end Go.Proofs.Ytpndplbomnjioaa
