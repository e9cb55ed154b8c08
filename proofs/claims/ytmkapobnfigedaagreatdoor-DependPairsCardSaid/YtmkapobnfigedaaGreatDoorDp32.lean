/- Part of the proof of a law of chapter 15. Conditions: none. -/
import Derived.Test.YtmkapobnfigedaaGreatDoorDp31
set_option linter.unusedVariables false
set_option linter.unusedSimpArgs false
set_option maxRecDepth 100000
set_option maxHeartbeats 8000000
namespace Go.Proofs.YtmkapobnfigedaaGreatDoor
open Go.RowKit
theorem all_dropP {α : Type} (p : α → Bool) (l : List α) (q : Nat) {x : α} (h : l[q]? = some x) : (l.drop q).all p = (p x && (l.drop (q + 1)).all p) := by
 obtain ⟨hl, rfl⟩ := gI.1 h
 rw [List.drop_eq_getElem_cons hl, List.all_cons]
theorem joinP_drop (l : List ByteArray) (q : Nat) {x : ByteArray} (h : l[q]? = some x) (s : ByteArray) : joinP (l.drop q) s = joinP (l.drop (q + 1)) (s ++ ((⟨#[47]⟩ : ByteArray) ++ x)) := by
 obtain ⟨hl, rfl⟩ := gI.1 h
 rw [List.drop_eq_getElem_cons hl]
 rfl
theorem joinP_end (l : List ByteArray) (q : Nat) (h : ¬ q < l.length) (s : ByteArray) : joinP (l.drop q) s = s := by
 rw [List.drop_eq_nil_of_le (by omega)]
 rfl
theorem print154 (ns : List ByteArray) (v : Value) (w : World) (h : RowAt w 1 v (ns.map fun n => [.string n])) (hlen : ns.length ≤ 1000000) :
 Calls Tryz.prog 154 #[v] w fun e w' => e = .returned (.tuple #[.string (printM ns).1, .int .i64 (printM ns).2]) ∧ Below w.heap.size w w' := by
 obtain ⟨a, cap, rfl, hat⟩ := h.at_
 rw [lM]
 have HA := Lib.hid hat
 obtain ⟨R, hR⟩ : ∃ R, printM ns = R := ⟨_, rfl⟩
 have HR := Lib.hid hR
 rw [hR]
 clear hat h hR
 have hmay := fun n ww => may148 n ww
 go_enter Tryz.func154, Tryz.ntmps154
 go_wp2_with fail
 go_loopw [11] (fun vi wr => ∃ q : Nat, vi = .int .i64 q ∧ q ≤ ns.length ∧ ns.all nameB = (ns.drop q).all nameB ∧ Below w.heap.size w wr) (fun vi _ => (ns.length - intOf vi).toNat)
 case atStart => exact ⟨0, rfl, by omega, by simp, bel _ _⟩
 case round =>
  obtain ⟨q, rfl, hq, hre, hbr⟩ := hrel; have iB : Bel w wr := ⟨hbr⟩
  by_cases hlt : q < ns.length
  · obtain ⟨x, hx⟩ : ∃ x, ns[q]? = some x := ⟨_, gE hlt⟩
    obtain ⟨be, offe, rfl, iE0, iE, hce⟩ := HA.out wr hbr q [.string x] (by rw [gM, hx]; rfl); have e0 := hce 0 _ rfl; rw [Nat.add_zero, Nat.mul_one] at e0; rw [all_dropP _ _ _ hx] at hre; rcases hm : nameB x with _ | _
    · have hRb : R = (⟨#[]⟩, 1100) := by
       rw [← HR.out]; unfold printM; rw [hre, hm, Bool.false_and, if_neg (by decide)]
      subst hRb; have h1 := hmay x; rw [hm] at h1; clear hre hx hce hm; go_wp2_with (go_at_call 132; refine aT (h1 _) fun p => ?_)
      refine bodyPost_ret (v := .tuple #[.string ⟨#[]⟩, .int .i64 1100]) (by simp [results, Tryz.results154, go_sem]) rfl ⟨rfl, bel _ _⟩
    · have h1 := hmay x; rw [hm] at h1 hre; rw [Bool.true_and] at hre; have HE := Lib.hid hre; clear hre hx hce hm; go_wp2_with (go_at_call 132; refine aT (h1 _) fun p => ?_)
      go_roundw
      case rel => exact ⟨q + 1, by go_num, by omega, HE.out, bel _ _⟩
      case measure => simp [intOf]; omega
  · rw [List.drop_eq_nil_of_le (by omega)] at hre; have HE := Lib.hid hre; clear hre; by_cases h4 : 4 < ns.length
    · have hRb : R = (⟨#[]⟩, 1102) := by
       rw [← HR.out]; unfold printM; rw [HE.out, List.all_nil, if_pos rfl, if_pos h4]
      subst hRb; have h4I : (4 : Int) < ns.length := by omega
      go_wp2_with fail; refine bodyPost_ret (v := .tuple #[.string ⟨#[]⟩, .int .i64 1102]) (by simp [results, Tryz.results154, go_sem]) rfl ⟨rfl, bel _ _⟩
    have h4I : ¬ (4 : Int) < ns.length := by omega
    have hRj : R = if 64 < (joinP ns ⟨#[]⟩).size then (⟨#[]⟩, 1101) else if (joinP ns ⟨#[]⟩).size = 0 then (⟨#[47]⟩, 0) else (joinP ns ⟨#[]⟩, 0) := by
     rw [← HR.out]; unfold printM; rw [HE.out, List.all_nil, if_pos rfl, if_neg h4]
    have HJ := Lib.hid hRj; clear hRj; go_wp2_with fail
    go_loopw [4, 24] (fun vs vi wr => ∃ (q : Nat) (s : ByteArray), vi = .int .i64 q ∧ vs = .string s ∧ q ≤ ns.length ∧ s.size ≤ 13 * q ∧ joinP ns ⟨#[]⟩ = joinP (ns.drop q) s ∧ Below w.heap.size w wr) (fun _ vi _ => (ns.length - intOf vi).toNat)
    case atStart => exact ⟨0, ⟨#[]⟩, rfl, rfl, by omega, by decide, by simp, bel _ _⟩
    case round =>
     obtain ⟨q, s, rfl, rfl, hq, hsz, hre, hbr⟩ := hrel; have iB : Bel w wr := ⟨hbr⟩
     by_cases hlt : q < ns.length
     · obtain ⟨x, hx⟩ : ∃ x, ns[q]? = some x := ⟨_, gE hlt⟩
       obtain ⟨be, offe, rfl, iE0, iE, hce⟩ := HA.out wr hbr q [.string x] (by rw [gM, hx]; rfl); have e0 := hce 0 _ rfl; rw [Nat.add_zero, Nat.mul_one] at e0; rw [joinP_drop _ _ hx] at hre; have hxs : x.size ≤ 12 := name_small (List.all_eq_true.1 (HE.out.trans rfl) x (mG hx)); have n1 : ¬ 9223372036854775807 < 1 + x.size := by omega
       have n2 : ¬ 9223372036854775807 < s.size + (1 + x.size) := by omega
       have HE2 := Lib.hid hre; clear hre hx hce; go_wp2_with fail
       go_roundw
       case rel => exact ⟨q + 1, _, by go_num, rfl, by omega, by rw [ByteArray.size_append, ByteArray.size_append]; show s.size + (1 + x.size) ≤ _; omega, HE2.out, bel _ _⟩
       case measure => simp [intOf]; omega
     · rw [joinP_end _ _ hlt] at hre; rw [hre] at HJ; clear hre; by_cases h64 : 64 < s.size
       · have hRb : R = (⟨#[]⟩, 1101) := by rw [HJ.out, if_pos h64]
         subst hRb; have i64 : (64 : Int) < s.size := by omega
         go_wp2_with fail; refine bodyPost_ret (v := .tuple #[.string ⟨#[]⟩, .int .i64 1101]) (by simp [results, Tryz.results154, go_sem]) rfl ⟨rfl, bel _ _⟩
       have i64 : ¬ (64 : Int) < s.size := by omega
       by_cases h0 : s.size = 0
       · have hRb : R = (⟨#[47]⟩, 0) := by rw [HJ.out, if_neg h64, if_pos h0]
         subst hRb; have i0 : s.toList.isEmpty = true := by
          rw [ByteArray.toList_eq, List.isEmpty_iff]; exact List.eq_nil_of_length_eq_zero h0
         clear h0; go_wp2_with fail; refine bodyPost_ret (v := .tuple #[.string ⟨#[47]⟩, .int .i64 0]) (by simp [results, Tryz.results154, go_sem]) rfl ⟨rfl, bel _ _⟩
       · have hRb : R = (s, 0) := by rw [HJ.out, if_neg h64, if_neg h0]
         subst hRb; have i0 : s.toList.isEmpty = false := by
          rw [ByteArray.toList_eq, Bool.eq_false_iff]; intro h; rw [List.isEmpty_iff] at h; apply h0; show s.data.toList.length = 0; rw [h]; rfl
         clear h0; go_wp2_with fail; refine bodyPost_ret (v := .tuple #[.string s, .int .i64 0]) (by simp [results, Tryz.results154, go_sem]) rfl ⟨rfl, bel _ _⟩
end Go.Proofs.YtmkapobnfigedaaGreatDoor
