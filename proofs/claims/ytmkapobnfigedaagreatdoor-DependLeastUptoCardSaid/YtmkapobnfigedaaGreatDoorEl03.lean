/- name.Check and name.May of whatever string. Conditions: none. -/
import Derived.Test.YtmkapobnfigedaaGreatDoorEl02
set_option linter.unusedVariables false
namespace Go.Proofs.YtmkapobnfigedaaGreatDoor
open Go.RowKit
def prefixB (s p : ByteArray) : Bool := decide (p.size ≤ s.size) && ((s.extract 0 p.size).toList == p.toList)
theorem prefix191 (s p : ByteArray) (w : World) :
 Calls Tryz.prog 210 #[.string s, .string p] w fun e w' => e = .returned (.bool (prefixB s p)) ∧ w' = w := by
 unfold prefixB
 by_cases h : p.size ≤ s.size
 · have h2 : (p.size : Int) ≤ s.size := by omega
   have h3 : decide (p.size ≤ s.size) = true := by simp [h]
   rw [h3, Bool.true_and]
   go_enter Tryz.func210, Tryz.ntmps210
   go_wp2_with fail; go_ret; exact ⟨rfl, rfl⟩
 · have h2 : ¬ (p.size : Int) ≤ s.size := by omega
   have h3 : decide (p.size ≤ s.size) = false := by simp [h]
   rw [h3, Bool.false_and]
   go_enter Tryz.func210, Tryz.ntmps210
   go_wp2_with fail; go_ret; exact ⟨rfl, rfl⟩
theorem prefix180 (s p : ByteArray) (w : World) :
 Calls Tryz.prog 197 #[.string s, .string p] w fun e w' => e = .returned (.bool (prefixB s p)) ∧ w' = w := by
 go_enter Tryz.func197, Tryz.ntmps197
 go_wp2_with (go_at_call 210; refine (prefix191 _ _ _).mono ?_; rintro e w' ⟨rfl, rfl⟩)
 go_ret
 exact ⟨rfl, rfl⟩
def badRune (s : ByteArray) (pos : Nat) (r : Nat) : Bool := ((r : Int) == 47) || decide ((r : Int) < 32) || ((r : Int) == 127) || (((Utf8.encode (r : Int)).toList == [239, 191, 189]) && !prefixB (s.extract pos s.size) ⟨#[239, 191, 189]⟩)
def checkFrom (s : ByteArray) : Nat → Nat → Bool
 | 0, _ => true
 | b + 1, pos => if pos < s.size then !badRune s pos (Utf8.decode s pos).1 && checkFrom s b (pos + (Utf8.decode s pos).2) else true
theorem checkFrom_end (s : ByteArray) (b pos : Nat) (hp : ¬ pos < s.size) : checkFrom s b pos = true := by
 cases b with
 | zero => rfl
 | succ b => simp [checkFrom, hp]
def checkM (s : ByteArray) : Int := if 12 < s.size then 801 else if (s.toList.isEmpty || s.toList == [46] || s.toList == [46, 46]) = true then 800 else if checkFrom s s.size 0 = true then 0 else 800
set_option maxRecDepth 100000 in
set_option maxHeartbeats 1000000 in
theorem check165 (s : ByteArray) (w : World) :
 Calls Tryz.prog 168 #[.string s] w fun e w' => e = .returned (.int .i64 (checkM s)) ∧ Below w.heap.size w w' := by
 by_cases hlen : 12 < s.size
 · have hlenI : (12 : Int) < s.size := by omega
   have hM : checkM s = 801 := by simp [checkM, hlen]
   rw [hM]
   go_enter Tryz.func168, Tryz.ntmps168
   go_wp2_with fail; refine bodyPost_ret (v := .int .i64 801) (by simp [results, Tryz.results168, go_sem]) rfl ⟨rfl, bel _ _⟩
 have hlenI : ¬ (12 : Int) < s.size := by omega
 rcases h1 : s.toList.isEmpty with _ | _
 rcases h2 : s.toList == [46] with _ | _
 rcases h3 : s.toList == [46, 46] with _ | _
 · have hM : checkM s = if checkFrom s s.size 0 = true then 0 else 800 := by simp only [checkM, if_neg hlen, h1, h2, h3]; rfl
   rw [hM]; obtain ⟨V, hV⟩ : ∃ V : Int, (if checkFrom s s.size 0 = true then 0 else 800) = V := ⟨_, rfl⟩
   rw [hV]; obtain ⟨T, hT⟩ : ∃ T, checkFrom s s.size 0 = T := ⟨_, rfl⟩
   rw [hT] at hV; have HV := Lib.hid hV; clear hV hM
   go_enter Tryz.func168, Tryz.ntmps168
   go_wp2_with fail
   go_loopw [] (fun w' => ∃ (pos b : Nat), w' = w.iter s pos ∧ checkFrom s b pos = T ∧ s.size ≤ pos + b) (fun w' => s.size - w'.iterPos w.heap.size)
   case atStart => exact ⟨0, s.size, rfl, hT, by omega⟩
   case round =>
    obtain ⟨pos, b, rfl, hc, hbp⟩ := hrel; by_cases hp : pos < s.size
    · have hwd := width_pos s pos hp; obtain ⟨b', rfl⟩ : ∃ b', b = b' + 1 := ⟨b - 1, by omega⟩
      have hstep : T = (!badRune s pos (Utf8.decode s pos).1 && checkFrom s b' (pos + (Utf8.decode s pos).2)) := by rw [← hc]; simp [checkFrom, hp]
      have hnx : ∀ ty, (Instr.next (.pointer (some ⟨w.heap.size, 0, none⟩)) true ty).run Tryz.prog (w.iter s pos) = _ := fun ty => run_next_any w s pos ty hp
      have hps : pos ≤ s.size := by omega
      generalize hr : (Utf8.decode s pos).1 = r at hnx hstep; have hend : ∀ ww : World, badRune s pos r = true → Below w.heap.size w ww → (Ending.returned (.int .i64 800) = Ending.returned (.int .i64 V) ∧ Below w.heap.size w ww) := fun ww hb hbw => by
       rw [hb] at hstep; simp only [Bool.not_true, Bool.false_and] at hstep; have := HV.out; rw [hstep] at this; rw [← this]; exact ⟨rfl, hbw⟩
      have hbi : Below w.heap.size w (w.iter s (pos + (Utf8.decode s pos).2)) := (Below.refl _ w).alloc (Nat.le_refl _) _; have HS := Lib.hid hstep; have HE := Lib.hid hend; clear hstep hend hc hT; rcases k1 : ((r : Int) == 47) with _ | _
      · by_cases k2 : (r : Int) < 32
        · go_wp2_with fail; refine bodyPost_ret (v := .int .i64 800) (by simp [results, Tryz.results168, go_sem]) rfl (HE.out _ (by simp [badRune, k2]) hbi)
        · rcases k3 : ((r : Int) == 127) with _ | _
          · rcases k4 : ((Utf8.encode (r : Int)).toList == [239, 191, 189]) with _ | _
            · go_wp2_with fail
              go_roundw
              case rel => exact ⟨_, b', rfl, by rw [HS.out]; simp [badRune, k1, k2, k3, k4], by omega⟩
              case measure => simp; omega
            · rcases k5 : prefixB (s.extract pos s.size) ⟨#[239, 191, 189]⟩ with _ | _
              · have hpx : ∀ ww, Calls Tryz.prog 197 #[.string (s.extract pos s.size), .string ⟨#[239, 191, 189]⟩] ww fun e w' => e = .returned (.bool false) ∧ w' = ww := fun ww => by rw [← k5]; exact prefix180 _ _ ww
                go_wp2_with (go_at_call 197; refine (hpx _).mono ?_; rintro e w' ⟨rfl, rfl⟩)
                refine bodyPost_ret (v := .int .i64 800) (by simp [results, Tryz.results168, go_sem]) rfl (HE.out _ (by simp only [badRune, k4, k5]; simp) hbi)
              · have hpx : ∀ ww, Calls Tryz.prog 197 #[.string (s.extract pos s.size), .string ⟨#[239, 191, 189]⟩] ww fun e w' => e = .returned (.bool true) ∧ w' = ww := fun ww => by rw [← k5]; exact prefix180 _ _ ww
                go_wp2_with (go_at_call 197; refine (hpx _).mono ?_; rintro e w' ⟨rfl, rfl⟩)
                go_roundw
                case rel => exact ⟨_, b', rfl, by rw [HS.out]; simp [badRune, k1, k2, k3, k4, k5], by omega⟩
                case measure => simp; omega
          · go_wp2_with fail; refine bodyPost_ret (v := .int .i64 800) (by simp [results, Tryz.results168, go_sem]) rfl (HE.out _ (by simp [badRune, k3]) hbi)
      · go_wp2_with fail; refine bodyPost_ret (v := .int .i64 800) (by simp [results, Tryz.results168, go_sem]) rfl (HE.out _ (by simp [badRune, k1]) hbi)
    · have hnx : ∀ ty, (Instr.next (.pointer (some ⟨w.heap.size, 0, none⟩)) true ty).run Tryz.prog (w.iter s pos) = _ := fun ty => run_next_end w s pos ty hp
      rw [checkFrom_end s b pos hp] at hc; have hv0 := HV.out; rw [← hc] at hv0; obtain rfl : V = 0 := hv0.symm; clear hc hv0 hT HV; go_wp2_with fail; refine bodyPost_ret (v := .int .i64 0) (by simp [results, Tryz.results168, go_sem]) rfl ⟨rfl, (Below.refl _ w).alloc (Nat.le_refl _) _⟩
 all_goals
  have hM : checkM s = 800 := by simp only [checkM, if_neg hlen]; simp [*]
  rw [hM]
  go_enter Tryz.func168, Tryz.ntmps168
  go_wp2_with fail; refine bodyPost_ret (v := .int .i64 800) (by simp [results, Tryz.results168, go_sem]) rfl ⟨rfl, bel _ _⟩
def nameB (s : ByteArray) : Bool := checkM s == 0
theorem may148 (s : ByteArray) (w : World) :
 Calls Tryz.prog 132 #[.string s] w fun e w' => e = .returned (.bool (nameB s)) ∧ Below w.heap.size w w' := by
 unfold nameB
 go_enter Tryz.func132, Tryz.ntmps132
 go_wp2_with (go_at_call 168; refine (check165 _ _).mono ?_; rintro e w' ⟨rfl, hb⟩; obtain ⟨p, rfl⟩ := hb.rest; clear hb)
 go_ret
 exact ⟨rfl, bel _ _⟩
end Go.Proofs.YtmkapobnfigedaaGreatDoor
