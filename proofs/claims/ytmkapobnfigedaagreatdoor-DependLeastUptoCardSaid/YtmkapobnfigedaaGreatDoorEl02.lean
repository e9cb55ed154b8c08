/- name.Hash and name.Bucket of whatever string. Conditions: none. -/
import Derived.Test.YtmkapobnfigedaaGreatDoorEl01
set_option linter.unusedVariables false
namespace Go.Proofs.YtmkapobnfigedaaGreatDoor
open Go.RowKit
theorem width_pos (s : ByteArray) (pos : Nat) (h : pos < s.size) : 1 ≤ (Utf8.decode s pos).2 := by
 by_cases ha : (s[pos]'h).toNat < 128
 · rw [decode_ascii s pos h ha]; exact Nat.le_refl _
 · exact (decode_high s pos h (by omega)).2
def hashFrom (s : ByteArray) : Nat → Nat → Int → Int
 | 0, _, h => h
 | b + 1, pos, h => if pos < s.size then hashFrom s b (pos + (Utf8.decode s pos).2) ((31 * h + (Utf8.decode s pos).1) % 4294967296) else h
theorem hashFrom_end (s : ByteArray) (b pos : Nat) (h : Int) (hp : ¬ pos < s.size) : hashFrom s b pos h = h := by
 cases b with
 | zero => rfl
 | succ b => simp [hashFrom, hp]
theorem hashFrom_lt (s : ByteArray) : ∀ b pos h, 0 ≤ h ∧ h < 4294967296 → 0 ≤ hashFrom s b pos h ∧ hashFrom s b pos h < 4294967296
 | 0, _, h, hh => hh
 | b + 1, pos, h, hh => by
   unfold hashFrom
   split
   · exact hashFrom_lt s b _ _ (by omega)
   · exact hh
def hashM (s : ByteArray) : Int := hashFrom s s.size 0 7
theorem hash166 (s : ByteArray) (w : World) :
 Calls Tryz.prog 169 #[.string s] w fun e w' => e = .returned (.int .i64 (hashM s)) ∧ Below w.heap.size w w' := by
 have hb := hashFrom_lt s s.size 0 7 (by omega)
 go_enter Tryz.func169, Tryz.ntmps169
 go_wp2_with fail
 go_loopw [3] (fun n w' => ∃ (pos b : Nat) (acc : Int), w' = w.iter s pos ∧ n = .int .u32 acc ∧ hashFrom s b pos acc = hashM s ∧ s.size ≤ pos + b) (fun _ w' => s.size - w'.iterPos w.heap.size)
 case atStart => exact ⟨0, s.size, 7, rfl, rfl, rfl, by omega⟩
 case round =>
  obtain ⟨pos, b, acc, rfl, rfl, hc, hbp⟩ := hrel; by_cases hp : pos < s.size
  · have hnx : ∀ ty, (Instr.next (.pointer (some ⟨w.heap.size, 0, none⟩)) true ty).run Tryz.prog (w.iter s pos) = _ := fun ty => run_next_any w s pos ty hp
    go_wp2_with fail; have hwd := width_pos s pos hp
    go_roundw
    case rel =>
     cases b with
     | zero => omega
     | succ b =>
       refine ⟨pos + (Utf8.decode s pos).2, b, _, rfl, rfl, ?_, by omega⟩; rw [← hc]; simp [hashFrom, hp]
    case measure =>
     simp; omega
  · have hnx : ∀ ty, (Instr.next (.pointer (some ⟨w.heap.size, 0, none⟩)) true ty).run Tryz.prog (w.iter s pos) = _ := fun ty => run_next_end w s pos ty hp
    rw [hashFrom_end s b pos acc hp] at hc; subst hc; have hw : IntKind.i64.wrap (hashM s) = hashM s := by rw [IntKind.wrap_i64]; unfold hashM; omega
    go_wp2_with fail; refine bodyPost_ret (v := .int .i64 (hashM s)) (by simp [results, Tryz.results169, go_sem]) rfl ⟨rfl, (Below.refl _ w).alloc (Nat.le_refl _) _⟩
def bucketM (s : ByteArray) : Int := hashM s % 8
theorem bucket137 (s : ByteArray) (w : World) :
 Calls Tryz.prog 133 #[.string s] w fun e w' => e = .returned (.int .i64 (bucketM s)) ∧ Below w.heap.size w w' := by
 have hb : 0 ≤ hashM s ∧ hashM s < 4294967296 := hashFrom_lt s s.size 0 7 (by omega)
 go_enter Tryz.func133, Tryz.ntmps133
 go_wp2_with (go_at_call 169; refine (hash166 _ _).mono ?_; rintro e w' ⟨rfl, hb⟩; obtain ⟨p, rfl⟩ := hb.rest; clear hb)
 refine bodyPost_ret (v := .int .i64 (bucketM s)) (by simp [results, Tryz.results133, go_sem, bucketM]) rfl ⟨rfl, bel _ _⟩
end Go.Proofs.YtmkapobnfigedaaGreatDoor
