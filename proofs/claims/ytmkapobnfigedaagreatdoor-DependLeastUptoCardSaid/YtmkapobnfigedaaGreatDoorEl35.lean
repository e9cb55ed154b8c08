/- The reference's looks at a state: At, IsOpen, Fd, given, Entry, Links. Conditions: none. -/
import Derived.Test.YtmkapobnfigedaaGreatDoorEl34
import Derived.Test.YtmkapobnfigedaaGreatDoorEl31
set_option linter.unusedVariables false
set_option linter.unusedSimpArgs false
namespace Go.Proofs.YtmkapobnfigedaaGreatDoor
open Go.RowKit
def atR (S : PSt) (n : Int) : Int := idxM (isNum n) S.ins
theorem atR_bounds (S : PSt) (n : Int) : atR S n = -1 ∨ (0 ≤ atR S n ∧ atR S n < S.ins.length) := idxM_bounds _ _
set_option maxRecDepth 100000 in
theorem at51 (S : PSt) (iv ov mv : Value) (n : Int) (w : World) (h : StRead w iv ov mv S) (hlen : S.ins.length ≤ 1000000000) :
 Calls Tryz.prog 85 #[.agg #[iv, ov, mv], .int .i64 n] w fun e w' => e = .returned (.int .i64 (atR S n)) ∧ Below w.heap.size w w' := by
 obtain ⟨ai, ni, ci, ao, no, co, am, nm, cm, rfl, rfl, rfl⟩ := h.slices
 obtain ⟨a, cap, e1, hat⟩ := h.ins_at
 cases e1
 have HA := Lib.hid hat
 clear hat h
 obtain ⟨R, hR⟩ : ∃ R, atR S n = R := ⟨_, rfl⟩
 rw [hR]
 unfold atR idxM at hR
 have HR := Lib.hid hR
 clear hR
 go_enter Tryz.func85, Tryz.ntmps85
 go_wp2_with fail
 go_loopw [5] (fun i wr => ∃ (q : Nat), i = .int .i64 q ∧ q ≤ S.ins.length ∧ idxFrom (isNum n) (S.ins.drop q) q = R ∧ Below w.heap.size w wr ∧ Blk wr w.heap.size #[.slice ai S.ins.length ci, .slice ao no co, .slice am nm cm] 26) (fun i _ => (S.ins.length - intOf i).toNat)
 case atStart => exact ⟨0, rfl, by omega, HR.out, bel _ _, Blk.new w _ 26⟩
 case round =>
  obtain ⟨q, rfl, hq, hre, hb, hblk⟩ := hrel; have iB : Bel w wr := ⟨hb⟩
  have iL := hblk.lt; have s0 := hblk.cell 0; simp at s0; have HB := Lib.hid hblk; clear hblk; by_cases hlt : q < S.ins.length
  · obtain ⟨z, hz⟩ : ∃ z, S.ins[q]? = some z := ⟨_, List.getElem?_eq_getElem hlt⟩
    obtain ⟨b, off, ev, rfl, iG0, iG, -, -, c0, -, -, -⟩ := HA.out wr hb q z hz; rw [idxFrom_drop _ S.ins q z hz] at hre; have HZ := Lib.hid hre; clear hz hre; rcases hpz : (z.num == n) with _ | _
    · go_wp2_with fail
      go_roundw
      case rel => exact ⟨q + 1, by go_num, by omega, by have := HZ.out; simpa [isNum, hpz] using this, bel _ _, by first | exact HB.out | exact HB.out.alloc _ | exact HB.out.junk _⟩
      case measure => simp [intOf]; omega
    · have hv : R = q := by have := HZ.out; simpa [isNum, hpz] using this.symm
      subst hv; go_wp2_with fail; exact bodyPost_ret (v := .int .i64 q) (by simp [results, Tryz.results85, go_sem]) rfl ⟨rfl, bel _ _⟩
  · rw [idxFrom_end _ S.ins q hlt] at hre; subst hre; go_wp2_with fail; exact bodyPost_ret (v := .int .i64 (-1)) (by simp [results, Tryz.results85, go_sem]) rfl ⟨rfl, bel _ _⟩
end Go.Proofs.YtmkapobnfigedaaGreatDoor
