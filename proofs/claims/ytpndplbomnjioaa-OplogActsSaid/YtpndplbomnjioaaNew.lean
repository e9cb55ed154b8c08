/- The walk of oplog.New. Conditions: none. -/
import Derived.Test.YtpndplbomnjioaaAdd
set_option linter.unusedVariables false
namespace Go.Proofs.Ytpndplbomnjioaa
open Go.RowKit
theorem info42 : (Try.prog.info? 42).map (fun i => (i.zero, i.size, i.bytes)) = some (some (.slice none 0 0), 1, 24) := by kernel_rfl
theorem info23 : (Try.prog.info? 23).map (fun i => (i.zero, i.size, i.bytes)) = some (some (.agg #[.int .i64 0, .int .i64 0]), 2, 16) := by kernel_rfl
def stampsTo : Nat → List Value
  | 0 => []
  | k + 1 => stampsTo k ++ [.int .i64 0, .int .i64 k]
structure NewAt (w : World) (n k : Nat) (v : Value) (wr : World) : Prop where
  bel : Below w.heap.size w wr
  hA : Blk wr w.heap.size (madeCells #[.slice none 0 0] n) 42
  hL : Blk wr (w.heap.size + 1) #[.slice (some ⟨w.heap.size, 0, none⟩) n n, v] 69
  own : wr.ownsRow 0 23 2 v k (stampsTo k)
  loc : ∀ b, v.ownBlock = some b → w.heap.size + 1 < b
set_option maxHeartbeats 1000000 in
theorem new_ok (n : Nat) (h1 : 1 ≤ n) (h8 : n ≤ 8) (w : World) :
    Calls Try.prog 20 #[.int .i64 n] w fun e w' => e = .returned (.tuple #[.pointer (some ⟨w.heap.size + 1, 0, none⟩), .int .i64 0]) ∧ ∃ v, NewAt w n n v w' := by
  obtain ⟨i0, hi, hz0, hz1, hz2⟩ := info_parts info42
  have hmk : ∀ u : World, (Instr.makeSlice 63 (.int .i64 n) (.int .i64 n)).run Try.prog u = .ok (.slice (some ⟨u.heap.size, 0, none⟩) n n) (u.alloc (.cells (madeCells #[.slice none 0 0] n) 42)) := fun u => by
    have := run_makeSlice (P := Try.prog) u 63 42 i0 _ Try.underlying63 hi hz0 .i64 .i64 n n (by omega) (Int.le_refl _) (by rw [hz1]; omega) (by rw [hz2]; omega) (by omega)
    simpa [hz1, Value.cells] using this
  go_enter Try.func20, Try.ntmps20
  go_wp2_with fail
  go_loopw [17] (fun i wr => ∃ (k : Nat) (v : Value), i = .int .i64 k ∧ k ≤ n ∧ NewAt w n k v wr) (fun i _ => 9 - (intOf i).toNat)
  case atStart =>
    refine ⟨0, .slice none 0 0, rfl, by omega, bel _ _, ?_, ?_, ⟨rfl, .inl ⟨rfl, rfl⟩⟩, by simp [Value.ownBlock]⟩
    all_goals (repeat (first | exact Blk.new_i _ _ _ _ | refine Blk.alloc ?_ _ | refine Blk.junk ?_ _))
  case round =>
    obtain ⟨k, v, rfl, hk, nb, nA, nL, nown, nloc⟩ := hrel
    have iL := nL.lt
    have iBel : Bel w wr := ⟨nb⟩
    have cL1 := nL.cell 1
    have fL1 := nL.frozen 1
    simp only [List.getElem?_toArray, List.getElem?_cons_zero, List.getElem?_cons_succ] at cL1
    obtain ⟨a0, cp0, rfl⟩ := own_form nown
    have HH := Lib.hid (And.intro nA (And.intro nL (And.intro nown (And.intro nb nloc))))
    clear nA nL nown nb nloc
    by_cases hlt : k < n
    · obtain ⟨j0, ji, jz0, jz1, jz2⟩ := info_parts info23
      go_wp2_with (at_builtin; refine wpList_append_own_at _ rfl (.tmp 24) (.tmp 27) 37 rfl 0 23 j0 _ 2 16 Try.underlying37 ji jz0 jz1 jz2 rfl (by decide) (.slice a0 k cp0) k (stampsTo k) rfl (HH.out.2.2.1.alloc _) ⟨wr.heap.size, 0, none⟩ 1 1 [.int .i64 0, .int .i64 k] rfl rfl (fun j' u hu => news_new wr [.int .i64 0, .int .i64 k] 23 wr.heap.size j' u hu) (by simp [Value.oneCell']) (by unfold maxLen; omega) (by omega) (Nat.zero_le _) ?_)
      intro v' w1 hown1 hgrow _ hloc
      have nR := own_ne_blk HH.out.2.2.1 HH.out.2.1 (by decide)
      have nRA := own_ne_blk HH.out.2.2.1 HH.out.1 (by decide)
      have iL1 : BlockLt (w.heap.size + 1) w1 := grown_lt hgrow
      have e1 := grown_cells hgrow (b := w.heap.size + 1) nR
      have e2 := grown_frozen hgrow (b := w.heap.size + 1) nR
      obtain ⟨a', cp', rfl⟩ := own_form hown1
      have HX := Lib.hid (And.intro hown1 (And.intro hgrow (And.intro hloc (And.intro nR nRA))))
      clear hown1 hgrow hloc nR nRA
      go_wp2_with fail
      go_roundw
      case rel =>
        obtain ⟨hown1, hgrow, hloc, nR, nRA⟩ := HX.out
        obtain ⟨nA, nL, nown, nb, nloc⟩ := HH.out
        have K1 : Keep (fun k' => (Value.slice a0 k cp0).ownBlock = some k') wr w1 := ((Keep.refl _ wr).alloc _).grown hgrow (fun k hk => .inl hk)
        have hA1 := K1.blk nA nRA
        have hL1 := K1.blk nL nR
        refine ⟨k + 1, _, by go_num, by omega, ?_, hA1.far (by simp) _, hL1.set_ _ _, ((Keep.refl (fun k => k = w.heap.size + 1) w1).setCell (p := ⟨_, _, _⟩) (.inl rfl) _).own hown1 (fun k hk e => own_ne_blk hown1 hL1 (by decide) (by rw [hk, e])), ?_⟩
        · exact ((((Keep.of_below nb (fun k' => (Value.slice a0 k cp0).ownBlock = some k')).trans K1 (fun _ _ h => h)).setCell (p := ⟨_, _, _⟩) (.inr (by simp)) _).below (Nat.le_refl _) (fun i hi h => by have := nloc i h; omega))
        · intro b hb
          rcases hloc with h | h
          · exact nloc b (h.symm.trans hb)
          · rw [hb] at h
            have := iL.lt
            simp at h
            omega
      case measure => simp [intOf]; omega
    · go_wp2_with fail
      refine bodyPost_ret (v := .tuple #[.pointer (some ⟨w.heap.size + 1, 0, none⟩), .int .i64 0]) (by simp [results, Try.results20, go_sem]) rfl ⟨rfl, .slice a0 k cp0, ?_⟩
      obtain rfl : k = n := by omega
      obtain ⟨nA, nL, nown, nb, nloc⟩ := HH.out
      exact ⟨nb, nA, nL, nown, nloc⟩
theorem new_bad (n : Int) (h : n < 1 ∨ 8 < n) (w : World) :
    Calls Try.prog 20 #[.int .i64 n] w fun e w' => e = .returned (.tuple #[.pointer none, .int .i64 1700]) ∧ Below w.heap.size w w' := by
  go_enter Try.func20, Try.ntmps20
  go_wp2_with fail
  all_goals refine bodyPost_ret (v := .tuple #[.pointer none, .int .i64 1700]) (by simp [results, Try.results20, go_sem]) rfl ⟨rfl, bel _ _⟩
end Go.Proofs.Ytpndplbomnjioaa
