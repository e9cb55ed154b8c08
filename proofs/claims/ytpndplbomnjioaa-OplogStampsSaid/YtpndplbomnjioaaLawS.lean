/- The walk of the statement on the stamps of a log. Conditions: none. -/
import Derived.Test.YtpndplbomnjioaaAwake
set_option linter.unusedVariables false
namespace Go.Proofs.Ytpndplbomnjioaa
open Go.RowKit
/-- What the round of OplogStamps knows. -/
structure SRound (wa : World) (X L kn i : Nat) (lc : Nat → Int) (tc : Array Value) (rs : Nat → List Rec) (wr : World) : Prop where
  log : RLog wa.heap.size [X] wr L kn rs lc
  top : Blk wr X tc 3
  size : tc.size = kn
  at_ : ∀ j, j < kn → tc[j]? = some (.int .i64 (lc j))
  lo : ∀ j, j < kn → 0 ≤ lc j ∧ lc j ≤ 1000000 + i
  few : ∀ j, j < kn → (rs j).length ≤ i
  i60 : i ≤ 60
  bel : Below wa.heap.size wa wr
  xge : wa.heap.size ≤ X
set_option maxRecDepth 100000 in
set_option maxHeartbeats 2000000 in
theorem ostamps_walk (a0 : Option Addr) (len0 cap0 : Nat) (z0 : List Int) (cores : Int) (w : World) (w0 : IsRow .i64 w a0 len0 cap0 z0) :
    Calls Try.prog 7 #[.slice a0 len0 cap0, .int .i64 cores] w fun e w' => e = .returned (.bool true) ∧ Below w.heap.size w w' := by
  obtain ⟨i0, hi, hz0, hz1, hz2⟩ := info_parts info3
  obtain ⟨kn, hk, hk1, hk8⟩ : ∃ kn : Nat, 1 + cores % 8 = (kn : Int) ∧ 1 ≤ kn ∧ kn ≤ 8 := ⟨(1 + cores % 8).toNat, by omega, by omega, by omega⟩
  have hmk : ∀ u : World, (Instr.makeSlice 29 (.int .i64 kn) (.int .i64 kn)).run Try.prog u = .ok (.slice (some ⟨u.heap.size, 0, none⟩) kn kn) (u.alloc (.cells (madeCells #[.int .i64 0] kn) 3)) := fun u => by
    have := run_makeSlice (P := Try.prog) u 29 3 i0 _ Try.underlying29 hi hz0 .i64 .i64 kn kn (by omega) (Int.le_refl _) (by rw [hz1]; omega) (by rw [hz2]; omega) (by omega)
    simpa [hz1, Value.cells] using this
  have l0 := w0.len_le
  go_enter Try.func7, Try.ntmps7
  go_upto_region 4 with (go_at_call 19; refine (awake17 _).mono ?_; rintro e wa ⟨rfl, hb⟩)
  have hw0 := w0.below (hb.mono (Nat.le_refl _)) (Nat.le_refl _)
  go_upto_region 5 with (go_at_call 20; refine (new_log kn hk1 hk8 _).mono ?_; rintro e wb ⟨rfl, hb1, hl⟩)
  have iB1 : Bel wa wb := ⟨hb1⟩
  go_wp2_with fail
  go_loopw [9] (fun i wr => ∃ (k : Nat) (lc : Nat → Int) (tc : Array Value) (rs : Nat → List Rec), i = .int .i64 k ∧ SRound wa wb.heap.size (wa.heap.size + 1) kn k lc tc rs wr) (fun i _ => 61 - (intOf i).toNat)
  case atStart =>
    refine ⟨0, fun _ => 0, madeCells #[.int .i64 0] kn, fun _ => [], rfl, (hl.more (Nat.le_refl _)).alloc _, Blk.new _ _ _, by simp [madeCells], ?_, by intro j hj; simp, by intro j hj; simp, by omega, bel _ _, hb1.size⟩
    intro j hj
    simp [madeCells, hj, Nat.mod_one]
  case round =>
    obtain ⟨k, lc, tc, rs, rfl, h⟩ := hrel
    have iX := h.top.lt
    have iBel : Bel wa wr := ⟨h.bel⟩
    have r0 := Lib.hid (hw0.below h.bel (Nat.le_refl _))
    have H := Lib.hid h
    have hi60 := h.i60
    clear w0 hw0 h hl hb1 iB1
    by_cases hlt : k < len0 ∧ k < 60
    · obtain ⟨hlt, hlt2⟩ := hlt
      obtain ⟨b0, off0, z, rfl, hb0, hz, hz1', hz2'⟩ := r0.out.at_ hlt
      have iB0 : BlockLt b0 wr := ⟨hb0⟩
      obtain ⟨c, hc, hc0, hc1⟩ := u64_rem z kn (by omega)
      obtain ⟨j, rfl⟩ : ∃ j : Nat, c = j := ⟨c.toNat, by omega⟩
      obtain ⟨v, hv, hv0, hv1⟩ := u64_rem ((IntKind.u64.wrap z).tdiv 8) 1000000 (by omega)
      have hj : j < kn := by omega
      have hj8 : (j : Int) < 8 := by omega
      have hkn0 : ¬ (kn : Int) = 0 := by omega
      have hknw : IntKind.u64.wrap (kn : Int) = kn := by rw [IntKind.wrap_u64]; omega
      have hlo := H.out.lo j hj
      have hm1 : mayB (lc j) j = true := by rw [mayB_t]; omega
      have hm2 : mayB v 1 = true := by rw [mayB_t]; omega
      have hmx := nextC_t hm1 hm2
      go_upto_region 11 with fail
      have hex : ∀ x ∈ [wb.heap.size], x < wr.heap.size := by
        intro x hx
        obtain rfl : x = wb.heap.size := by simpa using hx
        exact iX.lt
      have hfew := H.out.few j hj
      obtain ⟨M, hM, hM0, hM1⟩ : ∃ M, max (lc j) v = M ∧ 0 ≤ M ∧ M ≤ 1000000 + k := ⟨_, rfl, by omega, by omega⟩
      rw [hM] at hmx
      go_upto_region 12 with (go_at_call 21; refine (H.out.log.addc H.out.bel.size hex j j 0 0 0 0 _ _ _ v 1 (M + 1) rfl hj (by omega) (by omega) (by omega) hm2 hmx).mono ?_; rintro e wc ⟨rfl, hk2, hl2⟩)
      have hX2 := hk2.out_blk H.out.top (by simp)
      have iX2 := hX2.lt
      have cX := hX2.cell j
      have fX := hX2.frozen j
      rw [H.out.at_ j hj] at cX
      have hbc := hk2.out_below H.out.bel.size
      have hb2 := H.out.bel.trans hbc
      have iB2 : Bel wa wc := ⟨hb2⟩
      have hl3 := hl2.alloc (.cells #[Value.int .i64 (M + 1), .int .i64 j] 23)
      have hwM : IntKind.i64.wrap (M + 1) = M + 1 := by rw [IntKind.wrap_i64]; omega
      have hnew : ∀ p : Behind, SRound wa wb.heap.size (wa.heap.size + 1) kn (k + 1) (upd lc j (M + 1)) (tc.setIfInBounds j (.int .i64 (M + 1))) (upd rs j (rs j ++ [⟨M + 1, j, 0, j, 0, 0, 0, ⟨#[]⟩, ⟨#[]⟩, ⟨#[]⟩⟩])) (((wc.setCell ⟨wb.heap.size, j, none⟩ (.int .i64 (M + 1))).alloc (.cells #[.int .i64 (M + 1), .int .i64 j] 23)).junk p) := fun p => by
        refine ⟨((hl2.set_ (a := ⟨_, _, _⟩) (by simp) _).alloc _).junk _, (((hX2.set_ j _).alloc _).junk _), by simpa using H.out.size, ?_, ?_, ?_, by omega, ?_, H.out.xge⟩
        · intro i hi
          unfold upd
          by_cases e : i = j
          · subst e
            rw [if_pos rfl, Array.getElem?_setIfInBounds_self_of_lt (by rw [H.out.size]; omega)]
          · rw [if_neg e, Array.getElem?_setIfInBounds_ne (fun e' => e e'.symm)]
            exact H.out.at_ i hi
        · intro i hi
          unfold upd
          by_cases e : i = j
          · rw [if_pos e]; omega
          · rw [if_neg e]
            have := H.out.lo i hi
            omega
        · intro i hi
          unfold upd
          by_cases e : i = j
          · rw [if_pos e]; simp; omega
          · rw [if_neg e]
            have := H.out.few i hi
            omega
        · have := (hb2.setCell (by exact H.out.xge) (Value.int .i64 (M + 1)) (p := ⟨wb.heap.size, j, none⟩))
          exact below_junk _ _ _ _ (this.alloc this.size _) (by have := hb2.size; simp; omega)
      clear hz0 hz1 hz2 hmk
      by_cases hcv : lc j < v
      · obtain rfl : M = v := by omega
        refine wp_region_quiet_rest (by kernel_rfl) (by kernel_rfl) (WQ.out ?_)
        repeat
          refine WQ_step (fun K hK => ?_)
          go_simp
          first
            | (refine hK _ ?_; clear hK K)
            | (apply Exists.intro
               refine ⟨fun _ => ?_, hK _ ?_⟩
               focus
                 first
                   | (go_at_call 18; refine calls_in (num_any _ _) (fun w' hb => ?_); first | exact rest1 hb | exact rest2 hb)
                   | (go_at_call 23; refine calls_in ((hl3.junk _).lastc j j (M + 1) rfl hj (by simp [upd])) (fun w' hb => ?_); first | exact rest1 hb | exact rest2 hb)
               clear hK K)
        refine WQ_nil ?_
        intro w1 hw1
        obtain ⟨p, hw1⟩ := hw1
        subst hw1
        go_wp2_with fail
        go_roundw
        case rel => exact ⟨k + 1, _, _, _, by go_num, hnew _⟩
        case measure => simp [intOf]; omega
      · obtain rfl : M = lc j := by omega
        refine wp_region_quiet_rest (by kernel_rfl) (by kernel_rfl) (WQ.out ?_)
        repeat
          refine WQ_step (fun K hK => ?_)
          go_simp
          first
            | (refine hK _ ?_; clear hK K)
            | (apply Exists.intro
               refine ⟨fun _ => ?_, hK _ ?_⟩
               focus
                 first
                   | (go_at_call 18; refine calls_in (num_any _ _) (fun w' hb => ?_); first | exact rest1 hb | exact rest2 hb)
                   | (go_at_call 23; refine calls_in ((hl3.junk _).lastc j j (lc j + 1) rfl hj (by simp [upd])) (fun w' hb => ?_); first | exact rest1 hb | exact rest2 hb)
               clear hK K)
        refine WQ_nil ?_
        intro w1 hw1
        obtain ⟨p, hw1⟩ := hw1
        subst hw1
        go_wp2_with fail
        go_roundw
        case rel => exact ⟨k + 1, _, _, _, by go_num, hnew _⟩
        case measure => simp [intOf]; omega
    · have m1 : mayB (-1) 0 = false := by rw [← Bool.not_eq_true, mayB_t]; omega
      clear r0
      by_cases hlt1 : k < len0
      all_goals
        go_upto_region 16 with (go_at_call 21; refine (H.out.log.refused _ _ _ _ _ _ _ _ _ _ (.inr (.inr (.inr m1)))).mono ?_; rintro e w' ⟨rfl, hb⟩; obtain ⟨p, rfl⟩ := hb.rest; clear hb)
        go_upto_region 17 with (go_at_call 21; refine (((H.out.log.junk _).alloc _).refused _ _ _ _ _ _ _ _ _ _ (.inr (.inl (by omega)))).mono ?_; rintro e w' ⟨rfl, hb⟩; obtain ⟨p, rfl⟩ := hb.rest; clear hb)
        go_wp2_with (go_at_call 18; refine (num_any _ _).mono ?_; rintro e w' ⟨rfl, hb⟩; obtain ⟨p, rfl⟩ := hb.rest; clear hb)
        go_ret
        exact ⟨rfl, (hb.mono (Nat.le_refl _)).trans ((bel wa _).mono hb.size)⟩
end Go.Proofs.Ytpndplbomnjioaa
