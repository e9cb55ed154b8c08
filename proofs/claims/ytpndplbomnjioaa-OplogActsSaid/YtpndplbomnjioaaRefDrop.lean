/- The document's Drop. Conditions: none. -/
import Derived.Test.YtpndplbomnjioaaRef0
set_option linter.unusedVariables false
namespace Go.Proofs.Ytpndplbomnjioaa
open Go.RowKit
/-- A row of the document's log that is laid anew. -/
theorem RefAt.renew {B : Nat} {wr wi : World} {L A T n tc j m' : Nat} {rv tv : Array Value} {ms : Nat → Nat} {xs : Nat → List Value} {lc : Nat → Int} {a : Option Addr} {cp : Nat} {xs' : List Value} (h : RefAt B wr L A T n tc rv tv ms xs lc) (hj : j < n) (hB : B ≤ wr.heap.size) (hb : Below wr.heap.size wr wi)
    (own : wi.ownsRow 0 45 10 (.slice a m' cp) m' xs') (loc : ∀ b, (Value.slice a m' cp).ownBlock = some b → wr.heap.size ≤ b) :
    RefAt B (wi.setCell ⟨A, j, none⟩ (.slice a m' cp)) L A T n tc (rv.setIfInBounds j (.slice a m' cp)) tv (upd ms j m') (upd xs j xs') lc := by
  have h2 := h.below hb
  have hk : Keep (fun b => b = A) wi (wi.setCell ⟨A, j, none⟩ (.slice a m' cp)) := (Keep.refl (fun b => b = A) wi).setCell (p := ⟨A, j, none⟩) (.inl rfl) _
  have hlt := h.hA.lt.lt
  refine ⟨hk.blk h2.hL (h2.hL.ne_ h2.hA (by decide)), h2.hA.set_ _ _, hk.blk h2.hT (h2.hT.ne_ h2.hA (by decide)), h.bL, h.bA, h.bT, h.n8, by simpa using h.szA, h.szT, h.t0, h.t1, ?_, ?_⟩
  · intro i hi
    unfold upd
    by_cases e : i = j
    · subst e
      rw [if_pos rfl, if_pos rfl]
      exact ⟨a, cp, by rw [Array.getElem?_setIfInBounds_self_of_lt (by have := h.szA; omega)], hk.own own (fun b hb' e => own_ne_blk own h2.hA (by decide) (by rw [hb', e])), fun b hb' => by have := loc b hb'; omega⟩
    · rw [if_neg e, if_neg e]
      obtain ⟨ai, ci, e1, e2, e3⟩ := h2.row i hi
      exact ⟨ai, ci, by rw [Array.getElem?_setIfInBounds_ne (fun e' => e e'.symm)]; exact e1, hk.own e2 (fun b hb' hs => own_ne_blk e2 h2.hA (by decide) (by rw [hb', hs])), e3⟩
  · intro i i' u v k hne hu hv hk1 hk2
    by_cases e : j = i
    · subst e
      rw [Array.getElem?_setIfInBounds_self_of_lt (by have := h.szA; omega)] at hu
      rw [Array.getElem?_setIfInBounds_ne hne] at hv
      injection hu with hu
      subst hu
      have := loc k hk1
      have := RRef.row_lt h hv hk2
      omega
    · by_cases e2 : j = i'
      · subst e2
        rw [Array.getElem?_setIfInBounds_self_of_lt (by have := h.szA; omega)] at hv
        rw [Array.getElem?_setIfInBounds_ne e] at hu
        injection hv with hv
        subst hv
        have := loc k hk2
        have := RRef.row_lt h hu hk1
        omega
      · rw [Array.getElem?_setIfInBounds_ne e] at hu
        rw [Array.getElem?_setIfInBounds_ne e2] at hv
        exact h.far i i' u v k hne hu hv hk1 hk2
/-- What the loop of the document's Drop knows. -/
structure RDropAt (B : Nat) (ex : List Nat) (w : World) (X L A T n tc : Nat) (tv : Array Value) (uc uk : Int) (rs : Nat → List Rec) (lc : Nat → Int) (k : Nat) (c : Int) (wr : World) : Prop where
  log : ∃ rv, RefAt B wr L A T n tc rv tv (lenOf (keptTo uc uk rs k)) (fun j => recs (keptTo uc uk rs k j)) lc ∧ ∀ (j : Nat) (v : Value) (b : Nat), rv[j]? = some v → v.ownBlock = some b → b ∉ ex
  keep : Keep (Out B ex) w wr
  box : Blk wr X #[.int .i64 uc, .int .i64 uk] 23
  le : k ≤ n
  cnt : c = (sumTo (lenOf rs) k : Int) - sumTo (lenOf (kept uc uk rs)) k
  lo : 0 ≤ c ∧ c ≤ 256 * k
set_option maxRecDepth 100000 in
set_option maxHeartbeats 2000000 in
theorem RRef.drop {B : Nat} {ex : List Nat} {w : World} {L n : Nat} {rs : Nat → List Rec} {lc : Nat → Int} (h0 : RRef B ex w L n rs lc) (hB : B ≤ w.heap.size) (hex : ∀ x ∈ ex, x < w.heap.size) (hms : ∀ j, j < n → (rs j).length ≤ 256) (uc uk : Int) :
    Calls Try.prog 28 #[.pointer (some ⟨L, 0, none⟩), .agg #[.int .i64 uc, .int .i64 uk]] w fun e w' => e = .returned (.int .i64 ((sumTo (lenOf rs) n : Int) - sumTo (lenOf (kept uc uk rs)) n)) ∧ Keep (Out B ex) w w' ∧ RRef B ex w' L n (kept uc uk rs) lc := by
  obtain ⟨A, T, tc, rv, tv, h, x1, x2, x3, x4⟩ := (h0.more (Nat.le_refl _)).alloc (.cells #[.int .i64 uc, .int .i64 uk] 23)
  have h8 := h.n8
  have iL0 : BlockLt L w := ⟨h0.lt⟩
  have hbox := Blk.new w #[.int .i64 uc, .int .i64 uk] 23
  have hK0 : Keep (Out B (w.heap.size :: ex)) w (w.alloc (.cells #[.int .i64 uc, .int .i64 uk] 23)) := (Keep.refl _ w).alloc _
  have HH := Lib.hid (And.intro h (And.intro x4 (And.intro hbox hK0)))
  clear h x4 hbox hK0 h0
  go_enter Try.func28, Try.ntmps28
  go_wp2_with fail
  go_loopw [5, 6] (fun s5 s6 wr => ∃ (k : Nat) (c : Int), s6 = .int .i64 k ∧ s5 = .int .i64 c ∧ RDropAt B (w.heap.size :: ex) w w.heap.size L A T n tc tv uc uk rs lc k c wr) (fun _ i _ => n - (intOf i).toNat)
  case atStart =>
    obtain ⟨h, x4, hbox, hK0⟩ := HH.out
    exact ⟨0, 0, rfl, rfl, ⟨rv, h.congr (fun j hj => ⟨by simp [lenOf, keptTo], by simp [keptTo]⟩), x4⟩, hK0, hbox, by omega, rfl, by omega⟩
  case round =>
    obtain ⟨k, c, rfl, rfl, hd⟩ := hrel
    have HD := Lib.hid hd
    have hkn := hd.le
    have hlo := hd.lo
    obtain ⟨rv2, hlog, hfar⟩ := hd.log
    have iX := hd.box.lt
    have iL := hlog.hL.lt
    have iA := hlog.hA.lt
    have cL := hlog.hL.cell 0
    simp only [List.getElem?_toArray, List.getElem?_cons_zero] at cL
    by_cases hlt : k < n
    · obtain ⟨a, cp, r1, r2, r3⟩ := hlog.row k hlt
      have hek : lenOf (keptTo uc uk rs k) k = (rs k).length := by simp [lenOf, keptTo]
      have hxk : keptTo uc uk rs k k = rs k := by simp [keptTo]
      have cA := hlog.hA.cell k
      rw [r1, hek] at cA
      have r2' := r2
      rw [hek] at r2'
      simp only [hxk] at r2'
      have hm := hms k hlt
      have H2 := Lib.hid (And.intro hlog (And.intro hfar r2'))
      clear hlog hfar r1 r2 r3 r2' hd
      go_wp2_with fail
      go_loopw [5, 7, 8] (fun s5 s7 s8 wi => ∃ (q m : Nat), s8 = .int .i64 q ∧ q ≤ (rs k).length ∧ s5 = .int .i64 (c + (q - m)) ∧ m ≤ q ∧ Below wr.heap.size wr wi ∧ wi.ownsRow 0 45 10 s7 m (recs (((rs k).take q).filter fun r => !gone uc uk r)) ∧ ∀ b, s7.ownBlock = some b → wr.heap.size ≤ b) (fun _ _ i _ => 257 - (intOf i).toNat)
      case atStart => exact ⟨0, 0, rfl, by omega, by simp, by omega, bel _ _, ⟨rfl, .inl ⟨rfl, rfl⟩⟩, by simp [Value.ownBlock]⟩
      case round =>
        rename World => wi
        obtain ⟨q, m, rfl, hq, rfl, hmq, ib, iown, iloc⟩ := hrel
        obtain ⟨a3, cp3, rfl⟩ := own_form iown
        have iBel : Bel wr wi := ⟨ib⟩
        have jX := (HD.out.box.below ib iX.lt)
        have iX2 := jX.lt
        have u0 := jX.cell 0
        have u1 := jX.cell 1
        have jL := (H2.out.1.below ib).hL
        have jA := (H2.out.1.below ib).hA
        have iL2 := jL.lt
        have iA2 := jA.lt
        have eL := (ib.cell (p := ⟨L, 0, none⟩) iL.lt).trans cL
        have eA := (ib.cell (p := ⟨A, k, none⟩) iA.lt).trans cA
        have fA := jA.frozen k
        have nLA := jL.ne_ jA (by decide)
        simp only [List.getElem?_toArray, List.getElem?_cons_zero, List.getElem?_cons_succ] at u0 u1
        have HI := Lib.hid (And.intro iown (And.intro iloc (And.intro jX (And.intro jL jA))))
        clear iown iloc jX jL jA
        by_cases hlt2 : q < (rs k).length
        · obtain ⟨g, cap, r, e, glt, hr, hc⟩ := own_rec H2.out.2.2 hlt2
          injection e with e1 _ e3
          subst e1
          subst e3
          have iG : BlockLt g wi := ⟨Nat.lt_of_lt_of_le glt ib.size⟩
          have c1 : ∀ t, t < 10 → ∀ x, r.cells[t]? = some x → wi.cell? ⟨g, q * 10 + t, none⟩ = some x := fun t ht x hx => (ib.cell (p := ⟨g, _, none⟩) glt).trans (hc t ht x hx)
          have x0 := c1 0 (by omega) _ rfl
          have x1' := c1 1 (by omega) _ rfl
          have x2' := c1 2 (by omega) _ rfl
          have x3' := c1 3 (by omega) _ rfl
          have x4 := c1 4 (by omega) _ rfl
          have x5 := c1 5 (by omega) _ rfl
          have x6 := c1 6 (by omega) _ rfl
          have x7 := c1 7 (by omega) _ rfl
          have x8 := c1 8 (by omega) _ rfl
          have x9 := c1 9 (by omega) _ rfl
          simp only [Nat.add_zero] at x0
          clear hc c1
          have hless : ∀ w, Calls Try.prog 14 #[.agg #[.int .i64 uc, .int .i64 uk], .agg #[.int .i64 r.c, .int .i64 r.k]] w _ := fun w => refless_any uc uk r.c r.k w
          rcases hg : lessB uc uk r.c r.k with _ | _
          all_goals
            rw [hg] at hless
            go_wp2_with fail
            refine wp_region_quiet_rest (by kernel_rfl) (by kernel_rfl) (WQ.out ?_)
            repeat
              refine WQ_step (fun K hK => ?_)
              go_simp
              first
                | (refine hK _ ?_; clear hK K)
                | (apply Exists.intro
                   refine ⟨fun _ => ?_, hK _ ?_⟩
                   focus
                     go_at_call 14
                     refine calls_in (hless _) (fun w' hb => ?_)
                     first | exact rest1 hb | exact rest2 hb
                   clear hK K)
            refine WQ_nil ?_
            intro w1 hw1
            obtain ⟨p, hw1⟩ := hw1
            subst hw1
          · have hg2 : gone uc uk r = true := by simp [gone, hg]
            have ef : (((rs k).take (q + 1)).filter fun r => !gone uc uk r) = (((rs k).take q).filter fun r => !gone uc uk r) := by
              rw [take_succ_of hr, List.filter_append]
              simp [hg2]
            go_wp2_with fail
            go_roundw
            case rel =>
              refine ⟨q + 1, m, by go_num, by omega, congrArg (Value.int .i64) (by omega), by omega, bel _ _, ?_, HI.out.2.1⟩
              rw [ef]
              exact ((Keep.refl (fun _ => False) wi).junk p).own HI.out.1 (fun _ _ e => e)
            case measure => simp [intOf]; omega
          · have hg2 : gone uc uk r = false := by simp [gone, hg]
            have ef : (((rs k).take (q + 1)).filter fun r => !gone uc uk r) = (((rs k).take q).filter fun r => !gone uc uk r) ++ [r] := by
              rw [take_succ_of hr, List.filter_append]
              simp [hg2]
            have hownP := ((Keep.refl (fun _ => False) wi).junk p).own HI.out.1 (fun _ _ e => e)
            obtain ⟨j0, ji, jz0, jz1, jz2⟩ := info_parts info45
            go_wp2_with (at_builtin; refine wpList_append_own_at _ rfl (.tmp 43) (.tmp 54) 42 rfl 0 45 j0 _ 10 104 Try.underlying42 ji jz0 jz1 jz2 rfl (by decide) (.slice a3 m cp3) m _ rfl (hownP.alloc _) ⟨_, 0, none⟩ 1 1 r.cells rfl rfl (fun j' u hu => news_new _ r.cells 45 _ j' u hu) (by simp [Value.oneCell', Rec.cells]) (by unfold maxLen; omega) (by omega) (Nat.zero_le _) ?_)
            intro v' w1 hown1 hgrow _ hloc
            obtain ⟨a', cp', rfl⟩ := own_form hown1
            have HX := Lib.hid (And.intro hown1 (And.intro hgrow hloc))
            clear hown1 hgrow hloc
            go_wp2_with fail
            go_roundw
            case rel =>
              obtain ⟨hown1, hgrow, hloc⟩ := HX.out
              have hsz := ib.size
              refine ⟨q + 1, m + 1, by go_num, by omega, congrArg (Value.int .i64) (by omega), by omega, ?_, by rw [ef, recs_add]; exact hown1, fun b hb => ?_⟩
              · have hW : Below wr.heap.size wr ((wi.junk p).alloc (.cells r.cells.toArray 45)) := bel _ _
                exact hW.trans (((Keep.refl (fun b => (Value.slice a3 m cp3).ownBlock = some b) _).grown hgrow (fun b hb => .inl hb)).below (by simp; omega) (fun x hx h => by have := HI.out.2.1 x h; omega))
              · rcases hloc with h | h
                · exact HI.out.2.1 b (h.symm.trans hb)
                · rw [h] at hb
                  injection hb with hb
                  omega
            case measure => simp [intOf]; omega
        · obtain rfl : q = (rs k).length := by omega
          have ht : (rs k).take (rs k).length = rs k := List.take_of_length_le (Nat.le_refl _)
          go_wp2_with fail
          go_roundw
          case rel =>
            obtain ⟨iown, iloc, jX, jL, jA⟩ := HI.out
            obtain ⟨hlog, hfar, r2'⟩ := H2.out
            rw [ht] at iown
            have hml : ((rs k).filter fun r => !gone uc uk r).length = m := by have := iown.1; rw [recs_len] at this; omega
            have hBr : B ≤ wr.heap.size := by have := hlog.bA; have := iA.lt; omega
            have hD := hlog.renew hlt hBr ib iown iloc
            have hk3 : Keep (fun b => b = A) wr (wi.setCell ⟨A, k, none⟩ (.slice a3 m cp3)) := (Keep.of_below ib (fun b => b = A)).setCell (p := ⟨A, k, none⟩) (.inl rfl) _
            refine ⟨k + 1, _, by go_num, rfl, ⟨_, hD.congr (fun j hj => ?_), ?_⟩, ?_, jX.far (jX.ne_ jA (by decide)) _, by omega, ?_, by omega⟩
            · by_cases e : j = k
              · subst e
                simp only [upd, if_pos, lenOf, keptTo, Nat.lt_succ_self, kept]
                exact ⟨hml, trivial⟩
              · have e2 : (j < k + 1) = (j < k) := by simp; omega
                simp only [upd, if_neg e, lenOf, keptTo, e2]
                exact ⟨trivial, trivial⟩
            · intro j v b hv hb
              by_cases e : k = j
              · subst e
                rw [Array.getElem?_setIfInBounds_self_of_lt (by have := hlog.szA; omega)] at hv
                injection hv with hv
                subst hv
                have := iloc b hb
                have := iX.lt
                intro hx
                rcases List.mem_cons.1 hx with hx | hx
                · omega
                · have := hex b hx; omega
              · rw [Array.getElem?_setIfInBounds_ne e] at hv
                exact hfar j v b hv hb
            · refine HD.out.keep.trans (hk3.mono (S' := Out B (w.heap.size :: ex)) (fun i _ hi => ?_)) (fun i _ h => h)
              rw [hi]
              exact ⟨hlog.bA, x2⟩
            · have := HD.out.cnt
              simp only [sumTo]
              have e : lenOf (kept uc uk rs) k = m := hml
              have e2 : lenOf rs k = (rs k).length := rfl
              omega
          case measure => simp [intOf]; omega
    · obtain rfl : k = n := by omega
      have hc := hd.cnt
      clear hd
      have H2 := Lib.hid (And.intro hlog hfar)
      clear hlog hfar
      go_wp2_with fail
      obtain ⟨hlog, hfar⟩ := H2.out
      refine bodyPost_ret (v := .int .i64 c) (by simp [results, Try.results28, go_sem]) rfl ⟨by rw [hc], HD.out.keep.mono (fun i _ h => ⟨h.1, fun e => h.2 (List.mem_cons_of_mem _ e)⟩), A, T, tc, rv2, tv, hlog.congr (fun j hj => ?_), fun e => x1 (List.mem_cons_of_mem _ e), fun e => x2 (List.mem_cons_of_mem _ e), fun e => x3 (List.mem_cons_of_mem _ e), fun j v b hv hb e => hfar j v b hv hb (List.mem_cons_of_mem _ e)⟩
      simp only [lenOf, keptTo, if_pos hj]
      exact ⟨trivial, trivial⟩
end Go.Proofs.Ytpndplbomnjioaa
