/- The walk of the statement on the rows of a log. Conditions: none. -/
import Derived.Test.YtpndplbomnjioaaRows0
set_option linter.unusedVariables false
namespace Go.Proofs.Ytpndplbomnjioaa
open Go.RowKit
set_option maxRecDepth 100000 in
set_option maxHeartbeats 2000000 in
theorem orows_walk (a0 : Option Addr) (len0 cap0 : Nat) (z0 : List Int) (w : World) (w0 : IsRow .i64 w a0 len0 cap0 z0) :
    Calls Try.prog 6 #[.slice a0 len0 cap0] w fun e w' => e = .returned (.bool true) ∧ Below w.heap.size w w' := by
  have l0 := w0.len_le
  go_enter Try.func6, Try.ntmps6
  go_upto_region 3 with (go_at_call 19; refine (awake17 _).mono ?_; rintro e wa ⟨rfl, hb⟩)
  have hw0 := w0.below (hb.mono (Nat.le_refl _)) (Nat.le_refl _)
  go_upto_region 4 with (go_at_call 20; refine (new_log 4 (by omega) (by omega) _).mono ?_; rintro e wb ⟨rfl, hb1, hl⟩)
  have iB1 : Bel wa wb := ⟨hb1⟩
  go_wp2_with (go_at_call 18; refine (num_any _ _).mono ?_; rintro e w' ⟨rfl, hb⟩; obtain ⟨p, rfl⟩ := hb.rest; clear hb)
  go_loopw [5, 6] (fun v i wr => ∃ (k : Nat) (lc : Nat → Int) (rs : Nat → List Rec) (ss : List (Int × Int)), i = .int .i64 k ∧ RRound wa (wa.heap.size + 1) k lc rs ss v wr) (fun _ i _ => 61 - (intOf i).toNat)
  case atStart =>
    refine ⟨0, fun _ => 0, fun _ => [], [], rfl, (hl.junk _), ⟨rfl, .inl ⟨rfl, rfl⟩⟩, by simp [Value.ownBlock], rfl, by simp, by intro j hj; simp, by simp, by simp, rfl, by omega, bel _ _⟩
  case round =>
    obtain ⟨k, lc, rs, ss, rfl, h⟩ := hrel
    obtain ⟨a1, cp1, rfl⟩ := own_form h.own
    have iBel : Bel wa wr := ⟨h.bel⟩
    have H := Lib.hid h
    have hi60 := h.i60
    clear w0 h hl hb1 iB1
    by_cases hlt : k < len0 ∧ k < 60
    · obtain ⟨hlt, hlt2⟩ := hlt
      obtain ⟨b0, off0, z, rfl, hb0, hz, hz1', hz2'⟩ := hw0.at_ hlt
      have hzr := (H.out.bel.cell (p := ⟨b0, off0 + k, none⟩) hb0).trans hz
      have iB0 : BlockLt b0 wr := ⟨Nat.lt_of_lt_of_le hb0 H.out.bel.size⟩
      obtain ⟨j, hj0, hj⟩ : ∃ j : Nat, z % 4 = j ∧ j < 4 := ⟨(z % 4).toNat, by omega, by omega⟩
      have HW := Lib.hid hw0
      clear hw0
      have hlo := H.out.lo j hj
      have hm1 : mayB (lc j) j = true := by rw [mayB_t]; omega
      have hrl := sumTo_ge (f := lenOf rs) 4 j hj
      rw [H.out.sum] at hrl
      have hrl' : (rs j).length ≤ k := hrl
      by_cases hfl : bits .and .i64 z 4 = 4 ∧ 0 < k
      · obtain ⟨hfl, hk0⟩ := hfl
        have hk0i : ¬ (k : Int) = 0 := by omega
        obtain ⟨q, hq, hqk⟩ : ∃ q : Nat, (z.tdiv 8 % 64).tmod (k : Int) = q ∧ q < k := by
          have h1 : 0 ≤ z.tdiv 8 % 64 := Int.emod_nonneg _ (by omega)
          have h2 := Int.tmod_nonneg (k : Int) h1
          have h3 := Int.tmod_lt_of_pos (z.tdiv 8 % 64) (b := (k : Int)) (by omega)
          exact ⟨((z.tdiv 8 % 64).tmod (k : Int)).toNat, by omega, by omega⟩
        obtain ⟨⟨sc, sk⟩, hs⟩ : ∃ p, ss[q]? = some p := ⟨_, List.getElem?_eq_getElem (by rw [H.out.len]; exact hqk)⟩
        obtain ⟨s0, s1, s2, s3⟩ := H.out.okS q _ hs
        obtain ⟨g, cap, e, glt, gc, hcell⟩ := own_cells H.out.own (by omega)
        injection e with e1 e2 e3
        subst e1
        subst e3
        have iG : BlockLt g wr := ⟨glt⟩
        have d0 := hcell (q * 2) _ (by omega) (stCells_at ss q _ hs).1
        have d1 := hcell (q * 2 + 1) _ (by omega) (stCells_at ss q _ hs).2
        simp only at d0 d1 s0 s1 s2 s3
        clear hcell
        go_upto_region 14 with fail
        have hsM : 0 ≤ sc ∧ sc ≤ k ∧ 0 ≤ sk ∧ sk < 4 := by omega
        have hm2 : mayB sc sk = true := by rw [mayB_t]; omega
        have hmx := nextC_t hm1 hm2
        obtain ⟨M, hM, hM0, hM1, hMs, hMl⟩ : ∃ M, max (lc j) sc = M ∧ 0 ≤ M ∧ M ≤ k ∧ ¬ (M + 1 ≤ sc) ∧ lc j ≤ M := ⟨_, rfl, by omega, by omega, by omega, by omega⟩
        rw [hM] at hmx
        have hexO : ∀ x ∈ (Value.slice (some ⟨g, 0, none⟩) k cp1).ownBlock.toList, x < wr.heap.size := fun x hx => own_lt H.out.own (Option.mem_toList.1 hx)
        have hexL : ∀ x ∈ wr.heap.size :: (Value.slice (some ⟨g, 0, none⟩) k cp1).ownBlock.toList, x < (wr.alloc (.cells #[.int .i64 sc, .int .i64 sk] 23)).heap.size := fun x hx => by
          simp only [World.size_alloc]
          rcases List.mem_cons.1 hx with hx | hx
          · omega
          · have := hexO x hx; omega
        have hx8 := Blk.new wr #[.int .i64 sc, .int .i64 sk] 23
        go_upto_region 15 with (go_at_call 21; refine (((H.out.log.more (Nat.le_refl _)).alloc _).addc (by have := H.out.bel.size; simp; omega) hexL j j 0 0 0 k _ _ _ sc sk (M + 1) rfl hj (by omega) (by omega) (by omega) hm2 hmx).mono ?_; rintro e wc ⟨rfl, hk2, hl2⟩)
        have hx8' := hk2.out_blk hx8 (by simp)
        have i8 := hx8'.lt
        have c80 := hx8'.cell 0
        have c81 := hx8'.cell 1
        simp only [List.getElem?_toArray, List.getElem?_cons_zero, List.getElem?_cons_succ] at c80 c81
        have hbB : wa.heap.size ≤ wr.heap.size := H.out.bel.size
        have hb2 : Below wa.heap.size wa wc := (H.out.bel.alloc hbB _).trans (hk2.out_below (by simp; omega))
        have iB2 : Bel wa wc := ⟨hb2⟩
        have hzc := (hb2.cell (p := ⟨b0, off0 + k, none⟩) hb0).trans hz
        have iBc : BlockLt b0 wc := ⟨Nat.lt_of_lt_of_le hb0 hb2.size⟩
        have hown2 := hk2.own (H.out.own.alloc _) (fun b hb e => e.2 (List.mem_cons_of_mem _ (Option.mem_toList.2 hb)))
        have HO := Lib.hid hown2
        clear hown2 hx8 hx8'
        go_upto_region 17 with (go_at_call 18; refine (num_any _ _).mono ?_; rintro e w' ⟨rfl, hb⟩; obtain ⟨p2, rfl⟩ := hb.rest; clear hb)
        have hownP := ((((Keep.refl (fun _ => False) wc).alloc (.cells #[.int .i64 (M + 1), .int .i64 j] 23)).junk p2)).own HO.out (fun _ _ e => e)
        obtain ⟨j0, ji, jz0, jz1, jz2⟩ := info_parts info23
        go_wp2_with (at_builtin; refine wpList_append_own_at _ rfl (.tmp 101) (.tmp 103) 37 rfl 0 23 j0 _ 2 16 Try.underlying37 ji jz0 jz1 jz2 rfl (by decide) (.slice (some ⟨g, 0, none⟩) k cp1) k (stCells ss) rfl (hownP.alloc _) ⟨_, 0, none⟩ 1 1 [.int .i64 (M + 1), .int .i64 j] rfl rfl (fun j' u hu => news_new _ [.int .i64 (M + 1), .int .i64 j] 23 _ j' u hu) (by simp [Value.oneCell']) (by unfold maxLen; omega) (by omega) (Nat.zero_le _) ?_)
        intro v' w1 hown1 hgrow _ hloc
        obtain ⟨a', cp', rfl⟩ := own_form hown1
        have HX := Lib.hid (And.intro hown1 (And.intro hgrow hloc))
        clear hown1 hgrow hloc
        go_wp2_with fail
        go_roundw
        case rel =>
          obtain ⟨hown1, hgrow, hloc⟩ := HX.out
          exact ⟨k + 1, _, _, _, by go_num, H.out.next hj hM0 hM1 hMl hlt2 hl2 hb2 hown1 hgrow hloc⟩
        case measure => simp [intOf]; omega
      · by_cases hk0 : 0 < k
        · have hfl' : ¬ bits .and .i64 z 4 = 4 := fun e => hfl ⟨e, hk0⟩
          go_upto_region 14 with fail
          have hsM : 0 ≤ 0 ∧ 0 ≤ k ∧ 0 ≤ 0 ∧ 0 < 4 := by omega
          have hm2 : mayB 0 0 = true := by rw [mayB_t]; omega
          have hmx := nextC_t hm1 hm2
          obtain ⟨M, hM, hM0, hM1, hMs, hMl⟩ : ∃ M, max (lc j) 0 = M ∧ 0 ≤ M ∧ M ≤ k ∧ ¬ (M + 1 ≤ 0) ∧ lc j ≤ M := ⟨_, rfl, by omega, by omega, by omega, by omega⟩
          rw [hM] at hmx
          have hexO : ∀ x ∈ (Value.slice a1 k cp1).ownBlock.toList, x < wr.heap.size := fun x hx => own_lt H.out.own (Option.mem_toList.1 hx)
          have hexL : ∀ x ∈ wr.heap.size :: (Value.slice a1 k cp1).ownBlock.toList, x < (wr.alloc (.cells #[.int .i64 0, .int .i64 0] 23)).heap.size := fun x hx => by
            simp only [World.size_alloc]
            rcases List.mem_cons.1 hx with hx | hx
            · omega
            · have := hexO x hx; omega
          have hx8 := Blk.new wr #[.int .i64 0, .int .i64 0] 23
          go_upto_region 15 with (go_at_call 21; refine (((H.out.log.more (Nat.le_refl _)).alloc _).addc (by have := H.out.bel.size; simp; omega) hexL j j 0 0 0 k _ _ _ 0 0 (M + 1) rfl hj (by omega) (by omega) (by omega) hm2 hmx).mono ?_; rintro e wc ⟨rfl, hk2, hl2⟩)
          have hx8' := hk2.out_blk hx8 (by simp)
          have i8 := hx8'.lt
          have c80 := hx8'.cell 0
          have c81 := hx8'.cell 1
          simp only [List.getElem?_toArray, List.getElem?_cons_zero, List.getElem?_cons_succ] at c80 c81
          have hbB : wa.heap.size ≤ wr.heap.size := H.out.bel.size
          have hb2 : Below wa.heap.size wa wc := (H.out.bel.alloc hbB _).trans (hk2.out_below (by simp; omega))
          have iB2 : Bel wa wc := ⟨hb2⟩
          have hzc := (hb2.cell (p := ⟨b0, off0 + k, none⟩) hb0).trans hz
          have iBc : BlockLt b0 wc := ⟨Nat.lt_of_lt_of_le hb0 hb2.size⟩
          have hown2 := hk2.own (H.out.own.alloc _) (fun b hb e => e.2 (List.mem_cons_of_mem _ (Option.mem_toList.2 hb)))
          have HO := Lib.hid hown2
          clear hown2 hx8 hx8'
          go_upto_region 17 with (go_at_call 18; refine (num_any _ _).mono ?_; rintro e w' ⟨rfl, hb⟩; obtain ⟨p2, rfl⟩ := hb.rest; clear hb)
          have hownP := ((((Keep.refl (fun _ => False) wc).alloc (.cells #[.int .i64 (M + 1), .int .i64 j] 23)).junk p2)).own HO.out (fun _ _ e => e)
          obtain ⟨j0, ji, jz0, jz1, jz2⟩ := info_parts info23
          go_wp2_with (at_builtin; refine wpList_append_own_at _ rfl (.tmp 101) (.tmp 103) 37 rfl 0 23 j0 _ 2 16 Try.underlying37 ji jz0 jz1 jz2 rfl (by decide) (.slice a1 k cp1) k (stCells ss) rfl (hownP.alloc _) ⟨_, 0, none⟩ 1 1 [.int .i64 (M + 1), .int .i64 j] rfl rfl (fun j' u hu => news_new _ [.int .i64 (M + 1), .int .i64 j] 23 _ j' u hu) (by simp [Value.oneCell']) (by unfold maxLen; omega) (by omega) (Nat.zero_le _) ?_)
          intro v' w1 hown1 hgrow _ hloc
          obtain ⟨a', cp', rfl⟩ := own_form hown1
          have HX := Lib.hid (And.intro hown1 (And.intro hgrow hloc))
          clear hown1 hgrow hloc
          go_wp2_with fail
          go_roundw
          case rel =>
            obtain ⟨hown1, hgrow, hloc⟩ := HX.out
            exact ⟨k + 1, _, _, _, by go_num, H.out.next hj hM0 hM1 hMl hlt2 hl2 hb2 hown1 hgrow hloc⟩
          case measure => simp [intOf]; omega
        · by_cases hfl' : bits .and .i64 z 4 = 4
          all_goals
            go_upto_region 14 with fail
            have hsM : 0 ≤ 0 ∧ 0 ≤ k ∧ 0 ≤ 0 ∧ 0 < 4 := by omega
            have hm2 : mayB 0 0 = true := by rw [mayB_t]; omega
            have hmx := nextC_t hm1 hm2
            obtain ⟨M, hM, hM0, hM1, hMs, hMl⟩ : ∃ M, max (lc j) 0 = M ∧ 0 ≤ M ∧ M ≤ k ∧ ¬ (M + 1 ≤ 0) ∧ lc j ≤ M := ⟨_, rfl, by omega, by omega, by omega, by omega⟩
            rw [hM] at hmx
            have hexO : ∀ x ∈ (Value.slice a1 k cp1).ownBlock.toList, x < wr.heap.size := fun x hx => own_lt H.out.own (Option.mem_toList.1 hx)
            have hexL : ∀ x ∈ wr.heap.size :: (Value.slice a1 k cp1).ownBlock.toList, x < (wr.alloc (.cells #[.int .i64 0, .int .i64 0] 23)).heap.size := fun x hx => by
              simp only [World.size_alloc]
              rcases List.mem_cons.1 hx with hx | hx
              · omega
              · have := hexO x hx; omega
            have hx8 := Blk.new wr #[.int .i64 0, .int .i64 0] 23
            go_upto_region 15 with (go_at_call 21; refine (((H.out.log.more (Nat.le_refl _)).alloc _).addc (by have := H.out.bel.size; simp; omega) hexL j j 0 0 0 k _ _ _ 0 0 (M + 1) rfl hj (by omega) (by omega) (by omega) hm2 hmx).mono ?_; rintro e wc ⟨rfl, hk2, hl2⟩)
            have hx8' := hk2.out_blk hx8 (by simp)
            have i8 := hx8'.lt
            have c80 := hx8'.cell 0
            have c81 := hx8'.cell 1
            simp only [List.getElem?_toArray, List.getElem?_cons_zero, List.getElem?_cons_succ] at c80 c81
            have hbB : wa.heap.size ≤ wr.heap.size := H.out.bel.size
            have hb2 : Below wa.heap.size wa wc := (H.out.bel.alloc hbB _).trans (hk2.out_below (by simp; omega))
            have iB2 : Bel wa wc := ⟨hb2⟩
            have hzc := (hb2.cell (p := ⟨b0, off0 + k, none⟩) hb0).trans hz
            have iBc : BlockLt b0 wc := ⟨Nat.lt_of_lt_of_le hb0 hb2.size⟩
            have hown2 := hk2.own (H.out.own.alloc _) (fun b hb e => e.2 (List.mem_cons_of_mem _ (Option.mem_toList.2 hb)))
            have HO := Lib.hid hown2
            clear hown2 hx8 hx8'
            go_upto_region 17 with (go_at_call 18; refine (num_any _ _).mono ?_; rintro e w' ⟨rfl, hb⟩; obtain ⟨p2, rfl⟩ := hb.rest; clear hb)
            have hownP := ((((Keep.refl (fun _ => False) wc).alloc (.cells #[.int .i64 (M + 1), .int .i64 j] 23)).junk p2)).own HO.out (fun _ _ e => e)
            obtain ⟨j0, ji, jz0, jz1, jz2⟩ := info_parts info23
            go_wp2_with (at_builtin; refine wpList_append_own_at _ rfl (.tmp 101) (.tmp 103) 37 rfl 0 23 j0 _ 2 16 Try.underlying37 ji jz0 jz1 jz2 rfl (by decide) (.slice a1 k cp1) k (stCells ss) rfl (hownP.alloc _) ⟨_, 0, none⟩ 1 1 [.int .i64 (M + 1), .int .i64 j] rfl rfl (fun j' u hu => news_new _ [.int .i64 (M + 1), .int .i64 j] 23 _ j' u hu) (by simp [Value.oneCell']) (by unfold maxLen; omega) (by omega) (Nat.zero_le _) ?_)
            intro v' w1 hown1 hgrow _ hloc
            obtain ⟨a', cp', rfl⟩ := own_form hown1
            have HX := Lib.hid (And.intro hown1 (And.intro hgrow hloc))
            clear hown1 hgrow hloc
            go_wp2_with fail
            go_roundw
            case rel =>
              obtain ⟨hown1, hgrow, hloc⟩ := HX.out
              exact ⟨k + 1, _, _, _, by go_num, H.out.next hj hM0 hM1 hMl hlt2 hl2 hb2 hown1 hgrow hloc⟩
            case measure => simp [intOf]; omega
    · have hbm := H.out.bel
      have hms : ∀ j, j < 4 → (rs j).length ≤ 256 := fun j hj => by
        have := sumTo_ge (f := lenOf rs) 4 j hj
        rw [H.out.sum] at this
        have h2 : (rs j).length ≤ k := this
        omega
      have hlen : (pickOf rs (mergeAll rs 4)).length = k := by
        unfold mergeAll
        rw [pick_len (n := 4) (sumTo (lenOf rs) 4) (fun _ => 0) (by intro j hj; omega) (by rw [sumTo_zero]; omega), H.out.sum]
      clear hw0
      by_cases hlt1 : k < len0
      all_goals
        go_upto_region 19 with (go_at_call 22; refine (H.out.log.merge hms).mono ?_; rintro e wm ⟨v, rfl, hbm2, hv, hvl⟩)
        rw [hlen] at hv
        obtain ⟨a2, cp2, rfl⟩ := own_form hv
        have hbwm : Below wa.heap.size wa wm := hbm.trans (hbm2.mono hbm.size)
        have HV := Lib.hid (And.intro hv (And.intro hbwm hbm2))
        clear hv hvl hbm2
        go_wp2_with fail
        go_loopw [13] (fun i wr2 => ∃ (i' : Nat) (hd : Nat → Nat), i = .int .i64 i' ∧ SRow wm wm.heap.size rs (pickOf rs (mergeAll rs 4)) hd i' wr2) (fun i _ => 61 - (intOf i).toNat)
        case atStart =>
          refine ⟨0, fun _ => 0, rfl, bel _ _, ⟨_, Blk.new _ _ _, rfl, ?_⟩, by intro j hj; omega, sumTo_zero 4, by omega, ⟨[], rfl, rfl⟩, by intro j hj r0 r h0; omega⟩
          intro j hj
          obtain rfl | rfl | rfl | rfl : j = 0 ∨ j = 1 ∨ j = 2 ∨ j = 3 := by omega
          all_goals rfl
        case round =>
          rename World => wr2
          obtain ⟨i, hd, rfl, h2⟩ := hrel
          have H2 := Lib.hid h2
          have iBm : Bel wm wr2 := ⟨h2.bel⟩
          have hi60 := h2.ge
          rw [H.out.sum] at hi60
          clear h2
          by_cases hik : i < k
          · obtain ⟨l, r, hl4, hlh, hr, hP, h3, hd'⟩ := H2.out.here (by rw [H.out.sum]; exact hik)
            obtain ⟨g, cap, e, glt, gc, hcell⟩ := own_cells HV.out.1 (by omega)
            injection e with e1 e2 e3
            subst e1
            subst e3
            have iG : BlockLt g wr2 := ⟨Nat.lt_of_lt_of_le glt H2.out.bel.size⟩
            have cc : ∀ (i' : Nat) (r' : Rec), (pickOf rs (mergeAll rs 4))[i']? = some r' → i' < k → ∀ q, q < 10 → ∀ x, r'.cells[q]? = some x → wr2.cell? ⟨g, i' * 10 + q, none⟩ = some x := fun i' r' hp hk' q hq x hx => (H2.out.bel.cell (p := ⟨g, _, none⟩) glt).trans (hcell (i' * 10 + q) x (by omega) ((recs_at _ _ _ hp q hq).trans hx))
            obtain ⟨o1, o2, o3, o4⟩ := H.out.row l hl4 _ _ hr
            have d0 := cc i r hP hik 0 (by omega) _ rfl
            have d3 := cc i r hP hik 3 (by omega) _ rfl
            have d6 := cc i r hP hik 6 (by omega) _ rfl
            rw [o1] at d3
            simp only [Nat.add_zero] at d0
            obtain ⟨lc2, e1, e2, e3⟩ := H2.out.last
            have cX := e1.cell l
            have iX := e1.lt
            have fX := e1.frozen l
            rw [e3 l hl4] at cX
            have hyn := numBefore_lt hr o2 (H.out.inc l hl4)
            have hl4i : (l : Int) < 4 := by omega
            by_cases hi0 : 0 < i
            · obtain ⟨m, hm⟩ : ∃ m, i = m + 1 := ⟨i - 1, by omega⟩
              have hsub : (i : Int) - 1 = m := by omega
              have hmk : m < k := by omega
              have hmw : IntKind.i64.wrap (m : Int) = m := by rw [IntKind.wrap_i64]; omega
              obtain ⟨r0, hr0⟩ : ∃ r0, (pickOf rs (mergeAll rs 4))[m]? = some r0 := ⟨_, List.getElem?_eq_getElem (by omega)⟩
              have g0 := cc m r0 hr0 (by omega) 0 (by omega) _ rfl
              simp only [Nat.add_zero] at g0
              have hpv := H2.out.prev l hl4 r0 r hi0 (by rw [show i - 1 = m by omega]; exact hr0) hr
              have hpv' : ¬ r.c < r0.c := by omega
              clear hcell hm
              go_wp2_with fail
              refine wp_region_quiet_rest (by kernel_rfl) (by kernel_rfl) (WQ.out ?_)
              repeat
                refine WQ_step (fun K hK => ?_)
                go_simp
                refine hK _ ?_
                clear hK K
              refine WQ_nil ?_
              intro w1 hw1
              obtain ⟨p, hw1⟩ := hw1
              subst hw1
              go_wp2_with fail
              go_roundw
              case rel =>
                refine ⟨i + 1, _, by go_num, H2.out.next (by rw [H.out.sum]; exact hik) hl4 hlh hr hP h3 hd' (H.out.inc l hl4) ?_ (fun lc h => ?_)⟩
                · exact bel _ _
                · exact (h.set_ _ _).junk _
              case measure => simp [intOf]; omega
            · have hi0' : ¬ (0 : Int) < i := by omega
              clear hcell
              go_wp2_with fail
              refine wp_region_quiet_rest (by kernel_rfl) (by kernel_rfl) (WQ.out ?_)
              repeat
                refine WQ_step (fun K hK => ?_)
                go_simp
                refine hK _ ?_
                clear hK K
              refine WQ_nil ?_
              intro w1 hw1
              obtain ⟨p, hw1⟩ := hw1
              subst hw1
              go_wp2_with fail
              go_roundw
              case rel =>
                refine ⟨i + 1, _, by go_num, H2.out.next (by rw [H.out.sum]; exact hik) hl4 hlh hr hP h3 hd' (H.out.inc l hl4) ?_ (fun lc h => ?_)⟩
                · exact bel _ _
                · exact (h.set_ _ _).junk _
              case measure => simp [intOf]; omega
          · go_wp2_with fail
            go_ret
            exact ⟨rfl, (hb.mono (Nat.le_refl _)).trans ((HV.out.2.1.trans (H2.out.bel.mono HV.out.2.1.size)).mono hb.size)⟩
end Go.Proofs.Ytpndplbomnjioaa
