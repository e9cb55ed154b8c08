/- The walk of the statement on what Drop lets go. Conditions: none. -/
import Derived.Test.YtpndplbomnjioaaDLaw
import Derived.Test.YtpndplbomnjioaaSame
set_option linter.unusedVariables false
namespace Go.Proofs.Ytpndplbomnjioaa
open Go.RowKit
theorem sumTo_ge' {f : Nat → Nat} : ∀ n j, j < n → f j ≤ sumTo f n
  | 0, j, h => by omega
  | n + 1, j, h => by
    simp only [sumTo]
    by_cases e : j = n
    · subst e; omega
    · have := sumTo_ge' (f := f) n j (by omega); omega
/-- What the first loop of OplogDrops knows. -/
structure ORound (wa : World) (L n i : Nat) (lc : Nat → Int) (rs : Nat → List Rec) (wr : World) : Prop where
  log : RLog wa.heap.size [] wr L n rs lc
  lo : ∀ j, j < n → 0 ≤ lc j ∧ lc j ≤ 8 + i
  row : ∀ j, j < n → ∀ (q : Nat) (r : Rec), (rs j)[q]? = some r → r.c ≤ lc j
  inc : ∀ j, j < n → ∀ (q q' : Nat) (r r' : Rec), q < q' → (rs j)[q]? = some r → (rs j)[q']? = some r' → r.c < r'.c
  sum : sumTo (lenOf rs) n = i
  i60 : i ≤ 60
  bel : Below wa.heap.size wa wr
theorem ORound.next {wa wr wc : World} {L n k j : Nat} {lc : Nat → Int} {rs : Nat → List Rec} {r0 : Rec} (H : ORound wa L n k lc rs wr) (hj : j < n) (hl : lc j < r0.c) (hc : r0.c ≤ 9 + k) (hk : k < 60)
    (hlog : RLog wa.heap.size [] wc L n (upd rs j (rs j ++ [r0])) (upd lc j r0.c)) (hb : Below wa.heap.size wa wc) : ORound wa L n (k + 1) (upd lc j r0.c) (upd rs j (rs j ++ [r0])) wc := by
  refine ⟨hlog, ?_, ?_, ?_, ?_, by omega, hb⟩
  · intro i hi
    unfold upd
    have := H.lo i hi
    have := H.lo j hj
    split <;> omega
  · intro i hi q r hq
    unfold upd at hq ⊢
    by_cases e : i = j
    · subst e
      rw [if_pos rfl] at hq ⊢
      by_cases e2 : q < (rs i).length
      · rw [List.getElem?_append_left e2] at hq
        have := H.row i hi q r hq
        omega
      · rw [List.getElem?_append_right (by omega)] at hq
        have e0 : q - (rs i).length = 0 := by
          rcases Nat.eq_zero_or_pos (q - (rs i).length) with h | h
          · exact h
          · rw [List.getElem?_eq_none (by simp; omega)] at hq
            cases hq
        rw [e0] at hq
        injection hq with hq
        subst hq
        exact Int.le_refl _
    · rw [if_neg e] at hq ⊢
      exact H.row i hi q r hq
  · intro i hi q q' r r' hqq hq hq'
    unfold upd at hq hq'
    by_cases e : i = j
    · subst e
      rw [if_pos rfl] at hq hq'
      by_cases e2 : q' < (rs i).length
      · rw [List.getElem?_append_left e2] at hq'
        rw [List.getElem?_append_left (by omega)] at hq
        exact H.inc i hi q q' r r' hqq hq hq'
      · rw [List.getElem?_append_right (by omega)] at hq'
        have e0 : q' - (rs i).length = 0 := by
          rcases Nat.eq_zero_or_pos (q' - (rs i).length) with h | h
          · exact h
          · rw [List.getElem?_eq_none (by simp; omega)] at hq'
            cases hq'
        rw [e0] at hq'
        injection hq' with hq'
        subst hq'
        rw [List.getElem?_append_left (by omega)] at hq
        have := H.row i hi q r hq
        omega
    · rw [if_neg e] at hq hq'
      exact H.inc i hi q q' r r' hqq hq hq'
  · have e1 : lenOf (upd rs j (rs j ++ [r0])) = upd (lenOf rs) j (lenOf rs j + 1) := by
      funext i
      unfold lenOf upd
      split <;> simp
    rw [e1, sumTo_upd, if_pos hj, H.sum]
theorem RLog.mores {B : Nat} {ex : List Nat} {w : World} {L n : Nat} {rs : Nat → List Rec} {lc : Nat → Int} (h : RLog B ex w L n rs lc) : ∀ ys : List Nat, (∀ y ∈ ys, w.heap.size ≤ y) → RLog B (ys ++ ex) w L n rs lc
  | [], _ => h
  | y :: ys, hy => (RLog.mores h ys (fun z hz => hy z (List.mem_cons_of_mem _ hz))).more (hy y List.mem_cons_self)
theorem kept_kept (uc uk : Int) (rs : Nat → List Rec) : kept uc uk (kept uc uk rs) = kept uc uk rs := by
  funext j
  simp [kept, List.filter_filter]
theorem gone_t {uc uk : Int} {r : Rec} (h : uc < r.c ∨ (uc = r.c ∧ uk < r.k)) : gone uc uk r = false := by
  have : lessB uc uk r.c r.k = true := by rw [lessB_t]; exact h
  simp [gone, this]
theorem gone_f {uc uk : Int} {r : Rec} (h : ¬ (uc < r.c ∨ (uc = r.c ∧ uk < r.k))) : gone uc uk r = true := by
  have : lessB uc uk r.c r.k = false := by rw [← Bool.not_eq_true, lessB_t]; exact h
  simp [gone, this]
set_option maxRecDepth 100000 in
set_option maxHeartbeats 2000000 in
theorem odrops_walk (a0 : Option Addr) (len0 cap0 : Nat) (z0 : List Int) (count core : Int) (w : World) (w0 : IsRow .i64 w a0 len0 cap0 z0) :
    Calls Try.prog 9 #[.slice a0 len0 cap0, .int .i64 count, .int .i64 core] w fun e w' => e = .returned (.bool true) ∧ Below w.heap.size w w' := by
  have l0 := w0.len_le
  obtain ⟨uc, huc, huc0, huc1⟩ : ∃ uc, count % 64 = uc ∧ 0 ≤ uc ∧ uc < 64 := ⟨_, rfl, by omega, by omega⟩
  obtain ⟨uk, huk, huk0, huk1⟩ : ∃ uk, core % 4 = uk ∧ 0 ≤ uk ∧ uk < 4 := ⟨_, rfl, by omega, by omega⟩
  go_enter Try.func9, Try.ntmps9
  go_upto_region 3 with (go_at_call 19; refine (awake17 _).mono ?_; rintro e wa ⟨rfl, hb⟩)
  have hw0 := w0.below (hb.mono (Nat.le_refl _)) (Nat.le_refl _)
  go_upto_region 4 with (go_at_call 20; refine (new_log 3 (by omega) (by omega) _).mono ?_; rintro e wb ⟨rfl, hb1, hl⟩)
  have iB1 : Bel wa wb := ⟨hb1⟩
  go_wp2_with fail
  go_loopw [9] (fun i wr => ∃ (k : Nat) (lc : Nat → Int) (rs : Nat → List Rec), i = .int .i64 k ∧ ORound wa (wa.heap.size + 1) 3 k lc rs wr) (fun i _ => 61 - (intOf i).toNat)
  case atStart =>
    refine ⟨0, fun _ => 0, fun _ => [], rfl, hl, by intro j hj; simp, by simp, by simp, rfl, by omega, bel _ _⟩
  case round =>
    obtain ⟨k, lc, rs, rfl, h⟩ := hrel
    have iBel : Bel wa wr := ⟨h.bel⟩
    have H := Lib.hid h
    have hi60 := h.i60
    clear w0 h hl hb1 iB1
    by_cases hlt : k < len0 ∧ k < 60
    · obtain ⟨hlt, hlt2⟩ := hlt
      obtain ⟨b0, off0, z, rfl, hb0, hz, hz1', hz2'⟩ := hw0.at_ hlt
      have hzr := (H.out.bel.cell (p := ⟨b0, off0 + k, none⟩) hb0).trans hz
      have iB0 : BlockLt b0 wr := ⟨Nat.lt_of_lt_of_le hb0 H.out.bel.size⟩
      have HW := Lib.hid hw0
      clear hw0
      obtain ⟨c, hc, hc0, hc1⟩ := u64_rem z 3 (by omega)
      obtain ⟨j, rfl⟩ : ∃ j : Nat, c = j := ⟨c.toNat, by omega⟩
      have hj : j < 3 := by omega
      obtain ⟨sc, hsc, hsc0, hsc1⟩ : ∃ sc, z.tdiv 4 % 8 = sc ∧ 0 ≤ sc ∧ sc < 8 := ⟨_, rfl, by omega, by omega⟩
      have hlo := H.out.lo j hj
      have hm1 : mayB (lc j) j = true := by rw [mayB_t]; omega
      have hm2 : mayB sc 0 = true := by rw [mayB_t]; omega
      have hmx := nextC_t hm1 hm2
      obtain ⟨M, hM, hM0, hM1, hMl⟩ : ∃ M, max (lc j) sc = M ∧ 0 ≤ M ∧ M ≤ 8 + k ∧ lc j ≤ M := ⟨_, rfl, by omega, by omega, by omega⟩
      rw [hM] at hmx
      have hrl := sumTo_ge' (f := lenOf rs) 3 j hj
      rw [H.out.sum] at hrl
      have hrl' : (rs j).length ≤ k := hrl
      have hjw : IntKind.i64.wrap (j : Int) = j := by rw [IntKind.wrap_i64]; omega
      have hzw : IntKind.i64.wrap (z.tdiv 4) = z.tdiv 4 := by
        have hb : -9223372036854775808 ≤ z.tdiv 4 ∧ z.tdiv 4 ≤ 9223372036854775807 := by
          rcases Int.le_total 0 z with h | h
          · rw [Int.tdiv_eq_ediv_of_nonneg h]; omega
          · have e : z.tdiv 4 = -((-z).tdiv 4) := by rw [Int.neg_tdiv]; omega
            rw [e, Int.tdiv_eq_ediv_of_nonneg (by omega : 0 ≤ -z)]; omega
        rw [IntKind.wrap_i64]; omega
      go_upto_region 7 with fail
      refine wp_region_eff [17] true (fun w' => w'.cell? ⟨b0, off0 + k, none⟩ = some (.int .i64 z)) (by kernel_rfl) (by kernel_rfl) ?_ ?_
      · go_simp
      repeat
        refine wpL_look rfl rfl ?_
        apply Exists.intro
        refine ⟨?_, ?_⟩
        focus
          rintro w' s0
          go_simp
          first | done | rfl
        simp only [Act.put, List.setIfInBounds_toArray, List.set_cons_zero, List.set_cons_succ]
      refine wpL_act rfl rfl ?_
      refine eff_call 21 #[.pointer (some ⟨wa.heap.size + 1, 0, none⟩), .agg #[.int .i64 0, .int .i64 j, .int .i64 0, .int .i64 0, .int .i64 k, .string ⟨#[]⟩, .string ⟨#[]⟩, .string ⟨#[]⟩], .agg #[.int .i64 sc, .int .i64 0]] ?hr ?_
      case hr =>
        go_simp
        first | done | rfl
      refine (H.out.log.drew.addc H.out.bel.size (by simp) j j 0 0 0 k _ _ _ sc 0 (M + 1) rfl hj (by omega) (by omega) (by omega) hm2 hmx).mono ?_
      rintro e wc ⟨rfl, hk2, hl2⟩
      have hb2 : Below wa.heap.size wa wc := H.out.bel.drew.trans (hk2.out_below H.out.bel.size)
      refine ⟨_, rfl, .inr ⟨rfl, rfl⟩, ?_⟩
      simp only [Act.put, List.setIfInBounds_toArray, List.set_cons_zero, List.set_cons_succ]
      refine wpL_end ?_
      go_wp2_with fail
      go_roundw
      case rel => exact ⟨k + 1, _, _, by go_num, H.out.next (r0 := ⟨M + 1, j, 0, j, 0, 0, k, ⟨#[]⟩, ⟨#[]⟩, ⟨#[]⟩⟩) hj (by show lc j < M + 1; omega) (by show M + 1 ≤ 9 + k; omega) hlt2 hl2 hb2⟩
      case measure => simp [intOf]; omega
    · have hbm := H.out.bel
      have hms : ∀ j, j < 3 → (rs j).length ≤ 256 := fun j hj => by
        have := sumTo_ge' (f := lenOf rs) 3 j hj
        rw [H.out.sum] at this
        have h2 : (rs j).length ≤ k := this
        omega
      have hlen : (pickOf rs (mergeAll rs 3)).length = k := by
        unfold mergeAll
        rw [pick_len (n := 3) (sumTo (lenOf rs) 3) (fun _ => 0) (by intro j hj; omega) (by rw [sumTo_zero]; omega), H.out.sum]
      have hkm := kept_merge (uc := uc) (uk := uk) (rs := rs) (n := 3) H.out.inc
      obtain ⟨all, hall⟩ : ∃ all, pickOf rs (mergeAll rs 3) = all := ⟨_, rfl⟩
      rw [hall] at hlen hkm
      clear hw0
      by_cases hlt1 : k < len0
      all_goals
        go_upto_region 9 with (go_at_call 22; refine (H.out.log.merge hms).mono ?_; rintro e wm ⟨v, rfl, hbm2, hv, hvl⟩)
        rw [hall, hlen] at hv
        obtain ⟨a2, cp2, rfl⟩ := own_form hv
        have hbwm : Below wa.heap.size wa wm := hbm.trans (hbm2.mono hbm.size)
        have HV := Lib.hid (And.intro hv (And.intro hbwm hbm2))
        clear hv hvl hbm2
        go_wp2_with fail
        go_loopw [12, 13] (fun v i wr2 => ∃ (i' m : Nat), i = .int .i64 i' ∧ i' ≤ k ∧ Below (wm.heap.size + 1) (wm.alloc (.cells #[.int .i64 uc, .int .i64 uk] 23)) wr2 ∧ wr2.ownsRow 0 45 10 v m (recs ((all.take i').filter fun r => !gone uc uk r)) ∧ ∀ b, v.ownBlock = some b → wm.heap.size + 1 ≤ b) (fun _ i _ => 61 - (intOf i).toNat)
        case atStart =>
          exact ⟨0, 0, rfl, by omega, Below.refl _ _, ⟨rfl, .inl ⟨rfl, rfl⟩⟩, by simp [Value.ownBlock]⟩
        case round =>
          rename World => wr2
          obtain ⟨i, m, rfl, hik, h2b, h2o, h2l⟩ := hrel
          have h2s : wm.heap.size + 1 ≤ wr2.heap.size := by have := h2b.size; simpa using this
          obtain ⟨a3, cp3, rfl⟩ := own_form h2o
          have hbW : Below wm.heap.size wm wr2 := ((Below.refl wm.heap.size wm).alloc (Nat.le_refl _) _).trans (h2b.mono (by omega))
          have iBm : Bel wm wr2 := ⟨hbW⟩
          have iU : BlockLt wm.heap.size wr2 := ⟨by omega⟩
          have hU := (Blk.new wm #[.int .i64 uc, .int .i64 uk] 23).below h2b (by omega)
          have u0 := hU.cell 0
          have u1 := hU.cell 1
          simp only [List.getElem?_toArray, List.getElem?_cons_zero, List.getElem?_cons_succ] at u0 u1
          have hml : m ≤ i := by
            have h1 := h2o.1
            rw [recs_len] at h1
            have h2 := List.length_filter_le (fun r => !gone uc uk r) (all.take i)
            have h3 : (all.take i).length ≤ i := by simp; omega
            omega
          have HW2 := Lib.hid (And.intro h2o h2l)
          clear h2o h2l
          by_cases hlt2 : i < k
          · obtain ⟨g, cap, r, e, glt, hr, hc⟩ := own_rec HV.out.1 hlt2
            injection e with e1 _ e3
            subst e1
            subst e3
            have iG : BlockLt g wr2 := ⟨by omega⟩
            have c1 : ∀ q, q < 10 → ∀ x, r.cells[q]? = some x → wr2.cell? ⟨g, i * 10 + q, none⟩ = some x := fun q hq x hx => (hbW.cell (p := ⟨g, _, none⟩) glt).trans (hc q hq x hx)
            have x0 := c1 0 (by omega) _ rfl
            have x1 := c1 1 (by omega) _ rfl
            have x2 := c1 2 (by omega) _ rfl
            have x3 := c1 3 (by omega) _ rfl
            have x4 := c1 4 (by omega) _ rfl
            have x5 := c1 5 (by omega) _ rfl
            have x6 := c1 6 (by omega) _ rfl
            have x7 := c1 7 (by omega) _ rfl
            have x8 := c1 8 (by omega) _ rfl
            have x9 := c1 9 (by omega) _ rfl
            simp only [Nat.add_zero] at x0
            clear hc c1
            by_cases hc1 : uc < r.c
            · have hg : gone uc uk r = false := gone_t (by first | omega | (have := hc2h.out; omega))
              have hown3 := (HW2.out.1.alloc (.cells #[.int .i64 r.c, .int .i64 r.k] 23))
              obtain ⟨j0, ji, jz0, jz1, jz2⟩ := info_parts info45
              go_wp2_with (at_builtin; refine wpList_append_own_at _ rfl (.tmp 88) (.tmp 93) 42 rfl 0 45 j0 _ 10 104 Try.underlying42 ji jz0 jz1 jz2 rfl (by decide) (.slice a3 m cp3) m _ rfl (hown3.alloc _) ⟨_, 0, none⟩ 1 1 r.cells rfl rfl (fun j' u hu => news_new _ r.cells 45 _ j' u hu) (by simp [Value.oneCell', Rec.cells]) (by unfold maxLen; omega) (by omega) (Nat.zero_le _) ?_)
              intro v' w1 hown1 hgrow _ hloc
              obtain ⟨a', cp', rfl⟩ := own_form hown1
              have HX := Lib.hid (And.intro hown1 (And.intro hgrow hloc))
              clear hown1 hgrow hloc
              go_wp2_with fail
              go_roundw
              case rel =>
                obtain ⟨hown1, hgrow, hloc⟩ := HX.out
                have ef : ((all.take (i + 1)).filter fun r => !gone uc uk r) = ((all.take i).filter fun r => !gone uc uk r) ++ [r] := by
                  rw [take_succ_of hr, List.filter_append]
                  simp [hg]
                have hW : Below (wm.heap.size + 1) (wm.alloc (.cells #[.int .i64 uc, .int .i64 uk] 23)) ((wr2.alloc (.cells #[.int .i64 r.c, .int .i64 r.k] 23)).alloc (.cells r.cells.toArray 45)) := (h2b.alloc h2s _).alloc (by have := h2s; simp; omega) _
                have hsz : ((wr2.alloc (.cells #[.int .i64 r.c, .int .i64 r.k] 23)).alloc (.cells r.cells.toArray 45)).heap.size = wr2.heap.size + 1 + 1 := by simp
                refine ⟨i + 1, m + 1, by go_num, by omega, hW.trans (((Keep.refl (fun b => (Value.slice a3 m cp3).ownBlock = some b) _).grown hgrow (fun b hb => .inl hb)).below (by simp; omega) (fun x hx h => by have := HW2.out.2 x h; omega)), by rw [ef, recs_add]; exact hown1, fun b hb => ?_⟩
                rcases hloc with h | h
                · exact HW2.out.2 b (h.symm.trans hb)
                · rw [h] at hb
                  injection hb with hb
                  have := h2s
                  omega
              case measure => simp [intOf]; omega
            · by_cases hc2 : r.c = uc
              · have hc2b : (r.c == uc) = true := beq_iff_eq.2 hc2
                have hc2h := Lib.hid hc2
                clear hc2
                by_cases hc3 : uk < r.k
                · have hg : gone uc uk r = false := gone_t (by first | omega | (have := hc2h.out; omega))
                  have hown3 := (HW2.out.1.alloc (.cells #[.int .i64 r.c, .int .i64 r.k] 23))
                  obtain ⟨j0, ji, jz0, jz1, jz2⟩ := info_parts info45
                  go_wp2_with (at_builtin; refine wpList_append_own_at _ rfl (.tmp 88) (.tmp 93) 42 rfl 0 45 j0 _ 10 104 Try.underlying42 ji jz0 jz1 jz2 rfl (by decide) (.slice a3 m cp3) m _ rfl (hown3.alloc _) ⟨_, 0, none⟩ 1 1 r.cells rfl rfl (fun j' u hu => news_new _ r.cells 45 _ j' u hu) (by simp [Value.oneCell', Rec.cells]) (by unfold maxLen; omega) (by omega) (Nat.zero_le _) ?_)
                  intro v' w1 hown1 hgrow _ hloc
                  obtain ⟨a', cp', rfl⟩ := own_form hown1
                  have HX := Lib.hid (And.intro hown1 (And.intro hgrow hloc))
                  clear hown1 hgrow hloc
                  go_wp2_with fail
                  go_roundw
                  case rel =>
                    obtain ⟨hown1, hgrow, hloc⟩ := HX.out
                    have ef : ((all.take (i + 1)).filter fun r => !gone uc uk r) = ((all.take i).filter fun r => !gone uc uk r) ++ [r] := by
                      rw [take_succ_of hr, List.filter_append]
                      simp [hg]
                    have hW : Below (wm.heap.size + 1) (wm.alloc (.cells #[.int .i64 uc, .int .i64 uk] 23)) ((wr2.alloc (.cells #[.int .i64 r.c, .int .i64 r.k] 23)).alloc (.cells r.cells.toArray 45)) := (h2b.alloc h2s _).alloc (by have := h2s; simp; omega) _
                    have hsz : ((wr2.alloc (.cells #[.int .i64 r.c, .int .i64 r.k] 23)).alloc (.cells r.cells.toArray 45)).heap.size = wr2.heap.size + 1 + 1 := by simp
                    refine ⟨i + 1, m + 1, by go_num, by omega, hW.trans (((Keep.refl (fun b => (Value.slice a3 m cp3).ownBlock = some b) _).grown hgrow (fun b hb => .inl hb)).below (by simp; omega) (fun x hx h => by have := HW2.out.2 x h; omega)), by rw [ef, recs_add]; exact hown1, fun b hb => ?_⟩
                    rcases hloc with h | h
                    · exact HW2.out.2 b (h.symm.trans hb)
                    · rw [h] at hb
                      injection hb with hb
                      have := h2s
                      omega
                  case measure => simp [intOf]; omega
                · have hg : gone uc uk r = true := gone_f (by first | omega | (have := hc2h.out; omega))
                  go_wp2_with fail
                  go_roundw
                  case rel =>
                    have ef : ((all.take (i + 1)).filter fun r => !gone uc uk r) = ((all.take i).filter fun r => !gone uc uk r) := by
                      rw [take_succ_of hr, List.filter_append]
                      simp [hg]
                    refine ⟨i + 1, m, by go_num, by omega, h2b.alloc h2s _, by rw [ef]; exact HW2.out.1.alloc _, HW2.out.2⟩
                  case measure => simp [intOf]; omega
              · have hc2b : (r.c == uc) = false := beq_eq_false_iff_ne.2 hc2
                have hg : gone uc uk r = true := gone_f (by first | omega | (have := hc2h.out; omega))
                go_wp2_with fail
                go_roundw
                case rel =>
                  have ef : ((all.take (i + 1)).filter fun r => !gone uc uk r) = ((all.take i).filter fun r => !gone uc uk r) := by
                    rw [take_succ_of hr, List.filter_append]
                    simp [hg]
                  refine ⟨i + 1, m, by go_num, by omega, h2b.alloc h2s _, by rw [ef]; exact HW2.out.1.alloc _, HW2.out.2⟩
                case measure => simp [intOf]; omega
          · obtain rfl : i = k := by omega
            have htk : all.take i = all := List.take_of_length_le (by omega)
            obtain ⟨want, hwant⟩ : ∃ want, (all.filter fun r => !gone uc uk r) = want := ⟨_, rfl⟩
            have hW2 := HW2.out.1
            rw [htk, hwant] at hW2
            rw [hwant] at hkm
            have hml2 : want.length = m := by have := hW2.1; rw [recs_len] at this; omega
            have hsumk : sumTo (lenOf (kept uc uk rs)) 3 = m := by
              have e := pick_len (rs := kept uc uk rs) (n := 3) (sumTo (lenOf (kept uc uk rs)) 3) (fun _ => 0) (by intro j hj; omega) (by rw [sumTo_zero]; omega)
              have e2 : pickOf (kept uc uk rs) (mergeFrom (lenOf (kept uc uk rs)) (stOf (kept uc uk rs)) 3 (sumTo (lenOf (kept uc uk rs)) 3) (fun _ => 0)) = want := hkm.symm
              rw [e2, hml2] at e
              exact e.symm
            have hlogm := H.out.log.below (HV.out.2.2.mono (Nat.le_refl _))
            have hlogx := (hlogm.mores (wm.heap.size :: (Value.slice a3 m cp3).ownBlock.toList) (fun y hy => by
              rcases List.mem_cons.1 hy with hy | hy
              · omega
              · have := HW2.out.2 y (Option.mem_toList.1 hy); omega)).below (hbW.mono (Nat.le_refl _))
            simp only [List.append_nil] at hlogx
            have hbw2 : Below wa.heap.size wa wr2 := HV.out.2.1.trans (hbW.mono HV.out.2.1.size)
            have hdrop := hlogx.drop hbw2.size hms uc uk
            rw [H.out.sum, hsumk] at hdrop
            go_upto_region 18 with (go_at_call 24; refine hdrop.mono ?_; rintro e w3 ⟨rfl, hk3, hl3⟩)
            have hU3 := hk3.out_blk hU List.mem_cons_self
            have hW3 := hk3.own hW2 (fun b hb e => e.2 (List.mem_cons_of_mem _ (Option.mem_toList.2 hb)))
            have hb3 := hbw2.trans (hk3.out_below hbw2.size)
            have iU3 := hU3.lt
            have v0 := hU3.cell 0
            have v1 := hU3.cell 1
            simp only [List.getElem?_toArray, List.getElem?_cons_zero, List.getElem?_cons_succ] at v0 v1
            have hms2 : ∀ j, j < 3 → (kept uc uk rs j).length ≤ 256 := fun j hj => Nat.le_trans (List.length_filter_le _ _) (hms j hj)
            have hdrop2 := hl3.drop hb3.size hms2 uc uk
            rw [kept_kept, Int.sub_self] at hdrop2
            clear hdrop hlogx hlogm
            go_upto_region 19 with (go_at_call 24; refine hdrop2.mono ?_; rintro e w4 ⟨rfl, hk4, hl4⟩)
            have hW4 := hk4.own hW3 (fun b hb e => e.2 (List.mem_cons_of_mem _ (Option.mem_toList.2 hb)))
            have hb4 := hb3.trans (hk4.out_below hb3.size)
            have iB4 : Bel wa w4 := ⟨hb4⟩
            have hpk : pickOf (kept uc uk rs) (mergeAll (kept uc uk rs) 3) = want := hkm.symm
            have hm60 : m ≤ 1000000 := by omega
            clear hdrop2 hW3 hU3 hU hW2
            go_wp2_with (first
              | (go_at_call 18; refine (num_any _ _).mono ?_; rintro e w' ⟨rfl, hb⟩; obtain ⟨p, rfl⟩ := hb.rest; clear hb)
              | (go_at_call 22; refine ((hl4.junk _).merge hms2).mono ?_; rintro e w6 ⟨v2, rfl, hb6, hv6, hl6⟩; rw [hpk, hml2] at hv6; obtain ⟨a6, cp6, rfl⟩ := own_form hv6; have hW6 := (Keep.of_below hb6 (fun _ => False)).own (((Keep.refl (fun _ => False) w4).junk _).own hW4 (fun _ _ e => e)) (fun _ _ e => e); have hb7 := (below_junk _ _ _ _ hb4 hb4.size).trans (hb6.mono (below_junk _ _ _ _ hb4 hb4.size).size))
              | (go_at_call 25; refine (same25 _ _ _ _ _ _ _ hm60 hv6 hW6).mono ?_; rintro e w7 ⟨rfl, hb8⟩))
            go_ret
            exact ⟨rfl, (hb.mono (Nat.le_refl _)).trans ((hb7.trans (hb8.mono hb7.size)).mono hb.size)⟩
end Go.Proofs.Ytpndplbomnjioaa
