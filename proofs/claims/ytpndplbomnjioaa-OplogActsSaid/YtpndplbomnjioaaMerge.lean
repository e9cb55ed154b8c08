/- Merge over a log of cores as it lies in memory. Conditions: none. -/
import Derived.Test.YtpndplbomnjioaaKit5
set_option linter.unusedVariables false
namespace Go.Proofs.Ytpndplbomnjioaa
open Go.RowKit
structure MergeAt (w : World) (n : Nat) (rs : Nat → List Rec) (hd : Nat → Nat) (tk : List (Nat × Nat)) (v : Value) (m : Nat) (wr : World) : Prop where
  bel : Below w.heap.size w wr
  hh : ∃ hc : Array Value, Blk wr w.heap.size hc 3 ∧ hc.size = n ∧ ∀ j, j < n → hc[j]? = some (.int .i64 (hd j))
  le : ∀ j, j < n → hd j ≤ (rs j).length
  own : wr.ownsRow 0 45 10 v m (recs (pickOf rs tk))
  loc : ∀ b, v.ownBlock = some b → w.heap.size < b
  sum : m = sumTo hd n
  all : mergeAll rs n = tk ++ mergeFrom (lenOf rs) (stOf rs) n (sumTo (lenOf rs) n - m) hd
set_option maxRecDepth 100000 in
set_option maxHeartbeats 2000000 in
theorem merge_ok {B : Nat} {w : World} {L A T n tc : Nat} {rv tv : Array Value} {rs : Nat → List Rec} {lc : Nat → Int} (h : LogAt B w L A T n tc rv tv (lenOf rs) (fun j => recs (rs j)) lc) (hms : ∀ j, j < n → (rs j).length ≤ 256) :
    Calls Try.prog 22 #[.pointer (some ⟨L, 0, none⟩)] w fun e w' => ∃ v, e = .returned v ∧ Below w.heap.size w w' ∧ w'.ownsRow 0 45 10 v (pickOf rs (mergeAll rs n)).length (recs (pickOf rs (mergeAll rs n))) ∧ ∀ b, v.ownBlock = some b → w.heap.size < b := by
  obtain ⟨i0, hi, hz0, hz1, hz2⟩ := info_parts info3
  have h8 := h.n8
  have hmk : ∀ u : World, (Instr.makeSlice 29 (.int .i64 n) (.int .i64 n)).run Try.prog u = .ok (.slice (some ⟨u.heap.size, 0, none⟩) n n) (u.alloc (.cells (madeCells #[.int .i64 0] n) 3)) := fun u => by
    have := run_makeSlice (P := Try.prog) u 29 3 i0 _ Try.underlying29 hi hz0 .i64 .i64 n n (by omega) (Int.le_refl _) (by rw [hz1]; omega) (by rw [hz2]; omega) (by omega)
    simpa [hz1, Value.cells] using this
  have iL := h.hL.lt
  have cL0 := h.hL.cell 0
  simp only [List.getElem?_toArray, List.getElem?_cons_zero] at cL0
  go_enter Try.func22, Try.ntmps22
  go_wp2_with fail
  go_loopw [3] (fun v wr => ∃ (hd : Nat → Nat) (tk : List (Nat × Nat)) (m : Nat), MergeAt w n rs hd tk v m wr) (fun v _ => match v with | .slice _ m _ => 3000 - m | _ => 0)
  case atStart =>
    refine ⟨fun _ => 0, [], 0, bel _ _, ⟨_, Blk.new_i _ _ _ _, by simp [madeCells], ?_⟩, by omega, ⟨rfl, .inl ⟨rfl, rfl⟩⟩, by simp [Value.ownBlock], (sumTo_zero n).symm, rfl⟩
    intro j hj
    simp [madeCells, hj, Nat.mod_one]
  case round =>
    obtain ⟨hd, tk, m, nb, ⟨hc, nh, nhs, nhc⟩, nle, nown, nloc, nsum, nall⟩ := hrel
    have iH := nh.lt
    have iBel : Bel w wr := ⟨nb⟩
    have hlog := h.below nb
    obtain ⟨a0, cp0, rfl⟩ := own_form nown
    have HH := Lib.hid (And.intro nh (And.intro nown (And.intro nloc (And.intro hlog (And.intro nsum (And.intro nall h))))))
    have NH := Lib.hid nhc
    have NL := Lib.hid nle
    have cL0 := hlog.hL.cell 0
    simp only [List.getElem?_toArray, List.getElem?_cons_zero] at cL0
    have iL := hlog.hL.lt
    clear nh nown nloc hlog h nhc nle nsum nall
    go_wp2_with fail
    go_loopw [5, 18] (fun l i wi => ∃ k : Nat, i = .int .i64 k ∧ k ≤ n ∧ l = .int .i64 (optI (leastOf rs hd k)) ∧ Below wr.heap.size wr wi) (fun _ i _ => n - (intOf i).toNat)
    case atStart => exact ⟨0, rfl, by omega, rfl, bel _ _⟩
    case round =>
      rename World => wi
      obtain ⟨k, rfl, hk, rfl, ib⟩ := hrel
      have iBel2 : Bel wr wi := ⟨ib⟩
      have hlog2 := HH.out.2.2.2.1.below ib
      have nh2 := HH.out.1.below ib iH.lt
      have iH2 := nh2.lt
      have iL2 := hlog2.hL.lt
      have iA2 := hlog2.hA.lt
      have dL0 := hlog2.hL.cell 0
      simp only [List.getElem?_toArray, List.getElem?_cons_zero] at dL0
      have H2 := Lib.hid (And.intro hlog2 nh2)
      clear hlog2 nh2
      by_cases hlt : k < n
      · obtain ⟨ak, ck, r1, r2, _⟩ := H2.out.1.row k hlt
        have cA := H2.out.1.hA.cell k
        rw [r1] at cA
        have cH := H2.out.2.cell k
        rw [NH.out k hlt] at cH
        by_cases hm : hd k < (rs k).length
        · obtain ⟨g, cap, e, glt, gc, hcell⟩ := own_cells r2 (by simp only [lenOf]; omega)
          injection e with e1 e2 e3
          subst e1
          subst e3
          have iG : BlockLt g wi := ⟨glt⟩
          rcases hle : leastOf rs hd k with _ | l
          · have hs := leastOf_succ_none hle hm
            clear r2
            simp only [optI, lenOf] at *
            go_wp2_with fail
            refine wp_region_quiet_rest (by kernel_rfl) (by kernel_rfl) (WQ.out ?_)
            repeat
              refine WQ_step (fun K hK => ?_)
              go_simp
              refine hK _ ?_
              clear hK K
            refine WQ_nil ?_
            intro w1 hw1
            obtain ⟨p, hw1⟩ := hw1
            subst hw1
            go_wp2_with fail
            go_roundw
            case rel => exact ⟨k + 1, by go_num, by omega, by rw [hs], bel _ _⟩
            case measure => simp [intOf]; omega
          · obtain ⟨hlk, hlm⟩ := leastTo_lt _ _ _ k l hle
            have hln : l < n := by omega
            have hlm' : hd l < (rs l).length := hlm
            obtain ⟨al, cl, q1, q2, _⟩ := H2.out.1.row l hln
            have cAl := H2.out.1.hA.cell l
            rw [q1] at cAl
            have cHl := H2.out.2.cell l
            rw [NH.out l hln] at cHl
            obtain ⟨g2, cap2, e, glt2, gc2, hcell2⟩ := own_cells q2 (by simp only [lenOf]; omega)
            injection e with e1 e2 e3
            subst e1
            subst e3
            have iG2 : BlockLt g2 wi := ⟨glt2⟩
            obtain ⟨r, hr⟩ : ∃ r, (rs k)[hd k]? = some r := ⟨_, List.getElem?_eq_getElem hm⟩
            obtain ⟨r', hr'⟩ : ∃ r', (rs l)[hd l]? = some r' := ⟨_, List.getElem?_eq_getElem hlm'⟩
            have d0 := hcell (hd k * 10) _ (by simp only [lenOf]; omega) (recs_at _ _ _ hr 0 (by omega))
            have d1 := hcell (hd k * 10 + 1) _ (by simp only [lenOf]; omega) (recs_at _ _ _ hr 1 (by omega))
            have f0 := hcell2 (hd l * 10) _ (by simp only [lenOf]; omega) (recs_at _ _ _ hr' 0 (by omega))
            have f1 := hcell2 (hd l * 10 + 1) _ (by simp only [lenOf]; omega) (recs_at _ _ _ hr' 1 (by omega))
            have hs := leastOf_succ_some hle hm hr hr'
            clear r2 q2 hcell hcell2
            simp only [optI, lenOf] at *
            go_wp2_with fail
            refine wp_region_quiet_rest (by kernel_rfl) (by kernel_rfl) (WQ.out ?_)
            rcases hb : lessB r.c r.k r'.c r'.k
            all_goals
              have hl : ∀ w, Calls Try.prog 13 #[.agg #[.int .i64 r.c, .int .i64 r.k], .agg #[.int .i64 r'.c, .int .i64 r'.k]] w _ := fun w => less_any r.c r.k r'.c r'.k w
              rw [hb] at hl hs
              repeat
                refine WQ_step (fun K hK => ?_)
                go_simp
                first
                  | (refine hK _ ?_; clear hK K)
                  | (apply Exists.intro
                     refine ⟨fun _ => ?_, hK _ ?_⟩
                     focus
                       refine calls_in (hl _) (fun w' hb => ?_)
                       first | exact rest1 hb | exact rest2 hb
                     clear hK K)
              refine WQ_nil ?_
              intro w1 hw1
              obtain ⟨p, hw1⟩ := hw1
              subst hw1
              go_wp2_with fail
              go_roundw
              case rel => exact ⟨k + 1, by go_num, by omega, by rw [hs]; rfl, bel _ _⟩
              case measure => simp [intOf]; omega
        · have hs := leastOf_succ_stay hm
          clear r2
          simp only [lenOf] at *
          go_wp2_with fail
          refine wp_region_quiet_rest (by kernel_rfl) (by kernel_rfl) (WQ.out ?_)
          repeat
            refine WQ_step (fun K hK => ?_)
            go_simp
            refine hK _ ?_
            clear hK K
          refine WQ_nil ?_
          intro w1 hw1
          obtain ⟨p, hw1⟩ := hw1
          subst hw1
          go_wp2_with fail
          go_roundw
          case rel => exact ⟨k + 1, by go_num, by omega, by rw [hs], bel _ _⟩
          case measure => simp [intOf]; omega
      · obtain rfl : k = n := by omega
        rcases hle : leastOf rs hd k with _ | l
        · simp only [optI] at *
          go_wp2_with fail
          obtain ⟨nh, nown, nloc, _, nsum, nall, _⟩ := HH.out
          have e0 : mergeAll rs k = tk := by
            rw [nall]
            cases sumTo (lenOf rs) k - m with
            | zero => simp [mergeFrom]
            | succ f =>
              have : leastTo (lenOf rs) hd (stOf rs) k = none := hle
              simp [mergeFrom, this]
          have e1 : (pickOf rs tk).length = m := by
            have := nown.1
            rw [recs_len] at this
            omega
          refine bodyPost_ret (v := .slice a0 m cp0) (by simp [results, Try.results22, go_sem]) rfl ⟨_, rfl, nb.trans (ib.mono nb.size), ?_, nloc⟩
          rw [e0, e1]
          exact (Keep.of_below ib (fun _ => False)).own nown (fun _ _ e => e)
        · obtain ⟨hlk, hlm⟩ := leastTo_lt _ _ _ k l hle
          have hlm' : hd l < (rs l).length := hlm
          obtain ⟨al, cl, q1, q2, _⟩ := H2.out.1.row l hlk
          have cAl := H2.out.1.hA.cell l
          rw [q1] at cAl
          have cHl := H2.out.2.cell l
          rw [NH.out l hlk] at cHl
          obtain ⟨g2, cap2, e, glt2, gc2, hcell2⟩ := own_cells q2 (by simp only [lenOf]; omega)
          injection e with e1 e2 e3
          subst e1
          subst e3
          have iG2 : BlockLt g2 wi := ⟨glt2⟩
          obtain ⟨r, hr⟩ : ∃ r, (rs l)[hd l]? = some r := ⟨_, List.getElem?_eq_getElem hlm'⟩
          have d0 := hcell2 (hd l * 10) _ (by simp only [lenOf]; omega) (recs_at _ _ _ hr 0 (by omega))
          have d1 := hcell2 (hd l * 10 + 1) _ (by simp only [lenOf]; omega) (recs_at _ _ _ hr 1 (by omega))
          have d2 := hcell2 (hd l * 10 + 2) _ (by simp only [lenOf]; omega) (recs_at _ _ _ hr 2 (by omega))
          have d3 := hcell2 (hd l * 10 + 3) _ (by simp only [lenOf]; omega) (recs_at _ _ _ hr 3 (by omega))
          have d4 := hcell2 (hd l * 10 + 4) _ (by simp only [lenOf]; omega) (recs_at _ _ _ hr 4 (by omega))
          have d5 := hcell2 (hd l * 10 + 5) _ (by simp only [lenOf]; omega) (recs_at _ _ _ hr 5 (by omega))
          have d6 := hcell2 (hd l * 10 + 6) _ (by simp only [lenOf]; omega) (recs_at _ _ _ hr 6 (by omega))
          have d7 := hcell2 (hd l * 10 + 7) _ (by simp only [lenOf]; omega) (recs_at _ _ _ hr 7 (by omega))
          have d8 := hcell2 (hd l * 10 + 8) _ (by simp only [lenOf]; omega) (recs_at _ _ _ hr 8 (by omega))
          have d9 := hcell2 (hd l * 10 + 9) _ (by simp only [lenOf]; omega) (recs_at _ _ _ hr 9 (by omega))
          have hwi : w.heap.size < wi.heap.size := iH2.lt
          have hgw : g2 < w.heap.size := by
            obtain ⟨aw, cw, p1, p2, _⟩ := HH.out.2.2.2.2.2.2.row l hlk
            rw [q1] at p1
            injection p1 with p1
            exact own_lt p2 (by rw [← p1]; rfl)
          have hAw : A < w.heap.size := HH.out.2.2.2.2.2.2.hA.lt.lt
          have hown2 := (Keep.of_below ib (fun _ => False)).own HH.out.2.1 (fun _ _ e => e)
          have nL := Lib.hid (own_ne_blk hown2 H2.out.1.hL (by decide))
          have nA := Lib.hid (own_ne_blk hown2 H2.out.1.hA (by decide))
          have nH := Lib.hid (own_ne_blk hown2 H2.out.2 (by decide))
          have nG := Lib.hid (show (Value.slice a0 m cp0).ownBlock ≠ some g2 from fun e => by have := HH.out.2.2.1 _ e; omega)
          have H3 := Lib.hid hown2
          clear hown2
          clear q2 hcell2
          have hS : m < sumTo (lenOf rs) k := by
            rw [HH.out.2.2.2.2.1]
            exact sumTo_lt k NL.out hlk hlm
          have hS2 : sumTo (lenOf rs) k ≤ k * 256 := sumTo_const k hms
          have hk8 : k * 256 ≤ 8 * 256 := Nat.mul_le_mul_right _ h8
          have hl256 : (rs l).length ≤ 256 := hms l hlk
          have fH := H2.out.2.frozen l
          simp only [optI, lenOf] at *
          obtain ⟨j0, ji, jz0, jz1, jz2⟩ := info_parts info45
          go_wp2_with fail
          refine wp_region_eff [14, 15] false (fun w' => w'.cell? ⟨L, 0, none⟩ = some (.slice (some ⟨A, 0, none⟩) k k) ∧ w'.cell? ⟨A, l, none⟩ = some (.slice (some ⟨g2, 0, none⟩) (rs l).length cl) ∧ w'.cell? ⟨w.heap.size, l, none⟩ = some (.int .i64 (hd l)) ∧ w'.cell? ⟨g2, hd l * 10, none⟩ = some (.int .i64 r.c) ∧ w'.cell? ⟨g2, hd l * 10 + 1, none⟩ = some (.int .i64 r.k) ∧ w'.cell? ⟨g2, hd l * 10 + 2, none⟩ = some (.int .i64 r.kind) ∧ w'.cell? ⟨g2, hd l * 10 + 3, none⟩ = some (.int .i64 r.core) ∧ w'.cell? ⟨g2, hd l * 10 + 4, none⟩ = some (.int .i64 r.fd) ∧ w'.cell? ⟨g2, hd l * 10 + 5, none⟩ = some (.int .i64 r.off) ∧ w'.cell? ⟨g2, hd l * 10 + 6, none⟩ = some (.int .i64 r.num) ∧ w'.cell? ⟨g2, hd l * 10 + 7, none⟩ = some (.string r.path) ∧ w'.cell? ⟨g2, hd l * 10 + 8, none⟩ = some (.string r.path2) ∧ w'.cell? ⟨g2, hd l * 10 + 9, none⟩ = some (.string r.data)) (by kernel_rfl) (by kernel_rfl) ?_ ?_
          · (try dsimp only); (repeat' apply And.intro) <;> go_simp
          repeat
            refine wpL_look rfl rfl ?_
            apply Exists.intro
            refine ⟨?_, ?_⟩
            focus
              rintro w' ⟨s0, s1, s2, s3, s4, s5, s6, s7, s8, s9, s10, s11, s12⟩
              go_simp
              first | done | rfl
            simp only [Act.put, List.setIfInBounds_toArray, List.set_cons_zero, List.set_cons_succ]
          refine wpL_do rfl rfl ?_
          apply Exists.intro
          apply Exists.intro
          refine ⟨?_, ?_, ?_⟩
          focus
            go_simp
            exact ⟨rfl, rfl⟩
          focus
            refine .inl ?_
            (try dsimp only); (repeat' apply And.intro) <;> go_simp
          simp only [Act.put, List.setIfInBounds_toArray, List.set_cons_zero, List.set_cons_succ]
          refine wpL_act rfl rfl ?_
          refine eff_append (.tmp 70) (.tmp 84) 42 ?e00 0 45 j0 _ 10 104 Try.underlying42 ji jz0 jz1 jz2 ?e9 ?e10 (.slice a0 m cp0) m (recs (pickOf rs tk)) ?e1 ?e2 ?ad 1 1 r.cells ?e3 ?e4 ?news ?e5 ?e6 ?e7 (Nat.zero_le _) ?_
          case e00 => rfl
          case e9 => rfl
          case e10 => decide
          case e1 => rfl
          case e3 => rfl
          case e4 => rfl
          case e2 => exact own_drew (H3.out.alloc _)
          case e5 => simp [Value.oneCell', Rec.cells]
          case e6 => unfold maxLen; omega
          case e7 => omega
          case news => exact (fun j' u hu => by simp only [World.cell?_drew]; exact news_new wi r.cells 45 wi.heap.size j' u hu)
          intro v' w1 hown1 hgrow hloc
          obtain ⟨a', cp', rfl⟩ := own_form hown1
          have HX := Lib.hid (And.intro hown1 (And.intro hgrow hloc))
          clear hown1 hloc
          have iH1 : BlockLt w.heap.size w1 := grown_lt hgrow
          have e1 := grown_cells hgrow (b := L) nL.out
          have e2 := grown_cells hgrow (b := A) nA.out
          have e3 := grown_cells hgrow (b := w.heap.size) nH.out
          have e4 := grown_cells hgrow (b := g2) nG.out
          have e5 := grown_frozen hgrow (b := w.heap.size) nH.out
          clear hgrow
          refine ⟨.inl ?_, ?_⟩
          focus
            (try dsimp only); (repeat' apply And.intro) <;> go_simp
          simp only [Act.put, List.setIfInBounds_toArray, List.set_cons_zero, List.set_cons_succ]
          refine wpL_look rfl rfl ?_
          apply Exists.intro
          refine ⟨?_, ?_⟩
          focus
            rintro w' ⟨s0, s1, s2, s3, s4, s5, s6, s7, s8, s9, s10, s11, s12⟩
            go_simp
            first | done | rfl
          simp only [Act.put, List.setIfInBounds_toArray, List.set_cons_zero, List.set_cons_succ]
          refine wpL_end ?_
          go_wp2_with fail
          go_roundw
          case rel =>
            obtain ⟨hown1, hgrow, hloc⟩ := HX.out
            have K1 : Keep (fun b => (Value.slice a0 m cp0).ownBlock = some b) wi w1 := (((Keep.refl _ wi).alloc _).drew).grown hgrow (fun b hb => .inl hb)
            have hH1 := K1.blk H2.out.2 nH.out
            have K2 : Keep (fun b => b = w.heap.size ∨ (Value.slice a0 m cp0).ownBlock = some b) wi (w1.setCell { block := w.heap.size, off := l } (Value.int IntKind.i64 (↑(hd l) + 1))) := (K1.mono (fun i _ h => .inr h)).setCell (p := ⟨_, _, _⟩) (.inl (.inl rfl)) _
            have hbw : Below w.heap.size w wi := nb.trans (ib.mono nb.size)
            have hp : pickOf rs (tk ++ [(l, hd l)]) = pickOf rs tk ++ [r] := by simp [pickOf, hr]
            refine ⟨upd hd l (hd l + 1), tk ++ [(l, hd l)], m + 1, hbw.trans (K2.below (Nat.le_of_lt hwi) (fun i hi hs => ?_)), ⟨_, hH1.set_ l _, ?_, ?_⟩, ?_, ?_, ?_, ?_, ?_⟩
            · rcases hs with hs | hs
              · omega
              · have := HH.out.2.2.1 _ hs; omega
            · simpa using nhs
            · intro j hj
              unfold upd
              by_cases e : j = l
              · subst e
                rw [if_pos rfl, Array.getElem?_setIfInBounds_self_of_lt (by omega)]
                rfl
              · rw [if_neg e, Array.getElem?_setIfInBounds_ne (fun e' => e e'.symm)]
                exact NH.out j hj
            · intro j hj
              unfold upd
              by_cases e : j = l
              · subst e
                rw [if_pos rfl]
                exact hlm'
              · rw [if_neg e]
                exact NL.out j hj
            · rw [hp, recs_add]
              exact ((Keep.refl (fun b => b = w.heap.size) w1).setCell (p := ⟨w.heap.size, _, _⟩) (.inl rfl) _).own hown1 (fun b hb e => own_ne_blk hown1 hH1 (by decide) (by rw [hb, e]))
            · intro b hb
              rcases hloc with h | h
              · exact HH.out.2.2.1 b (h.symm.trans hb)
              · rw [h] at hb; injection hb with hb; simp at hb; omega
            · rw [sumTo_upd, if_pos hlk, HH.out.2.2.2.2.1]
            · rw [HH.out.2.2.2.2.2.1]
              obtain ⟨f, hf⟩ : ∃ f, sumTo (lenOf rs) k - m = f + 1 := ⟨sumTo (lenOf rs) k - m - 1, by omega⟩
              have hf2 : sumTo (lenOf rs) k - (m + 1) = f := by omega
              have hle' : leastTo (lenOf rs) hd (stOf rs) k = some l := hle
              rw [hf, hf2, List.append_assoc]
              simp [mergeFrom, hle']
          case measure =>
            show 3000 - (m + 1) < 3000 - m
            omega
end Go.Proofs.Ytpndplbomnjioaa
