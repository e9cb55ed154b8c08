/- The walk of the statement on logs under any calls. Conditions: none. -/
import Derived.Test.YtpndplbomnjioaaTwo
import Derived.Test.YtpndplbomnjioaaActsOpen
set_option linter.unusedVariables false
namespace Go.Proofs.Ytpndplbomnjioaa
open Go.RowKit
theorem last_bad (L A n : Nat) (j : Int) (w : World) (iL : BlockLt L w) (hL0 : w.cell? ⟨L, 0, none⟩ = some (.slice (some ⟨A, 0, none⟩) n n)) (hj : ¬ (0 ≤ j ∧ j < n)) :
    Calls Try.prog 23 #[.pointer (some ⟨L, 0, none⟩), .int .i64 j] w fun e w' => e = .returned (.agg #[.int .i64 0, .int .i64 0]) ∧ Below w.heap.size w w' := by
  go_enter Try.func23, Try.ntmps23
  go_wp2_with (go_at_call 32; refine (core_any L A n _ _ (by go_simp)).mono ?_; rintro e w' ⟨rfl, hb⟩; obtain ⟨p, rfl⟩ := hb.rest; clear hb; simp only [hj])
  refine bodyPost_ret (v := .agg #[.int .i64 0, .int .i64 0]) (by simp [results, Try.results23, go_sem]) rfl ⟨rfl, bel _ _⟩
theorem Two.drew {B B2 : Nat} {w : World} {L L2 n : Nat} {rs rs2 : Nat → List Rec} {lc lc2 : Nat → Int} {C1 C2 : List Nat} (h : Two B B2 w L L2 n rs rs2 lc lc2 C1 C2) : Two B B2 w.drew L L2 n rs rs2 lc lc2 C1 C2 :=
  ⟨h.log.drew, h.ref.drew, h.in1, h.in2, h.cover, h.b12, h.b1, h.b2⟩
theorem pick_le {rs : Nat → List Rec} {n : Nat} (hms : ∀ j, j < n → (rs j).length ≤ 256) (h8 : n ≤ 8) : (pickOf rs (mergeAll rs n)).length ≤ 1000000 := by
  unfold mergeAll
  rw [pick_len (n := n) (sumTo (lenOf rs) n) (fun _ => 0) (by intro j hj; omega) (by rw [sumTo_zero]; omega)]
  have h1 := sumTo_const (f := lenOf rs) n hms
  have h2 : n * 256 ≤ 8 * 256 := Nat.mul_le_mul_right _ h8
  omega
set_option maxRecDepth 100000 in
theorem acts_bad (cores : Int) (a : Option Addr) (len cap : Nat) (w : World) (h : cores < 1 ∨ 8 < cores) :
    Calls Try.prog 10 #[.int .i64 cores, .slice a len cap] w fun e w' => e = .returned (.bool true) ∧ Below w.heap.size w w' := by
  go_enter Try.func10, Try.ntmps10
  go_wp2_with (first
    | (go_at_call 20; refine (new_bad cores h _).mono ?_; rintro e w' ⟨rfl, hb⟩; obtain ⟨p, rfl⟩ := hb.rest; clear hb)
    | (go_at_call 26; refine (newref_bad cores h _).mono ?_; rintro e w' ⟨rfl, hb⟩; obtain ⟨p, rfl⟩ := hb.rest; clear hb)
    | (go_at_call 18; refine (num_any _ _).mono ?_; rintro e w' ⟨rfl, hb⟩; obtain ⟨p, rfl⟩ := hb.rest; clear hb)
    | (go_at_call 19; refine (awake17 _).mono ?_; rintro e w' ⟨rfl, hb⟩; obtain ⟨p, rfl⟩ := hb.rest; clear hb))
  go_ret
  exact ⟨rfl, bel _ _⟩
set_option maxRecDepth 100000 in
set_option maxHeartbeats 4000000 in
theorem acts_good (n : Nat) (h1 : 1 ≤ n) (h8 : n ≤ 8) (a0 : Option Addr) (len0 cap0 : Nat) (w : World) (w0 : IsActs w a0 len0 cap0) :
    Calls Try.prog 10 #[.int .i64 n, .slice a0 len0 cap0] w fun e w' => e = .returned (.bool true) ∧ Below w.heap.size w w' := by
  have l0 := w0.len_le
  have hn1 : ¬ (n : Int) < 1 := by omega
  go_enter Try.func10, Try.ntmps10
  go_upto_region 2 with (go_at_call 20; refine (new_log n h1 h8 _).mono ?_; rintro e wa ⟨rfl, hba, hla⟩)
  go_upto_region 3 with (go_at_call 26; refine (newref_ok n h1 h8 _).mono ?_; rintro e wb ⟨L2, rfl, hbb, hlb⟩)
  have htwo := Two.new hba hbb hla hlb
  have hbw : Below w.heap.size w wb := hba.trans (hbb.mono hba.size)
  have iB : Bel w wb := ⟨hbw⟩
  have hba' := hba.size
  clear hla hlb
  go_wp2_with (go_at_call 18; refine (num_any _ _).mono ?_; rintro e w' ⟨rfl, hb⟩; obtain ⟨p, rfl⟩ := hb.rest; clear hb)
  go_loopw [9] (fun i wr => ∃ (k : Nat) (rs : Nat → List Rec) (lc : Nat → Int) (C1 C2 : List Nat), i = .int .i64 k ∧ k ≤ 200 ∧ Below w.heap.size w wr ∧ RowsInv rs lc n ∧ Two w.heap.size wa.heap.size wr (w.heap.size + 1) L2 n rs rs lc lc C1 C2) (fun i _ => 201 - (intOf i).toNat)
  case atStart =>
    exact ⟨0, fun _ => [], fun _ => 0, _, _, rfl, by omega, bel _ _, ⟨⟨by simp, by simp⟩, by simp, by simp⟩, htwo.grow (below_of_junk wb _)⟩
  case round =>
    obtain ⟨k, rs, lc, C1, C2, rfl, hk, hbr, inv, two⟩ := hrel
    have iBr : Bel w wr := ⟨hbr⟩
    clear htwo hbw iB hba hbb
    by_cases hlt : k < len0 ∧ k < 200
    · obtain ⟨hlt, hlt2⟩ := hlt
      obtain ⟨b0, off0, z, rfl, hb0, hz⟩ := w0.at_ hlt
      have iB0 : BlockLt b0 wr := ⟨Nat.lt_of_lt_of_le hb0 hbr.size⟩
      have cz : ∀ t, t < 11 → ∀ v, z.cells[t]? = some v → wr.cell? ⟨b0, off0 + k * 11 + t, none⟩ = some v := fun t ht v hv => (hbr.cell (p := ⟨b0, _, none⟩) hb0).trans (hz t ht v hv)
      have z0 := cz 0 (by omega) _ rfl
      have z1 := cz 1 (by omega) _ rfl
      have z2 := cz 2 (by omega) _ rfl
      have z3 := cz 3 (by omega) _ rfl
      have z4 := cz 4 (by omega) _ rfl
      have z5 := cz 5 (by omega) _ rfl
      have z6 := cz 6 (by omega) _ rfl
      have z7 := cz 7 (by omega) _ rfl
      have z8 := cz 8 (by omega) _ rfl
      have z9 := cz 9 (by omega) _ rfl
      have z10 := cz 10 (by omega) _ rfl
      simp only [Nat.add_zero] at z0
      clear hz cz
      have hx := Blk.new wr #[.int .i64 z.act, .int .i64 z.kind, .int .i64 z.core, .int .i64 z.fd, .int .i64 z.off, .int .i64 z.num, .string z.path, .string z.path2, .string z.data, .int .i64 z.sc, .int .i64 z.sk] 58
      have hbX : Below wr.heap.size wr (wr.alloc (.cells #[.int .i64 z.act, .int .i64 z.kind, .int .i64 z.core, .int .i64 z.fd, .int .i64 z.off, .int .i64 z.num, .string z.path, .string z.path2, .string z.data, .int .i64 z.sc, .int .i64 z.sk] 58)) := (Below.refl _ wr).alloc (Nat.le_refl _) _
      have twoX := two.grow hbX
      have hX1 : wr.heap.size ∈ fresh wr (wr.alloc (.cells #[.int .i64 z.act, .int .i64 z.kind, .int .i64 z.core, .int .i64 z.fd, .int .i64 z.off, .int .i64 z.num, .string z.path, .string z.path2, .string z.data, .int .i64 z.sc, .int .i64 z.sk] 58)) := mem_fresh.2 ⟨Nat.le_refl _, by simp⟩
      have hbwX := hbr.trans (hbX.mono hbr.size)
      generalize fresh wr (wr.alloc (.cells #[.int .i64 z.act, .int .i64 z.kind, .int .i64 z.core, .int .i64 z.fd, .int .i64 z.off, .int .i64 z.num, .string z.path, .string z.path2, .string z.data, .int .i64 z.sc, .int .i64 z.sk] 58)) = FX at twoX hX1
      by_cases hact : z.act < 6
      · obtain ⟨c, kk, code, rs', lc', inv', hA, hRr⟩ := add_two inv z.kind z.core z.fd z.off z.num z.path z.path2 z.data z.sc z.sk
        go_upto_region 15 with (go_at_call 21; refine (hA _ _ _ _ twoX.log twoX.b1 twoX.in1).mono ?_; rintro e wc ⟨rfl, hk2, hl2⟩)
        have two1 := twoX.afterLog hk2 hl2
        have hx1 := hk2.out_blk hx (List.mem_append_left _ hX1)
        have hbc := hbwX.trans (hk2.out_below hbwX.size)
        have hbY : Below wc.heap.size wc (wc.alloc (.cells #[.int .i64 c, .int .i64 kk] 23)) := (Below.refl _ wc).alloc (Nat.le_refl _) _
        have two2 := two1.grow hbY
        have hy := Blk.new wc #[.int .i64 c, .int .i64 kk] 23
        have hY1 : wc.heap.size ∈ fresh wc (wc.alloc (.cells #[.int .i64 c, .int .i64 kk] 23)) := mem_fresh.2 ⟨Nat.le_refl _, by simp⟩
        have hbwY := hbc.trans (hbY.mono hbc.size)
        have iXc := hx1.lt
        have x0 := hx1.cell 0
        have x1 := hx1.cell 1
        have x2 := hx1.cell 2
        have x3 := hx1.cell 3
        have x4 := hx1.cell 4
        have x5 := hx1.cell 5
        have x6 := hx1.cell 6
        have x7 := hx1.cell 7
        have x8 := hx1.cell 8
        have x9 := hx1.cell 9
        have x10 := hx1.cell 10
        simp only [List.getElem?_toArray, List.getElem?_cons_zero, List.getElem?_cons_succ] at x0 x1 x2 x3 x4 x5 x6 x7 x8 x9 x10
        go_upto_region 16 with (go_at_call 27; refine (hRr _ _ _ _ two2.ref two2.b2 two2.in2).mono ?_; rintro e wd ⟨rfl, hk3, hl3⟩)
        have two3 := two2.afterRef hk3 hl3
        have hy1 := hk3.out_blk hy (List.mem_append_left _ hY1)
        have hbd : Below w.heap.size w wd := hbwY.trans (hk3.below hbwY.size (fun i hi e => by have := e.1; have := hba'; omega))
        have iYd := hy1.lt
        have q0 := hy1.cell 0
        have q1 := hy1.cell 1
        simp only [List.getElem?_toArray, List.getElem?_cons_zero, List.getElem?_cons_succ] at q0 q1
        have iBd : Bel w wd := ⟨hbd⟩
        have TW := Lib.hid two3
        clear two two1 two2 two3 twoX hx hx1 hy hy1 hA hRr hk2 hl2 hk3 hl3
        go_wp2_with (go_at_call 18; refine (num_any _ _).mono ?_; rintro e w' ⟨rfl, hb⟩; obtain ⟨p, rfl⟩ := hb.rest; clear hb)
        go_roundw
        case rel =>
          exact ⟨k + 1, rs', lc', _, _, by go_num, by omega, bel _ _, inv', TW.out.grow (w' := (wd.alloc (.cells #[.int .i64 c, .int .i64 kk] 23)).junk p) (bel _ _)⟩
        case measure => simp [intOf]; omega
      · have hact1 : ¬ (z.act < 6) := hact
        by_cases hact2 : z.act = 6
        · have hact3 : (z.act == 6) = true := beq_iff_eq.2 hact2
          have HA2 := Lib.hid hact2
          clear hact2
          go_upto_region 19 with fail
          refine wp_region_eff [3, 7] false (fun w' => w'.cell? ⟨wr.heap.size, 9, none⟩ = some (.int .i64 z.sc) ∧ w'.cell? ⟨wr.heap.size, 10, none⟩ = some (.int .i64 z.sk)) (by kernel_rfl) (by kernel_rfl) ?_ ?_
          · (try dsimp only); (repeat' apply And.intro) <;> go_simp
          repeat
            refine wpL_look rfl rfl ?_
            apply Exists.intro
            refine ⟨?_, ?_⟩
            focus
              rintro w' ⟨s0, s1⟩
              go_simp
              first | done | rfl
            simp only [Act.put, List.setIfInBounds_toArray, List.set_cons_zero, List.set_cons_succ]
          have hdrop := twoX.drew.log.drop twoX.drew.b1 inv.len z.sc z.sk
          have hdr2 : ∀ (w' : World) (C : List Nat), RRef wa.heap.size C w' L2 n rs lc → wa.heap.size ≤ w'.heap.size → (∀ x ∈ C, x < w'.heap.size) → Calls Try.prog 28 _ w' _ := fun w' C h hB hC => h.drop hB hC inv.len z.sc z.sk
          generalize ((sumTo (lenOf rs) n : Int) - sumTo (lenOf (kept z.sc z.sk rs)) n) = D at hdrop hdr2
          refine wpL_act rfl rfl ?_
          refine eff_call 24 #[.pointer (some ⟨w.heap.size + 1, 0, none⟩), .agg #[.int .i64 z.sc, .int .i64 z.sk]] ?hr ?_
          case hr =>
            go_simp
            first | done | rfl
          refine hdrop.mono ?_
          rintro e w1 ⟨rfl, hk2, hl2⟩
          have two1 := twoX.drew.afterLog hk2 hl2
          have hx1 := hk2.out_blk hx.drew (List.mem_append_left _ hX1)
          have iX1 := hx1.lt
          have y9 := hx1.cell 9
          have y10 := hx1.cell 10
          simp only [List.getElem?_toArray, List.getElem?_cons_zero, List.getElem?_cons_succ] at y9 y10
          refine ⟨_, rfl, .inl ⟨y9, y10⟩, ?_⟩
          simp only [Act.put, List.setIfInBounds_toArray, List.set_cons_zero, List.set_cons_succ]
          repeat
            refine wpL_look rfl rfl ?_
            apply Exists.intro
            refine ⟨?_, ?_⟩
            focus
              rintro w' ⟨s0, s1⟩
              go_simp
              first | done | rfl
            simp only [Act.put, List.setIfInBounds_toArray, List.set_cons_zero, List.set_cons_succ]
          refine wpL_act rfl rfl ?_
          refine eff_call 28 #[.pointer (some ⟨L2, 0, none⟩), .agg #[.int .i64 z.sc, .int .i64 z.sk]] ?hr2 ?_
          case hr2 =>
            go_simp
            first | done | rfl
          refine (hdr2 _ _ two1.ref two1.b2 two1.in2).mono ?_
          rintro e w2 ⟨rfl, hk3, hl3⟩
          have two3 := two1.afterRef hk3 hl3
          have hx2 := hk3.out_blk hx1 (List.mem_append_right _ (List.mem_append_left _ hX1))
          have y9' := hx2.cell 9
          have y10' := hx2.cell 10
          simp only [List.getElem?_toArray, List.getElem?_cons_zero, List.getElem?_cons_succ] at y9' y10'
          have hb1 : Below w.heap.size w w1 := hbwX.drew.trans (hk2.out_below hbwX.size)
          have hb2 : Below w.heap.size w w2 := hb1.trans (hk3.below hb1.size (fun i hi e => by have := e.1; omega))
          refine ⟨_, rfl, .inl ⟨y9', y10'⟩, ?_⟩
          simp only [Act.put, List.setIfInBounds_toArray, List.set_cons_zero, List.set_cons_succ]
          repeat
            refine wpL_look rfl rfl ?_
            apply Exists.intro
            refine ⟨?_, ?_⟩
            focus
              rintro w' ⟨s0, s1⟩
              go_simp
              first | done | rfl
            simp only [Act.put, List.setIfInBounds_toArray, List.set_cons_zero, List.set_cons_succ]
          refine wpL_end ?_
          have iB2 : Bel w w2 := ⟨hb2⟩
          have TW := Lib.hid two3
          clear two two1 two3 twoX hx hx1 hx2 hk2 hl2 hk3 hl3 hdrop hdr2
          go_wp2_with fail
          go_roundw
          case rel => exact ⟨k + 1, _, lc, _, _, by go_num, by omega, hb2, rowsInv_kept inv, TW.out⟩
          case measure => simp [intOf]; omega
        · have hact3 : (z.act == 6) = false := beq_eq_false_iff_ne.2 hact2
          have hmg := merged_ok twoX.log twoX.ref inv.ok inv.len (pick_le inv.len h8)
          have TW := Lib.hid (And.intro twoX hbwX)
          clear two twoX hx
          go_wp2_with (go_at_call 29; refine hmg.mono ?_; rintro e w' ⟨rfl, hb⟩; obtain ⟨p, rfl⟩ := hb.rest; clear hb)
          go_roundw
          case rel => exact ⟨k + 1, rs, lc, _, _, by go_num, by omega, bel _ _, inv, TW.out.1.grow (below_of_junk _ p)⟩
          case measure => simp [intOf]; omega
    · have T := Lib.hid two
      have hplen := pick_le inv.len h8
      clear two w0
      by_cases hlt1 : k < len0
      all_goals
        go_wp2_with fail
        go_loopw [15] (fun s15 wx => ∃ c : Nat, s15 = .int .i64 c ∧ c ≤ n ∧ Below wr.heap.size wr wx) (fun s15 _ => 9 - (intOf s15).toNat)
        case atStart => exact ⟨0, rfl, by omega, bel _ _⟩
        case round =>
          rename World => wx
          obtain ⟨c, rfl, hcn, hbx⟩ := hrel
          have iBx : Bel wr wx := ⟨hbx⟩
          have hLx := T.out.log.below hbx
          have hRx := T.out.ref.below hbx
          by_cases hlt2 : c < n
          · have hcore := hLx.core c hlt2 (inv.len c hlt2)
            go_upto_region 25 with (go_at_call 30; refine hcore.mono ?_; rintro e w1 ⟨v, rfl, hb1, hv, hvl⟩)
            obtain ⟨a1, cp1, rfl⟩ := own_form hv
            have hL1 := hLx.below hb1
            obtain ⟨A2, T2, tc2, rv2, tv2, hr2, _⟩ := hRx.below hb1
            have jL := hr2.hL.lt
            have jA := hr2.hA.lt
            have jT := hr2.hT.lt
            have cL0 := hr2.hL.cell 0
            have cL1 := hr2.hL.cell 1
            simp only [List.getElem?_toArray, List.getElem?_cons_zero, List.getElem?_cons_succ] at cL0 cL1
            obtain ⟨a2, cp2, r1, r2, r3⟩ := hr2.row c hlt2
            have cA := hr2.hA.cell c
            rw [r1] at cA
            have e0 : lenOf rs c = (rs c).length := rfl
            rw [e0] at cA r2
            have cT0 := hr2.hT.cell (c * 2)
            have cT1 := hr2.hT.cell (c * 2 + 1)
            rw [hr2.t0 c hlt2] at cT0
            rw [hr2.t1 c hlt2] at cT1
            have hlc := inv.len c hlt2
            have hbw1 : Below wr.heap.size wr w1 := hbx.trans (hb1.mono hbx.size)
            have H := Lib.hid (And.intro hv (And.intro r2 hL1))
            have hsame : ∀ p : Behind, Calls Try.prog 25 #[.slice a1 (rs c).length cp1, .slice a2 (rs c).length cp2] (w1.junk p) fun e w' => e = .returned (.bool true) ∧ Below (w1.junk p).heap.size (w1.junk p) w' := fun p => same25 _ _ _ _ _ _ _ (by omega) (((Keep.refl (fun _ => False) w1).junk p).own H.out.1 (fun _ _ e => e)) (((Keep.refl (fun _ => False) w1).junk p).own H.out.2.1 (fun _ _ e => e))
            clear hcore hr2 r1 r2 r3 hL1 hv e0
            refine wp_region_quiet_rest (by kernel_rfl) (by kernel_rfl) (WQ.out ?_)
            repeat
              refine WQ_step (fun K hK => ?_)
              go_simp
              first
                | (refine hK _ ?_; clear hK K)
                | (apply Exists.intro
                   refine ⟨fun _ => ?_, hK _ ?_⟩
                   focus
                     first
                       | (go_at_call 25; refine calls_in (hsame _) (fun w' hb => ?_); first | exact rest1 hb | exact rest2 hb)
                       | (go_at_call 23; refine calls_in ((H.out.2.2.junk _).last c hlt2) (fun w' hb => ?_); first | exact rest1 hb | exact rest2 hb)
                   clear hK K)
            refine WQ_nil ?_
            intro w2 hw2
            obtain ⟨p, hw2⟩ := hw2
            subst hw2
            go_wp2_with (go_at_call 31; refine (spoil31 _ _ _ _ (rs c) (by omega) (((Keep.refl (fun _ => False) w1).junk p).own H.out.1 (fun _ _ e => e))).mono ?_; rintro e w3 ⟨rfl, hk3⟩)
            go_roundw
            case rel =>
              have hbp : Below wr.heap.size wr (w1.junk p) := below_junk _ _ _ _ hbw1 hbw1.size
              exact ⟨c + 1, by go_num, by omega, hbp.trans (hk3.below hbp.size (fun i hi e => by have := hvl i e; have := hbx.size; omega))⟩
            case measure => simp [intOf]; omega
          · obtain rfl : c = n := by omega
            have hmg := merged_ok hLx hRx inv.ok inv.len hplen
            obtain ⟨A, T1, tc, rv, tv, hA, _⟩ := id hLx
            have iL := hA.hL.lt
            have cL0 := hA.hL.cell 0
            simp only [List.getElem?_toArray, List.getElem?_cons_zero] at cL0
            clear hA hLx hRx
            go_wp2_with (first
              | (go_at_call 29; refine hmg.mono ?_; rintro e w' ⟨rfl, hb⟩; obtain ⟨p, rfl⟩ := hb.rest; clear hb)
              | (go_at_call 30; refine (core_bad _ A c _ _ (by go_simp) (by omega)).mono ?_; rintro e w' ⟨rfl, hb⟩; obtain ⟨p, rfl⟩ := hb.rest; clear hb)
              | (go_at_call 23; refine (last_bad _ A c _ _ inferInstance (by go_simp) (by omega)).mono ?_; rintro e w' ⟨rfl, hb⟩; obtain ⟨p, rfl⟩ := hb.rest; clear hb)
              | (go_at_call 19; refine (awake17 _).mono ?_; rintro e w' ⟨rfl, hb⟩; obtain ⟨p, rfl⟩ := hb.rest; clear hb))
            go_ret
            exact ⟨rfl, hbr.trans ((bel wr _).mono hbr.size)⟩
end Go.Proofs.Ytpndplbomnjioaa
