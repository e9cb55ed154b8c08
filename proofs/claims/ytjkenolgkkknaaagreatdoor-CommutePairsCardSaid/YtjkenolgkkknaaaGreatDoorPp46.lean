/- Part of the proof that the named pairs of calls commute. Conditions: none. -/
import Derived.Test.YtjkenolgkkknaaaGreatDoorPp45
import Derived.Test.YtjkenolgkkknaaaGreatDoorPp41
set_option linter.unusedVariables false
set_option linter.unusedSimpArgs false
set_option maxRecDepth 100000
set_option maxHeartbeats 8000000
namespace Go.Proofs.YtjkenolgkkknaaaGreatDoor
open Go.RowKit
def v15 (gK W n m ja jb : Nat) (ka kb : Int) (P0 P1 : ByteArray) (cx cy : PCall) (k : Nat) : Value := (#[.slice (some ⟨gK, 0, none⟩) 4 4, .int .u64 W, .int .u64 ja, .pointer (some ⟨gK, ja, none⟩), .int .i64 ka, .int .i64 n, .string P0, .agg (callAr cx), .slice (some ⟨gK, 0, none⟩) 4 4, .int .u64 W, .int .u64 jb, .pointer (some ⟨gK, jb, none⟩), .int .i64 kb, .int .i64 m, .string P1, .agg (callAr cy)] : Array Value)[k]?.getD undef
theorem pair_names (which i k : Int) (n m : Nat) (hn : i % 16 = n) (hm : k % 16 = m) (W : Nat) (hWl : W < 16) (hnm : n ≠ m) (hW : (IntKind.u64.wrap which).tmod 40 = W) : PTail W which i k n m := by
 intro w wr g11 a1 a2 a3 a4 a5 a6 a7 a8 a9 u K h16a h16b hn16 hm16 hhw HZ hK
 simp only [tail9, Tryz.f8, Option.getD_some, dropSeq, seqL, seqR, actP] at hK ⊢
 obtain ⟨B0, hB0⟩ : ∃ b, bucketR (nmn n) = b := ⟨_, rfl⟩
 obtain ⟨B1, hB1⟩ : ∃ b, bucketR (nmn m) = b := ⟨_, rfl⟩
 rw [hB0] at h16a
 rw [hB1] at h16b
 have HPO := Lib.hid (show pairOk W n m = true by unfold pairOk; rw [if_pos (by omega)]; simp [hnm])
 have hW32 : decide ((W : Int) < 32) = true := decide_eq_true (by omega)
 have hWI : (W : Int) < 32 := by omega
 have hW16n : (W : Int) < 16 := by omega
 have hW16d : decide ((W : Int) < 16) = true := decide_eq_true hW16n
 have hnmb : ((n : Int) == (m : Int)) = false := by rw [beq_eq_false_iff_ne]; omega
 clear hnm
 obtain ⟨P0, hP0⟩ : ∃ q, pth n = q := ⟨_, rfl⟩
 obtain ⟨P1, hP1⟩ : ∃ q, pth m = q := ⟨_, rfl⟩
 have h14a : ∀ ww, Calls Tryz.prog 14 #[.int .i64 n] ww fun e w' => e = .returned (.string P0) ∧ Below ww.heap.size ww w' := fun ww => by
  have := at14 n ww; rw [show ((n : Int) % 16).toNat = n by omega, hP0] at this; exact this
 have h14b : ∀ ww, Calls Tryz.prog 14 #[.int .i64 m] ww fun e w' => e = .returned (.string P1) ∧ Below ww.heap.size ww w' := fun ww => by
  have := at14 m ww; rw [show ((m : Int) % 16).toNat = m by omega, hP1] at this; exact this
 have hsz : ∀ j, j < 16 → ¬ 9223372036854775807 < 2 + (pth j).size := fun j hj => by
  have h : ((List.range 16).all fun j => (pth j).size.ble 10) = true := by kernel_rfl
  have := Nat.le_of_ble_eq_true (List.all_eq_true.1 h j (List.mem_range.2 hj)); omega
 have hs0 : ¬ 9223372036854775807 < 2 + P0.size := by rw [← hP0]; exact hsz n (by omega)
 have hs1 : ¬ 9223372036854775807 < 2 + P1.size := by rw [← hP1]; exact hsz m (by omega)
 clear hsz
 obtain ⟨ja, hja⟩ : ∃ c : Nat, (W : Int) / 4 = c := ⟨W / 4, by omega⟩
 obtain ⟨jb, hjb⟩ : ∃ c : Nat, (W : Int).tmod 4 = c := ⟨W % 4, by rw [Int.tmod_eq_emod_of_nonneg (by omega)]; omega⟩
 have ea : ja = W / 4 := by omega
 have eb : jb = W % 4 := by rw [Int.tmod_eq_emod_of_nonneg (by omega)] at hjb; omega
 have hwc : IntKind.u64.wrap (ja : Int) = ja := by simp [IntKind.wrap, IntKind.bits, IntKind.signed]; omega
 have ja4 : ja < 4 := by omega
 have jb4 : jb < 4 := by omega
 have jaI : (ja : Int) < 4 := by omega
 have jbI : (jb : Int) < 4 := by omega
 obtain ⟨ka, hkae⟩ : ∃ q, kd ja = q := ⟨_, rfl⟩
 obtain ⟨kb, hkbe⟩ : ∃ q, kd jb = q := ⟨_, rfl⟩
 have h17a := fun ww => named17 ka 0 P0 ww
 have h17b := fun ww => named17 kb 1 P1 ww
 obtain ⟨cx, hcx⟩ : ∃ q, namedM ka 0 P0 = q := ⟨_, rfl⟩
 obtain ⟨cy, hcy⟩ : ∃ q, namedM kb 1 P1 = q := ⟨_, rfl⟩
 rw [hcx] at h17a
 rw [hcy] at h17b
 unfold PCall.val at h17a h17b
 have hkx : ∀ (gK : Nat) (wz : World), Blk wz gK #[.int .i64 0, .int .i64 1, .int .i64 8, .int .i64 13] 3 → wz.cell? ⟨gK, ja, none⟩ = some (.int .i64 ka) := fun gK wz h => by rw [← hkae]; exact kinds_at ja4 h
 have hky : ∀ (gK : Nat) (wz : World), Blk wz gK #[.int .i64 0, .int .i64 1, .int .i64 8, .int .i64 13] 3 → wz.cell? ⟨gK, jb, none⟩ = some (.int .i64 kb) := fun gK wz h => by rw [← hkbe]; exact kinds_at jb4 h
 obtain ⟨lk, hlk⟩ : ∃ b, (decide (ja = 3) && decide (jb = 3)) = b := ⟨_, rfl⟩
 have h18 : ∀ ww, Calls Tryz.prog 18 #[.int .i64 ka, .string P0, .int .i64 kb, .string P1] ww fun e w' => e = .returned (.bool (nearM ka kb n m)) ∧ Below ww.heap.size ww w' := fun ww => by
  rw [← hP0, ← hP1]; exact bk18n ka kb (by omega) (by omega) ww
 obtain ⟨nr, hnr⟩ : ∃ b, nearM ka kb n m = b := ⟨_, rfl⟩
 rw [hnr] at h18
 obtain ⟨fr, hfr⟩ : ∃ b, (B0 != B1) = b := ⟨_, rfl⟩
 have HXY := Lib.hid (show pairX W n = cx ∧ pairY W m = cy ∧ pairWant W n m = (lk || (fr && nr)) by
  unfold pairX pairY pairWant wantA; rw [if_pos hWl, if_pos hWl, if_pos hWl]; rw [hP0, hP1, ← ea, ← eb, hkae, hkbe, hnr, hlk, ← hfr, ← hB0, ← hB1]; refine ⟨hcx, hcy, ?_⟩
  congr 2
  by_cases e : bucketR (nmn n) = bucketR (nmn m) <;> simp [e])
 have HLK := Lib.hid hlk
 clear hlk hnr hB0 hB1
 clear ea eb
 have HE := Lib.hid (And.intro hP0 (And.intro hP1 (And.intro hkae (And.intro hkbe (And.intro hcx hcy)))))
 clear hP0 hP1 hkae hkbe hcx hcy
 go_upto_region 15 with (first | (go_at_call 16; with_reducible refine aT (h16a _) fun pA => ?_) | (go_at_call 16; with_reducible refine aT (h16b _) fun pB => ?_))
 refine abs_world (F := fun W2 => PZ w W2 g11 [] (.slice a1 a2 a3) (.slice a4 a5 a6) (.slice a7 a8 a9) (qs 6) nil3 nil8 nil8 ∧ Blk W2 (wr.heap.size + (pA.more pB).len) #[.int .i64 0, .int .i64 1, .int .i64 8, .int .i64 13] 3) ⟨HZ.out.on (bel wr _), Blk.new_i _ _ _ _⟩ ?_
 obtain ⟨gK, hgK⟩ : ∃ g, wr.heap.size + (pA.more pB).len = g := ⟨_, rfl⟩
 rw [hgK]
 clear HZ hgK h16a h16b
 rintro W2 ⟨hZ, hBK⟩
 have hZW : w.heap.size + 3 ≤ W2.heap.size := by have := hZ.b8.lt.lt; omega
 have HZ := Lib.hid hZ
 clear hZ hhw
 have iK := hBK.lt
 have hka := hkx gK
 have hkb := hky gK
 refine wp_region_inv (RI (v15 gK W n m ja jb ka kb P0 P1 cx cy) 16 gK cx cy W2) (by kernel_rfl) (by kernel_rfl) (by kernel_rfl) (fun σ => RI.zero (T := 20) (by decide) (blk_on hBK (bel W2 W2.drew)) (bel W2 _)) ?_ ?_
 · refine ⟨?_, ?_, ?_, ?_, ?_, ?_, ?_, ?_, ?_, ?_, ?_, ?_, ?_, ?_, ?_, ?_, ?_, ?_, ?_, ?_, trivial⟩
   all_goals intro D σ w1 a hnd hw hR hin hout
   · have e21 : (a.tmps[21]?).getD undef = .slice (some ⟨gK, 0, none⟩) 4 4 := (evalT a 21).symm.trans ((hout 21 (by kernel_rfl)).trans (by kernel_rfl)); refine eff_val (v := .slice (some ⟨gK, 0, none⟩) 4 4) ?_ (hR.val 0 (by decide)); clear hin hout hw hR; go_simp
     first | done | rfl
   · have e20 : (a.tmps[20]?).getD undef = .int .u64 W := (evalT a 20).symm.trans ((hout 20 (by kernel_rfl)).trans (by kernel_rfl)); refine eff_val (v := .int .u64 W) ?_ (hR.val 1 (by decide)); clear hin hout hw hR; go_simp
     first | done | rfl
   · have e89 : (a.tmps[89]?).getD undef = .int .u64 W := (evalT a 89).symm.trans <| (hin 1 _ 89 rfl rfl).trans (hR.c 1 (by decide) (hw 1 (by kernel_rfl)))
     refine eff_val (v := .int .u64 ja) ?_ (hR.val 2 (by decide)); clear hin hout hw hR; go_simp
     first | done | rfl
   · have e88 : (a.tmps[88]?).getD undef = .slice (some ⟨gK, 0, none⟩) 4 4 := (evalT a 88).symm.trans <| (hin 0 _ 88 rfl rfl).trans (hR.c 0 (by decide) (hw 0 (by kernel_rfl)))
     have e90 : (a.tmps[90]?).getD undef = .int .u64 ja := (evalT a 90).symm.trans <| (hin 2 _ 90 rfl rfl).trans (hR.c 2 (by decide) (hw 2 (by kernel_rfl)))
     refine eff_val (v := .pointer (some ⟨gK, ja, none⟩)) ?_ (hR.val 3 (by decide)); clear hin hout hw hR; go_simp
     first | done | rfl
   · have e91 : (a.tmps[91]?).getD undef = .pointer (some ⟨gK, ja, none⟩) := (evalT a 91).symm.trans <| (hin 3 _ 91 rfl rfl).trans (hR.c 3 (by decide) (hw 3 (by kernel_rfl)))
     have iKK := hR.bk.lt; have k0 := hka w1 hR.bk; refine eff_val (v := .int .i64 ka) ?_ (hR.val 4 (by decide)); clear hin hout hw hR; go_simp
     first | done | rfl
   · have e17 : (a.tmps[17]?).getD undef = .int .i64 n := (evalT a 17).symm.trans ((hout 17 (by kernel_rfl)).trans (by kernel_rfl)); refine eff_val (v := .int .i64 n) ?_ (hR.val 5 (by decide)); clear hin hout hw hR; go_simp
     first | done | rfl
   · have e93 : (a.tmps[93]?).getD undef = .int .i64 n := (evalT a 93).symm.trans <| (hin 5 _ 93 rfl rfl).trans (hR.c 5 (by decide) (hw 5 (by kernel_rfl)))
     refine eff_call 14 #[.int .i64 n] ?_ ?_
     · clear hin hout hw hR; go_simp
       first | done | rfl
     refine (h14a _).mono ?_; rintro e w' ⟨rfl, hb⟩; exact ⟨_, rfl, (hR.on hb).val 6 (by decide)⟩
   · have e92 : (a.tmps[92]?).getD undef = .int .i64 ka := (evalT a 92).symm.trans <| (hin 4 _ 92 rfl rfl).trans (hR.c 4 (by decide) (hw 4 (by kernel_rfl)))
     have e94 : (a.tmps[94]?).getD undef = .string P0 := (evalT a 94).symm.trans <| (hin 6 _ 94 rfl rfl).trans (hR.c 6 (by decide) (hw 6 (by kernel_rfl)))
     refine eff_call 17 #[.int .i64 ka, .int .i64 0, .string P0] ?_ ?_
     · clear hin hout hw hR; go_simp
       first | done | rfl
     refine (h17a _).mono ?_; rintro e w' ⟨rfl, hb⟩; exact ⟨_, rfl, (hR.on hb).val 7 (by decide)⟩
   · have e21 : (a.tmps[21]?).getD undef = .slice (some ⟨gK, 0, none⟩) 4 4 := (evalT a 21).symm.trans ((hout 21 (by kernel_rfl)).trans (by kernel_rfl)); refine eff_val (v := .slice (some ⟨gK, 0, none⟩) 4 4) ?_ (hR.val 8 (by decide)); clear hin hout hw hR; go_simp
     first | done | rfl
   · have e20 : (a.tmps[20]?).getD undef = .int .u64 W := (evalT a 20).symm.trans ((hout 20 (by kernel_rfl)).trans (by kernel_rfl)); refine eff_val (v := .int .u64 W) ?_ (hR.val 9 (by decide)); clear hin hout hw hR; go_simp
     first | done | rfl
   · have e97 : (a.tmps[97]?).getD undef = .int .u64 W := (evalT a 97).symm.trans <| (hin 9 _ 97 rfl rfl).trans (hR.c 9 (by decide) (hw 9 (by kernel_rfl)))
     refine eff_val (v := .int .u64 jb) ?_ (hR.val 10 (by decide)); clear hin hout hw hR; go_simp
     first | done | rfl
   · have e96 : (a.tmps[96]?).getD undef = .slice (some ⟨gK, 0, none⟩) 4 4 := (evalT a 96).symm.trans <| (hin 8 _ 96 rfl rfl).trans (hR.c 8 (by decide) (hw 8 (by kernel_rfl)))
     have e98 : (a.tmps[98]?).getD undef = .int .u64 jb := (evalT a 98).symm.trans <| (hin 10 _ 98 rfl rfl).trans (hR.c 10 (by decide) (hw 10 (by kernel_rfl)))
     refine eff_val (v := .pointer (some ⟨gK, jb, none⟩)) ?_ (hR.val 11 (by decide)); clear hin hout hw hR; go_simp
     first | done | rfl
   · have e99 : (a.tmps[99]?).getD undef = .pointer (some ⟨gK, jb, none⟩) := (evalT a 99).symm.trans <| (hin 11 _ 99 rfl rfl).trans (hR.c 11 (by decide) (hw 11 (by kernel_rfl)))
     have iKK := hR.bk.lt; have k0 := hkb w1 hR.bk; refine eff_val (v := .int .i64 kb) ?_ (hR.val 12 (by decide)); clear hin hout hw hR; go_simp
     first | done | rfl
   · have e18 : (a.tmps[18]?).getD undef = .int .i64 m := (evalT a 18).symm.trans ((hout 18 (by kernel_rfl)).trans (by kernel_rfl)); refine eff_val (v := .int .i64 m) ?_ (hR.val 13 (by decide)); clear hin hout hw hR; go_simp
     first | done | rfl
   · have e101 : (a.tmps[101]?).getD undef = .int .i64 m := (evalT a 101).symm.trans <| (hin 13 _ 101 rfl rfl).trans (hR.c 13 (by decide) (hw 13 (by kernel_rfl)))
     refine eff_call 14 #[.int .i64 m] ?_ ?_
     · clear hin hout hw hR; go_simp
       first | done | rfl
     refine (h14b _).mono ?_; rintro e w' ⟨rfl, hb⟩; exact ⟨_, rfl, (hR.on hb).val 14 (by decide)⟩
   · have e100 : (a.tmps[100]?).getD undef = .int .i64 kb := (evalT a 100).symm.trans <| (hin 12 _ 100 rfl rfl).trans (hR.c 12 (by decide) (hw 12 (by kernel_rfl)))
     have e102 : (a.tmps[102]?).getD undef = .string P1 := (evalT a 102).symm.trans <| (hin 14 _ 102 rfl rfl).trans (hR.c 14 (by decide) (hw 14 (by kernel_rfl)))
     refine eff_call 17 #[.int .i64 kb, .int .i64 1, .string P1] ?_ ?_
     · clear hin hout hw hR; go_simp
       first | done | rfl
     refine (h17b _).mono ?_; rintro e w' ⟨rfl, hb⟩; exact ⟨_, rfl, (hR.on hb).val 15 (by decide)⟩
   · refine eff_val ?_ (hR.ax hnd); clear hin hout hw hR; go_simp
     first | done | rfl
   · refine eff_val ?_ (hR.ay hnd); clear hin hout hw hR; go_simp
     first | done | rfl
   · obtain ⟨b, eb, hbl, hbc, hbs⟩ := hR.x (hw 16 (by kernel_rfl)); have e22 : (a.tmps[22]?).getD undef = .pointer (some ⟨b, 0, none⟩) := (evalT a 22).symm.trans <| (hin 16 _ 22 rfl rfl).trans eb
     have e95 : (a.tmps[95]?).getD undef = .agg #[.int .i64 cx.kind, .int .i64 cx.core, .int .i64 cx.fd, .int .i64 cx.off, .int .i64 cx.num, .string cx.path, .string cx.path2, .string cx.data] := (evalT a 95).symm.trans <| (hin 7 _ 95 rfl rfl).trans (hR.c 7 (by decide) (hw 7 (by kernel_rfl)))
     rcases hbc with hblk | hblk
     all_goals
      obtain ⟨_, _, _, _, _, _, _, _, _⟩ := c8 hblk; obtain ⟨_, _, _, _, _, _, _, _⟩ := f8 hblk; refine eff_skip ?_ (hR.sx (hw 16 (by kernel_rfl)) eb hbl hblk (st8_blk hblk cx)); clear hin hout hw hR hbs; unfold st8; go_simp
   · obtain ⟨b, eb, hbl, hbc, hbs⟩ := hR.y (hw 17 (by kernel_rfl)); have e23 : (a.tmps[23]?).getD undef = .pointer (some ⟨b, 0, none⟩) := (evalT a 23).symm.trans <| (hin 17 _ 23 rfl rfl).trans eb
     have e103 : (a.tmps[103]?).getD undef = .agg #[.int .i64 cy.kind, .int .i64 cy.core, .int .i64 cy.fd, .int .i64 cy.off, .int .i64 cy.num, .string cy.path, .string cy.path2, .string cy.data] := (evalT a 103).symm.trans <| (hin 15 _ 103 rfl rfl).trans (hR.c 15 (by decide) (hw 15 (by kernel_rfl)))
     rcases hbc with hblk | hblk
     all_goals
      obtain ⟨_, _, _, _, _, _, _, _, _⟩ := c8 hblk; obtain ⟨_, _, _, _, _, _, _, _⟩ := f8 hblk; refine eff_skip ?_ (hR.sy (hw 17 (by kernel_rfl)) eb hbl hblk (st8_blk hblk cy)); clear hin hout hw hR hbs; unfold st8; go_simp
 · intro σ w3 hR; obtain ⟨g22, ex, hgx, -, hx⟩ := hR.x trivial; obtain ⟨g23, ey, hgy, -, hy⟩ := hR.y trivial; have HZ3 := Lib.hid ((HZ.out.on hR.below).m2 cx cy (by omega) (hx trivial) (by omega) (hy trivial)); have hBK3 := hR.bk; simp only [putsL, Act.put, sA, sZ, sS, Nat.reduceAdd]; rw [show σ 16 = _ from ex, show σ 17 = _ from ey]; have ka0 := hka w3 hBK3; have kb0 := hkb w3 hBK3; have iK3 := hBK3.lt; clear hR ex ey HZ hBK h17a h17b hkx hky hka hkb iK hgx hgy hx hy hs0 hs1 hBK3; clear hfr; have hcs : (((ja : Int) == 3) = false ∧ lk = false) ∨ (((ja : Int) == 3) = true ∧ ((jb : Int) == 3) = false ∧ lk = false) ∨ (((ja : Int) == 3) = true ∧ ((jb : Int) == 3) = true ∧ lk = true) := by
    rw [← HLK.out, beq_eq_false_iff_ne, beq_eq_false_iff_ne, beq_iff_eq, beq_iff_eq]; by_cases h1 : ja = 3
    · by_cases h2 : jb = 3
      · right; right; exact ⟨by omega, by omega, by simp [h1, h2]⟩
      · right; left; exact ⟨by omega, by omega, by simp [h2]⟩
    · left; exact ⟨by omega, by simp [h1]⟩
   clear HLK; rcases hcs with ⟨b1, hl⟩ | ⟨b1, b2, hl⟩ | ⟨b1, b2, hl⟩
   all_goals
    have HLV := Lib.hid hl; clear hl
    go_upto_region 17 with fail
    refine wp_region_quiet_rest (by kernel_rfl) (by kernel_rfl) (WQ.out ?_)
    repeat
     refine WQ_step (fun K hK => ?_); go_simp
     first
      | (refine hK _ ?_; clear hK K)
      | (apply Exists.intro
         refine ⟨fun _ => ?_, hK _ ?_⟩
         focus (first | (with_reducible refine calls_in (h14a _) (fun w' hb => ?_); first | exact hb.rest | exact rest1 hb | exact rest2 hb) | (with_reducible refine calls_in (h14b _) (fun w' hb => ?_); first | exact hb.rest | exact rest1 hb | exact rest2 hb) | (with_reducible refine calls_in (h18 _) (fun w' hb => ?_); first | exact hb.rest | exact rest1 hb | exact rest2 hb))
         clear hK K)
    refine WQ_nil ?_; intro w1 hw1; obtain ⟨p, hw1⟩ := hw1; subst hw1; clear ka0 kb0 iK3 h14a h14b h18
    go_upto_region 18 with fail
    refine PZ.world (HZ3.out.on (bel w3 _)) ?_; clear HZ3; have HX := Lib.hid trivial; rcases fr with _ | _
    all_goals
     rintro wz hZ; refine hZ.reg [10, 11, 12] (by kernel_rfl) ?_; clear hZ; rintro wy hY
     repeat
      first
       | (refine PS.look rfl rfl ?_
          apply Exists.intro; refine ⟨?_, ?_⟩
          focus
           intro w' _ _ _ _; simp only [LF]; intros; go_simp
           first | done | rfl)
       | refine wpL_pass rfl ?_
      simp only [Act.put, sA, sZ, sS]
     refine hY.s6 rfl rfl ?_ fun wy hY => ?_
     · intros; clear hY HX; unfold st3; go_simp
       first | done | rfl
     simp only [Act.put, sA, sZ, sS]; refine hY.s7 cx rfl rfl ?_ fun wy hY => ?_
     · intros; clear hY HX; simp only [st8]; go_simp
       first | done | rfl
     simp only [Act.put, sA, sZ, sS]; refine hY.s8 cy rfl rfl ?_ fun wy hY => ?_
     · intros; clear hY HX; simp only [st8]; go_simp
       first | done | rfl
     simp only [Act.put, sA, sZ, sS]
     repeat
      first
       | (refine PS.look rfl rfl ?_
          apply Exists.intro; refine ⟨?_, ?_⟩
          focus
           intro w' _ _ _ _; simp only [LF]; intros; go_simp
           first | done | rfl)
       | refine wpL_pass rfl ?_
      simp only [Act.put, sA, sZ, sS]
     refine wpL_end ?_; obtain ⟨_, _, _, _⟩ := c3 hY.b6; have v := c8 hY.b7; have z := c8 hY.b8; obtain ⟨_, _, _, _, _, _, _, _, _⟩ := v; obtain ⟨_, _, _, _, _, _, _, _, _⟩ := z; have HF := Lib.hid (And.intro hY.below hY.st.read); clear hY; go_wp2_with fail
     first
      | exact bodyPost_ret (v := .tuple #[.agg #[.slice a1 a2 a3, .slice a4 a5 a6, .slice a7 a8 a9], PCall.val cx, PCall.val cy, .bool false, .bool true]) (by unfold results PCall.val; simp only [Tryz.results8]; go_simp) rfl ⟨_, _, _, cx, cy, false, by rw [HPO.out], (fun _ => ⟨HXY.out.1.symm, HXY.out.2.1.symm, by rw [HXY.out.2.2, HLV.out]; rfl⟩), HF.out.1, HF.out.2⟩
      | exact bodyPost_ret (v := .tuple #[.agg #[.slice a1 a2 a3, .slice a4 a5 a6, .slice a7 a8 a9], PCall.val cx, PCall.val cy, .bool nr, .bool true]) (by unfold results PCall.val; simp only [Tryz.results8]; go_simp) rfl ⟨_, _, _, cx, cy, nr, by rw [HPO.out], (fun _ => ⟨HXY.out.1.symm, HXY.out.2.1.symm, by rw [HXY.out.2.2, HLV.out]; rfl⟩), HF.out.1, HF.out.2⟩
      | exact bodyPost_ret (v := .tuple #[.agg #[.slice a1 a2 a3, .slice a4 a5 a6, .slice a7 a8 a9], PCall.val cx, PCall.val cy, .bool true, .bool true]) (by unfold results PCall.val; simp only [Tryz.results8]; go_simp) rfl ⟨_, _, _, cx, cy, true, by rw [HPO.out], (fun _ => ⟨HXY.out.1.symm, HXY.out.2.1.symm, by rw [HXY.out.2.2, HLV.out]; rfl⟩), HF.out.1, HF.out.2⟩
end Go.Proofs.YtjkenolgkkknaaaGreatDoor
