/- Part of the proof that the named pairs of calls commute. Conditions: none. -/
import Derived.Test.YtjkenolgkkknaaaGreatDoorPp29
set_option linter.unusedVariables false
set_option linter.unusedSimpArgs false
set_option maxRecDepth 100000
set_option maxHeartbeats 8000000
namespace Go.Proofs.YtjkenolgkkknaaaGreatDoor
open Go.RowKit
def bytesN (c : PCall) : Nat := if c.kind = 4 then c.num.toNat else c.data.size
def pagesM (c : PCall) : Nat × Nat := if bytesN c = 0 then (0, 0) else (c.off.toNat / 16, (c.off.toNat + bytesN c - 1) / 16 - c.off.toNat / 16 + 1)
theorem pages49 {w : World} {k p : Nat} {c : PCall} {fine : Bool} {L T : List (Int × Int)} {M : List Int} {by_ co go : Int} {lv tv mv : Value} (h : VwC w k p c fine L T M by_ co go lv tv mv) (h0 : 0 ≤ c.off) (h1 : c.off ≤ 1000) (h2 : 0 ≤ c.num) (h3 : bytesN c ≤ 1000) :
 Calls Tryz.prog 49 #[.pointer (some ⟨k, 0, none⟩)] w fun e w' => e = .returned (.tuple #[.int .i64 ((pagesM c).1 : Nat), .int .i64 ((pagesM c).2 : Nat)]) ∧ Below w.heap.size w w' := by
 have iK := h.blk.lt
 have c1 : w.cell? ⟨k, 1, none⟩ = some (.int .i64 c.kind) := h.blk.cell 1
 have c4 : w.cell? ⟨k, 4, none⟩ = some (.int .i64 c.off) := h.blk.cell 4
 have c5 : w.cell? ⟨k, 5, none⟩ = some (.int .i64 c.num) := h.blk.cell 5
 have c8 : w.cell? ⟨k, 8, none⟩ = some (.string c.data) := h.blk.cell 8
 obtain ⟨o, ho⟩ : ∃ o : Nat, c.off = o := ⟨c.off.toNat, by omega⟩
 obtain ⟨m, hm⟩ : ∃ m : Nat, c.num = m := ⟨c.num.toNat, by omega⟩
 unfold pagesM bytesN at *
 rw [ho] at c4
 rw [hm] at c5
 have eo : c.off.toNat = o := by omega
 have em : c.num.toNat = m := by omega
 rw [eo, em]
 rw [em] at h3
 have ho1 : o ≤ 1000 := by omega
 clear h ho hm eo em h0 h1 h2
 by_cases hk : c.kind = 4
 · rw [if_pos hk] at h3 ⊢; rw [hk] at c1; by_cases hz : m = 0
   · have hzb : ((m : Int) == 0) = true := by rw [hz]; rfl
     rw [if_pos hz]
     go_enter Tryz.func49, Tryz.ntmps49
     go_wp2_with fail; exact bodyPost_ret (v := .tuple #[.int .i64 0, .int .i64 0]) (by simp [results, Tryz.results49, go_sem]) rfl ⟨rfl, bel w _⟩
   · rw [if_neg hz]; have hzb : ((m : Int) == 0) = false := by rw [beq_eq_false_iff_ne]; omega
     have e1 : ((o : Int) + m - 1).tdiv 16 = ((o : Int) + m - 1) / 16 := Int.tdiv_eq_ediv_of_nonneg (by omega); have e2 : (o : Int).tdiv 16 = (o : Int) / 16 := Int.tdiv_eq_ediv_of_nonneg (by omega); have w1 : IntKind.i64.wrap ((o : Int) + m) = (o : Int) + m := I64.wrap ⟨by omega, by omega⟩; have w2 : IntKind.i64.wrap ((o : Int) + m - 1) = (o : Int) + m - 1 := I64.wrap ⟨by omega, by omega⟩; have w3 : IntKind.i64.wrap (((o : Int) + m - 1) / 16) = ((o : Int) + m - 1) / 16 := I64.wrap ⟨by omega, by omega⟩; have w4 : IntKind.i64.wrap (((o : Int) + m - 1) / 16 - (o : Int) / 16) = ((o : Int) + m - 1) / 16 - (o : Int) / 16 := I64.wrap ⟨by omega, by omega⟩; have w5 : IntKind.i64.wrap (((o : Int) + m - 1) / 16 - (o : Int) / 16 + 1) = ((o : Int) + m - 1) / 16 - (o : Int) / 16 + 1 := I64.wrap ⟨by omega, by omega⟩; have hq1 : ((o / 16 : Nat) : Int) = (o : Int) / 16 := by omega
     have hq2 : (((o + m - 1) / 16 - o / 16 + 1 : Nat) : Int) = ((o : Int) + m - 1) / 16 - (o : Int) / 16 + 1 := by omega
     have HQ := Lib.hid (And.intro hq1 hq2); clear hq1 hq2
     go_enter Tryz.func49, Tryz.ntmps49
     go_upto_region 7 with fail
     refine wp_region_quiet_rest (by kernel_rfl) (by kernel_rfl) (WQ.out ?_)
     repeat
      refine WQ_step (fun K hK => ?_); go_simp
      first
       | (refine hK _ ?_; clear hK K)
       | (apply Exists.intro
          refine ⟨fun _ => ?_, hK _ ?_⟩
          focus (fail)
          clear hK K)
     refine WQ_nil ?_; intro w1 hw1; obtain ⟨p, hw1⟩ := hw1; subst hw1; go_wp2_with fail; exact bodyPost_ret (v := .tuple #[.int .i64 ((o : Int) / 16), .int .i64 (((o : Int) + m - 1) / 16 - (o : Int) / 16 + 1)]) (by simp [results, Tryz.results49, go_sem]) rfl ⟨by rw [HQ.out.1, HQ.out.2], bel w _⟩
 · rw [if_neg hk] at h3 ⊢; have hkb : (c.kind == 4) = false := by simpa using hk
   by_cases hz : c.data.size = 0
   · have hzb : ((c.data.size : Int) == 0) = true := by rw [hz]; rfl
     rw [if_pos hz]
     go_enter Tryz.func49, Tryz.ntmps49
     go_wp2_with fail; exact bodyPost_ret (v := .tuple #[.int .i64 0, .int .i64 0]) (by simp [results, Tryz.results49, go_sem]) rfl ⟨rfl, bel w _⟩
   · rw [if_neg hz]; have hzb : ((c.data.size : Int) == 0) = false := by rw [beq_eq_false_iff_ne]; omega
     have e1 : ((o : Int) + c.data.size - 1).tdiv 16 = ((o : Int) + c.data.size - 1) / 16 := Int.tdiv_eq_ediv_of_nonneg (by omega); have e2 : (o : Int).tdiv 16 = (o : Int) / 16 := Int.tdiv_eq_ediv_of_nonneg (by omega); have w1 : IntKind.i64.wrap ((o : Int) + c.data.size) = (o : Int) + c.data.size := I64.wrap ⟨by omega, by omega⟩; have w2 : IntKind.i64.wrap ((o : Int) + c.data.size - 1) = (o : Int) + c.data.size - 1 := I64.wrap ⟨by omega, by omega⟩; have w3 : IntKind.i64.wrap (((o : Int) + c.data.size - 1) / 16) = ((o : Int) + c.data.size - 1) / 16 := I64.wrap ⟨by omega, by omega⟩; have w4 : IntKind.i64.wrap (((o : Int) + c.data.size - 1) / 16 - (o : Int) / 16) = ((o : Int) + c.data.size - 1) / 16 - (o : Int) / 16 := I64.wrap ⟨by omega, by omega⟩; have w5 : IntKind.i64.wrap (((o : Int) + c.data.size - 1) / 16 - (o : Int) / 16 + 1) = ((o : Int) + c.data.size - 1) / 16 - (o : Int) / 16 + 1 := I64.wrap ⟨by omega, by omega⟩; have hq1 : ((o / 16 : Nat) : Int) = (o : Int) / 16 := by omega
     have hq2 : (((o + c.data.size - 1) / 16 - o / 16 + 1 : Nat) : Int) = ((o : Int) + c.data.size - 1) / 16 - (o : Int) / 16 + 1 := by omega
     have HQ := Lib.hid (And.intro hq1 hq2); clear hq1 hq2
     go_enter Tryz.func49, Tryz.ntmps49
     go_upto_region 7 with fail
     refine wp_region_quiet_rest (by kernel_rfl) (by kernel_rfl) (WQ.out ?_)
     repeat
      refine WQ_step (fun K hK => ?_); go_simp
      first
       | (refine hK _ ?_; clear hK K)
       | (apply Exists.intro
          refine ⟨fun _ => ?_, hK _ ?_⟩
          focus (fail)
          clear hK K)
     refine WQ_nil ?_; intro w1 hw1; obtain ⟨p, hw1⟩ := hw1; subst hw1; go_wp2_with fail; exact bodyPost_ret (v := .tuple #[.int .i64 ((o : Int) / 16), .int .i64 (((o : Int) + c.data.size - 1) / 16 - (o : Int) / 16 + 1)]) (by simp [results, Tryz.results49, go_sem]) rfl ⟨by rw [HQ.out.1, HQ.out.2], bel w _⟩
def besM (c1 c2 : PCall) (f2 : Bool) : Bool := if c1.kind = 5 then (if (f2 && (decide (c2.kind = 4) || decide (c2.kind = 5))) = true then (decide ((pagesM c1).2 = 0) || (decide ((pagesM c2).2 = 0) || (decide ((pagesM c1).1 + (pagesM c1).2 ≤ (pagesM c2).1) || decide ((pagesM c2).1 + (pagesM c2).2 ≤ (pagesM c1).1)))) else true) else true
theorem pages_le {c : PCall} (h : c.off.toNat ≤ 1000) (h3 : bytesN c ≤ 1000) : (pagesM c).1 ≤ 1000 ∧ (pagesM c).2 ≤ 2000 := by
 unfold pagesM
 split
 · exact ⟨by omega, by omega⟩
 · exact ⟨by show c.off.toNat / 16 ≤ 1000; omega, by show (c.off.toNat + bytesN c - 1) / 16 - c.off.toNat / 16 + 1 ≤ 2000; omega⟩
theorem beside_no {w : World} {k k2 p : Nat} {c : PCall} {fine : Bool} {L T : List (Int × Int)} {M : List Int} {by_ co go : Int} {lv tv mv : Value} (h : VwC w k p c fine L T M by_ co go lv tv mv) (hk : c.kind ≠ 5) (hk6 : c.kind ≠ 6) :
 Calls Tryz.prog 25 #[.pointer (some ⟨k, 0, none⟩), .pointer (some ⟨k2, 0, none⟩)] w fun e w' => e = .returned (.bool true) ∧ Below w.heap.size w w' := by
 have iK := h.blk.lt
 have c1 : w.cell? ⟨k, 1, none⟩ = some (.int .i64 c.kind) := h.blk.cell 1
 have b5 : (c.kind == 5) = false := by simpa using hk
 have b6 : (c.kind == 6) = false := by simpa using hk6
 have b5n : (c.kind != 5) = true := by simpa using hk
 clear h
 go_enter Tryz.func25, Tryz.ntmps25
 go_wp2_with fail
 exact bodyPost_ret (v := .bool true) (by simp [results, Tryz.results25, go_sem]) rfl ⟨rfl, bel w _⟩
theorem beside_write {w : World} {k p k2 p2 : Nat} {c c2 : PCall} {f2 : Bool} {L T L2 T2 : List (Int × Int)} {M M2 : List Int} {by_ co go b2 co2 go2 : Int} {lv tv mv lv2 tv2 mv2 : Value} {S : PSt} {K : Nat} {x : PIn}
 (h : VwC w k p c true L T M by_ co go lv tv mv) (h2 : VwC w k2 p2 c2 f2 L2 T2 M2 b2 co2 go2 lv2 tv2 mv2) (hs : SP w p S) (hlen : S.ins.length ≤ 1000000000) (hk : c.kind = 5) (hd : 0 < c.data.size) (hK : idxM (isNum by_) S.ins = K) (hx : S.ins[K]? = some x) (ho : 0 ≤ c.off) (ho1 : c.off + c.data.size ≤ x.data.size) (hxs : x.data.size ≤ 1000) (ho2 : 0 ≤ c2.off) (ho3 : c2.off ≤ 1000) (hn0 : 0 ≤ c.num) (hn2 : 0 ≤ c2.num) (hb2 : bytesN c2 ≤ 1000) :
 Calls Tryz.prog 25 #[.pointer (some ⟨k, 0, none⟩), .pointer (some ⟨k2, 0, none⟩)] w fun e w' => e = .returned (.bool (besM c c2 f2)) ∧ Below w.heap.size w w' := by
 have hbn : bytesN c ≤ 1000 := by unfold bytesN; rw [if_neg (by omega)]; omega
 have hp1 := fun ww (hb : Below w.heap.size w ww) => pages49 (h.below hb) ho (by omega) hn0 hbn
 have hp2 := fun ww (hb : Below w.heap.size w ww) => pages49 (h2.below hb) ho2 ho3 hn2 hb2
 obtain ⟨q1, q2⟩ := pages_le (c := c) (by omega) hbn
 obtain ⟨q3, q4⟩ := pages_le (c := c2) (by omega) hb2
 have iK := h.blk.lt
 have iK2 := h2.blk.lt
 have c0 : w.cell? ⟨k, 0, none⟩ = some (.pointer (some ⟨p, 0, none⟩)) := h.blk.cell 0
 have c1 : w.cell? ⟨k, 1, none⟩ = some (.int .i64 c.kind) := h.blk.cell 1
 have c4 : w.cell? ⟨k, 4, none⟩ = some (.int .i64 c.off) := h.blk.cell 4
 have c8 : w.cell? ⟨k, 8, none⟩ = some (.string c.data) := h.blk.cell 8
 have c9 : w.cell? ⟨k, 9, none⟩ = some (.bool true) := h.blk.cell 9
 have c13 : w.cell? ⟨k, 13, none⟩ = some (.int .i64 by_) := h.blk.cell 13
 have e1 : w.cell? ⟨k2, 1, none⟩ = some (.int .i64 c2.kind) := h2.blk.cell 1
 have e9 : w.cell? ⟨k2, 9, none⟩ = some (.bool f2) := h2.blk.cell 9
 rw [hk] at c1
 have hpos : 0 < S.ins.length := by obtain ⟨hl, _⟩ := gI.1 hx; omega
 have hino : ∀ ww, Below w.heap.size w ww → Calls Tryz.prog 48 #[.pointer (some ⟨k, 0, none⟩), .int .i64 by_] ww _ := fun ww hb => inode48 k p S by_ ww ⟨by have := iK.lt; have := hb.size; omega⟩ ((hb.cell (p := ⟨k, 0, none⟩) iK.lt).trans c0) (hs.below hb (Nat.le_refl _)) hlen hpos
 obtain ⟨hl0, iv, ov, mv0, g0, g1, g2, hr⟩ := hs
 obtain ⟨ai, capi, rfl, hati⟩ := hr.ins_at2
 obtain ⟨bi, off, ev, rfl, iG0, ho1x, hev, hcl⟩ := hati K x hx
 obtain ⟨iG, x0, x1, x2, x3⟩ := hcl w (Below.refl _ _)
 have hcall2 : ∀ ww, Below w.heap.size w ww → Calls Tryz.prog 48 #[.pointer (some ⟨k, 0, none⟩), .int .i64 by_] ww fun e w' => e = .returned (.pointer (some ⟨bi, off + K * 4, none⟩)) ∧ Below ww.heap.size ww w' := fun ww hb => by
  refine (hino ww hb).mono ?_; rintro e w' ⟨⟨bi', off', cap', h1, rfl⟩, h2⟩; rw [(hb.cell (p := ⟨p, 0, none⟩) hl0).trans g0] at h1; simp only [Option.some.injEq, Value.slice.injEq, Addr.mk.injEq] at h1; obtain ⟨⟨rfl, rfl, -⟩, -, rfl⟩ := h1; refine ⟨?_, h2⟩; unfold placeAt; rw [hK, if_pos (by omega), Int.toNat_natCast]
 have hdI : decide ((0 : Int) < c.data.size) = true := decide_eq_true (by omega)
 have hgt : decide ((x.data.size : Int) < c.off + c.data.size) = false := decide_eq_false (by omega)
 have hwr : IntKind.i64.wrap (c.off + c.data.size) = c.off + c.data.size := I64.wrap ⟨by omega, by omega⟩
 unfold besM
 rw [if_pos hk]
 generalize pagesM c = P1 at hp1 q1 q2 ⊢
 generalize pagesM c2 = P2 at hp2 q3 q4 ⊢
 obtain ⟨a, n⟩ := P1
 obtain ⟨b, m⟩ := P2
 simp only at hp1 hp2 q1 q2 q3 q4 ⊢
 clear h h2 hr hati hcl hino g0 g1 g2 hx hK x0 x1 x2 hbn ho hn0 hn2 hb2 ho2 ho3 hev
 have hw1 : IntKind.i64.wrap ((a : Int) + n) = (a : Int) + n := I64.wrap ⟨by omega, by omega⟩
 have hw2 : IntKind.i64.wrap ((b : Int) + m) = (b : Int) + m := I64.wrap ⟨by omega, by omega⟩
 have arm : True := trivial
 by_cases ht : (f2 && (decide (c2.kind = 4) || decide (c2.kind = 5))) = true
 · rw [if_pos ht]; simp only [Bool.and_eq_true, Bool.or_eq_true, decide_eq_true_eq] at ht; obtain ⟨rfl, hk2⟩ := ht; obtain ⟨RES, hres⟩ : ∃ RES, (decide (n = 0) || (decide (m = 0) || (decide (a + n ≤ b) || decide (b + m ≤ a)))) = RES := ⟨_, rfl⟩
   rw [hres]; have kk : ((c2.kind == 4) = true) ∨ ((c2.kind == 4) = false ∧ (c2.kind == 5) = true) := by
    rcases hk2 with h | h
    · exact .inl (by simpa using h)
    · exact .inr ⟨by rw [beq_eq_false_iff_ne]; omega, by simpa using h⟩
   clear hk2; by_cases z1 : n = 0
   · have u1 : ((n : Int) == 0) = true := by rw [z1]; rfl
     have HRES := Lib.hid (show RES = true by rw [← hres]; simp [z1]); clear hres z1; rcases kk with k4 | ⟨k4, k5⟩
     all_goals
      go_enter Tryz.func25, Tryz.ntmps25
      go_upto_region 5 with fail
      refine wp_region_quiet_rest (by kernel_rfl) (by kernel_rfl) (WQ.out ?_)
      repeat
       refine WQ_step (fun K hK => ?_); go_simp
       first
        | (refine hK _ ?_; clear hK K)
        | (apply Exists.intro
           refine ⟨fun _ => ?_, hK _ ?_⟩
           focus (((with_reducible refine calls_in (hcall2 _ (bel _ _)) (fun w' hb => ?_); first | exact hb.rest | exact rest1 hb | exact rest2 hb)))
           clear hK K)
      refine WQ_nil ?_; intro w1 hw1; obtain ⟨p, hw1⟩ := hw1; subst hw1; go_wp2_with (first | (go_at_call 49; with_reducible refine aT (hp1 _ (bel _ _)) fun p => ?_) | (go_at_call 49; with_reducible refine aT (hp2 _ (bel _ _)) fun p => ?_))
      exact bodyPost_ret (v := .bool true) (by simp [results, Tryz.results25, go_sem]) rfl ⟨by first | (rw [HRES.out]) | rfl, bel w _⟩
   · have u1 : ((n : Int) == 0) = false := by rw [beq_eq_false_iff_ne]; omega
     by_cases z2 : m = 0
     · have u2 : ((m : Int) == 0) = true := by rw [z2]; rfl
       have HRES := Lib.hid (show RES = true by rw [← hres]; simp [z2]); clear hres z1 z2; rcases kk with k4 | ⟨k4, k5⟩
       all_goals
        go_enter Tryz.func25, Tryz.ntmps25
        go_upto_region 5 with fail
        refine wp_region_quiet_rest (by kernel_rfl) (by kernel_rfl) (WQ.out ?_)
        repeat
         refine WQ_step (fun K hK => ?_); go_simp
         first
          | (refine hK _ ?_; clear hK K)
          | (apply Exists.intro
             refine ⟨fun _ => ?_, hK _ ?_⟩
             focus (((with_reducible refine calls_in (hcall2 _ (bel _ _)) (fun w' hb => ?_); first | exact hb.rest | exact rest1 hb | exact rest2 hb)))
             clear hK K)
        refine WQ_nil ?_; intro w1 hw1; obtain ⟨p, hw1⟩ := hw1; subst hw1; go_wp2_with (first | (go_at_call 49; with_reducible refine aT (hp1 _ (bel _ _)) fun p => ?_) | (go_at_call 49; with_reducible refine aT (hp2 _ (bel _ _)) fun p => ?_))
        exact bodyPost_ret (v := .bool true) (by simp [results, Tryz.results25, go_sem]) rfl ⟨by first | (rw [HRES.out]) | rfl, bel w _⟩
     · have u2 : ((m : Int) == 0) = false := by rw [beq_eq_false_iff_ne]; omega
       by_cases z3 : a + n ≤ b
       · have u3 : decide ((a : Int) + n ≤ b) = true := decide_eq_true (by omega); have HRES := Lib.hid (show RES = true by rw [← hres]; simp [z3]); clear hres z1 z2 z3; rcases kk with k4 | ⟨k4, k5⟩
         all_goals
          go_enter Tryz.func25, Tryz.ntmps25
          go_upto_region 5 with fail
          refine wp_region_quiet_rest (by kernel_rfl) (by kernel_rfl) (WQ.out ?_)
          repeat
           refine WQ_step (fun K hK => ?_); go_simp
           first
            | (refine hK _ ?_; clear hK K)
            | (apply Exists.intro
               refine ⟨fun _ => ?_, hK _ ?_⟩
               focus (((with_reducible refine calls_in (hcall2 _ (bel _ _)) (fun w' hb => ?_); first | exact hb.rest | exact rest1 hb | exact rest2 hb)))
               clear hK K)
          refine WQ_nil ?_; intro w1 hw1; obtain ⟨p, hw1⟩ := hw1; subst hw1; go_wp2_with (first | (go_at_call 49; with_reducible refine aT (hp1 _ (bel _ _)) fun p => ?_) | (go_at_call 49; with_reducible refine aT (hp2 _ (bel _ _)) fun p => ?_))
          exact bodyPost_ret (v := .bool true) (by simp [results, Tryz.results25, go_sem]) rfl ⟨by first | (rw [HRES.out]) | rfl, bel w _⟩
       · have u3 : decide ((a : Int) + n ≤ b) = false := decide_eq_false (by omega); by_cases z4 : b + m ≤ a
         · have u4 : decide ((b : Int) + m ≤ a) = true := decide_eq_true (by omega); have HRES := Lib.hid (show RES = true by rw [← hres]; simp [z4]); clear hres z1 z2 z3 z4; rcases kk with k4 | ⟨k4, k5⟩
           all_goals
            go_enter Tryz.func25, Tryz.ntmps25
            go_upto_region 5 with fail
            refine wp_region_quiet_rest (by kernel_rfl) (by kernel_rfl) (WQ.out ?_)
            repeat
             refine WQ_step (fun K hK => ?_); go_simp
             first
              | (refine hK _ ?_; clear hK K)
              | (apply Exists.intro
                 refine ⟨fun _ => ?_, hK _ ?_⟩
                 focus (((with_reducible refine calls_in (hcall2 _ (bel _ _)) (fun w' hb => ?_); first | exact hb.rest | exact rest1 hb | exact rest2 hb)))
                 clear hK K)
            refine WQ_nil ?_; intro w1 hw1; obtain ⟨p, hw1⟩ := hw1; subst hw1; go_wp2_with (first | (go_at_call 49; with_reducible refine aT (hp1 _ (bel _ _)) fun p => ?_) | (go_at_call 49; with_reducible refine aT (hp2 _ (bel _ _)) fun p => ?_))
            exact bodyPost_ret (v := .bool true) (by simp [results, Tryz.results25, go_sem]) rfl ⟨by first | (rw [HRES.out]) | rfl, bel w _⟩
         · have u4 : decide ((b : Int) + m ≤ a) = false := decide_eq_false (by omega); have HRES := Lib.hid (show RES = false by rw [← hres]; simp [z1, z2, z3, z4]); clear hres z1 z2 z3 z4; rcases kk with k4 | ⟨k4, k5⟩
           all_goals
            go_enter Tryz.func25, Tryz.ntmps25
            go_upto_region 5 with fail
            refine wp_region_quiet_rest (by kernel_rfl) (by kernel_rfl) (WQ.out ?_)
            repeat
             refine WQ_step (fun K hK => ?_); go_simp
             first
              | (refine hK _ ?_; clear hK K)
              | (apply Exists.intro
                 refine ⟨fun _ => ?_, hK _ ?_⟩
                 focus (((with_reducible refine calls_in (hcall2 _ (bel _ _)) (fun w' hb => ?_); first | exact hb.rest | exact rest1 hb | exact rest2 hb)))
                 clear hK K)
            refine WQ_nil ?_; intro w1 hw1; obtain ⟨p, hw1⟩ := hw1; subst hw1; go_wp2_with (first | (go_at_call 49; with_reducible refine aT (hp1 _ (bel _ _)) fun p => ?_) | (go_at_call 49; with_reducible refine aT (hp2 _ (bel _ _)) fun p => ?_))
            exact bodyPost_ret (v := .bool false) (by simp [results, Tryz.results25, go_sem]) rfl ⟨by first | (rw [HRES.out]) | rfl, bel w _⟩
 · rw [if_neg ht]; rcases f2 with _ | _
   · go_enter Tryz.func25, Tryz.ntmps25
     go_upto_region 5 with fail
     refine wp_region_quiet_rest (by kernel_rfl) (by kernel_rfl) (WQ.out ?_)
     repeat
      refine WQ_step (fun K hK => ?_); go_simp
      first
       | (refine hK _ ?_; clear hK K)
       | (apply Exists.intro
          refine ⟨fun _ => ?_, hK _ ?_⟩
          focus (((with_reducible refine calls_in (hcall2 _ (bel _ _)) (fun w' hb => ?_); first | exact hb.rest | exact rest1 hb | exact rest2 hb)))
          clear hK K)
     refine WQ_nil ?_; intro w1 hw1; obtain ⟨p, hw1⟩ := hw1; subst hw1; go_wp2_with (first | (go_at_call 49; with_reducible refine aT (hp1 _ (bel _ _)) fun p => ?_) | (go_at_call 49; with_reducible refine aT (hp2 _ (bel _ _)) fun p => ?_))
     exact bodyPost_ret (v := .bool true) (by simp [results, Tryz.results25, go_sem]) rfl ⟨by first | (rw [HRES.out]) | rfl, bel w _⟩
   · have k4 : (c2.kind == 4) = false := by rw [beq_eq_false_iff_ne]; intro h; exact ht (by simp [h])
     have k5 : (c2.kind == 5) = false := by rw [beq_eq_false_iff_ne]; intro h; exact ht (by simp [h])
     clear ht
     go_enter Tryz.func25, Tryz.ntmps25
     go_upto_region 5 with fail
     refine wp_region_quiet_rest (by kernel_rfl) (by kernel_rfl) (WQ.out ?_)
     repeat
      refine WQ_step (fun K hK => ?_); go_simp
      first
       | (refine hK _ ?_; clear hK K)
       | (apply Exists.intro
          refine ⟨fun _ => ?_, hK _ ?_⟩
          focus (((with_reducible refine calls_in (hcall2 _ (bel _ _)) (fun w' hb => ?_); first | exact hb.rest | exact rest1 hb | exact rest2 hb)))
          clear hK K)
     refine WQ_nil ?_; intro w1 hw1; obtain ⟨p, hw1⟩ := hw1; subst hw1; go_wp2_with (first | (go_at_call 49; with_reducible refine aT (hp1 _ (bel _ _)) fun p => ?_) | (go_at_call 49; with_reducible refine aT (hp2 _ (bel _ _)) fun p => ?_))
     exact bodyPost_ret (v := .bool true) (by simp [results, Tryz.results25, go_sem]) rfl ⟨by first | (rw [HRES.out]) | rfl, bel w _⟩
end Go.Proofs.YtjkenolgkkknaaaGreatDoor
