/- Part of the proof of a law of chapter 15. Conditions: none. -/
import Derived.Test.YtmkapobnfigedaaGreatDoorDp47
set_option linter.unusedVariables false
set_option linter.unusedSimpArgs false
set_option maxRecDepth 100000
set_option maxHeartbeats 8000000
namespace Go.Proofs.YtmkapobnfigedaaGreatDoor
open Go.RowKit
def twoL : List PCall := [cN 1 0 ⟨#[47, 100]⟩, cN 1 0 ⟨#[47, 101]⟩, cN 0 0 ⟨#[47, 100, 47, 102]⟩, cN 0 0 ⟨#[47, 101, 47, 103]⟩, cN 2 1 ⟨#[47, 100, 47, 102]⟩]
def ts : Nat → PSt
 | 0 => t0
 | 1 => t1
 | 2 => t2
 | 3 => t3
 | 4 => t4
 | _ => t5
theorem two_did : ∀ j, j < 5 → ∃ c, twoL[j]? = some c ∧ RDid (ts j) c.kind c.core c.fd c.off c.num c.path c.path2 c.data (ts (j + 1)) 0 := by
 intro j hj
 have : j = 0 ∨ j = 1 ∨ j = 2 ∨ j = 3 ∨ j = 4 := by omega
 rcases this with rfl | rfl | rfl | rfl | rfl
 · exact ⟨_, rfl, e1⟩
 · exact ⟨_, rfl, e2⟩
 · exact ⟨_, rfl, e3⟩
 · exact ⟨_, rfl, e4⟩
 · exact ⟨_, rfl, e5⟩
def CRow (w : World) (g : Nat) (cs : List PCall) : Prop := Blk w g (cs.map PCall.cells).flatten.toArray 28
theorem CRow.at_ {w : World} {g : Nat} {cs : List PCall} (h : CRow w g cs) {j : Nat} {c : PCall} (hc : cs[j]? = some c) : ∀ t u, (PCall.cells c)[t]? = some u → w.cell? ⟨g, j * 8 + t, none⟩ = some u := by
 intro t u hu
 have ht : t < 8 := by
  obtain ⟨h, _⟩ := gI.1 hu; exact h
 rw [Blk.cell h]
 have := flat_at 8 (cs.map PCall.cells) (fun l hl => by obtain ⟨c, _, rfl⟩ := List.mem_map.1 hl; rfl) j t ht
 simp only [List.getElem?_toArray]
 rw [this, gM, hc]
 exact hu
theorem StOwn.with_le {B N : Nat} {w : World} {iv ov mv : Value} {S : PSt} (h : StOwn N w iv ov mv S) (hB : B ≤ N) : StOwn N w iv ov mv S ∧ B ≤ N := ⟨h, hB⟩
structure TW (w wr : World) (g1 gS : Nat) (a1 : Option Addr) (a2 a3 : Nat) (a4 : Option Addr) (a5 a6 : Nat) (a7 : Option Addr) (a8 a9 : Nat) (S : PSt) : Prop where
 st : StOwn (w.heap.size + 1) wr (.slice a1 a2 a3) (.slice a4 a5 a6) (.slice a7 a8 a9) S
 b1 : Blk wr g1 #[.slice a1 a2 a3, .slice a4 a5 a6, .slice a7 a8 a9] 26
 row : CRow wr gS twoL
 b0 : Blk wr w.heap.size #[.slice none 0 0, .slice none 0 0, .slice none 0 0] 26
 below : Below w.heap.size w wr
theorem two65 (w : World) : Calls Tryz.prog 65 #[] w fun e w' => ∃ iv ov mv, e = .returned (.agg #[iv, ov, mv]) ∧ Below w.heap.size w w' ∧ StRead w' iv ov mv t5 := by
 have hnew : ∀ ww, Below w.heap.size w ww → Calls Tryz.prog 51 #[.int .i64 4] ww _ := fun ww hb => new11o 4 (by omega) (by omega) ww
 go_enter Tryz.func65, Tryz.ntmps65
 go_upto_region 2 with (go_at_call 51; refine (hnew _ (bel w _)).mono ?_; rintro e w1 ⟨iv, ov, mv, rfl, hb1, hst⟩; obtain ⟨ai, ni, ci, ao, no, co, am, nm, cm, rfl, rfl, rfl⟩ := hst.forms; obtain ⟨p, rfl⟩ := hb1.rest; have HST := Lib.hid (hst.mono (B' := w.heap.size + 1) (by simp)); clear hst hb1)
 refine abs_world (F := fun W => StOwn (w.heap.size + 1) W (.slice ai ni ci) (.slice ao no co) (.slice am nm cm) t0 ∧ Blk W (w.heap.size + 1 + p.len) #[.slice ai ni ci, .slice ao no co, .slice am nm cm] 26 ∧ Blk W w.heap.size #[.slice none 0 0, .slice none 0 0, .slice none 0 0] 26 ∧ Below w.heap.size w W) ⟨HST.out.on (bel _ _), Blk.new_i _ _ _ _, Blk.alloc (Blk.junk (Blk.new_i _ _ _ _) _) _, bel w _⟩ ?_
 obtain ⟨g11, hg11⟩ : ∃ g, w.heap.size + 1 + p.len = g := ⟨_, rfl⟩
 have hgl : w.heap.size + 1 ≤ g11 := by omega
 rw [hg11]
 clear HST hg11 hnew
 rintro W ⟨hst, h11, h6, hbw⟩
 have i11 := h11.lt
 have HW := Lib.hid (And.intro hst (And.intro h11 (And.intro h6 hbw)))
 clear hst h11 h6 hbw
 go_upto_region 3 with fail
 refine abs_world (F := fun W' => TW w W' g11 W.heap.size ai ni ci ao no co am nm cm (ts 0)) ⟨HW.out.1.on (bel W _), blk_on HW.out.2.1 (bel W _), Blk.new_i _ _ _ _, blk_on HW.out.2.2.1 (bel W _), HW.out.2.2.2.trans ((bel W _).mono HW.out.2.2.2.size)⟩ ?_
 obtain ⟨gS, hgS⟩ : ∃ g, W.heap.size = g := ⟨_, rfl⟩
 rw [hgS]
 clear HW hgS i11
 intro W' hP0
 have HP0 := Lib.hid hP0
 clear hP0
 go_upto_region 4 with fail
 go_loopw [4] (fun v14 wr => ∃ (j : Nat) (a1 : Option Addr) (a2 a3 : Nat) (a4 : Option Addr) (a5 a6 : Nat) (a7 : Option Addr) (a8 a9 : Nat), v14 = .int .i64 j ∧ j ≤ 5 ∧ TW w wr g11 gS a1 a2 a3 a4 a5 a6 a7 a8 a9 (ts j)) (fun v14 _ => (5 - intOf v14).toNat)
 case atStart => exact ⟨0, _, _, _, _, _, _, _, _, _, rfl, by omega, HP0.out⟩
 case round =>
  obtain ⟨j, a1, a2, a3, a4, a5, a6, a7, a8, a9, rfl, hj, hP⟩ := hrel; by_cases hlt : j < 5
  · have hltI : (j : Int) < 5 := by omega
    obtain ⟨c, hc, hd⟩ := two_did j hlt; have y0 := hP.row.at_ hc 0 _ rfl; have y1 := hP.row.at_ hc 1 _ rfl; have y2 := hP.row.at_ hc 2 _ rfl; have y3 := hP.row.at_ hc 3 _ rfl; have y4 := hP.row.at_ hc 4 _ rfl; have y5 := hP.row.at_ hc 5 _ rfl; have y6 := hP.row.at_ hc 6 _ rfl; have y7 := hP.row.at_ hc 7 _ rfl; rw [Nat.add_zero] at y0; have x0 := hP.b1.cell 0; have x1 := hP.b1.cell 1; have x2 := hP.b1.cell 2; simp at x0 x1 x2; have iR := hP.row.lt; have i11 := hP.b1.lt; unfold RDid resV at hd; have h15 := fun ww (hb : Below wr.heap.size wr ww) => hd ww _ _ _ (hP.st.read.below hb (Nat.le_refl _))
    have HP := Lib.hid hP; clear hP hd
    go_upto_region 6 with fail
    go_cut [5, 6] (fun v15 v16 wx => ∃ (g15 : Nat) (b1 : Option Addr) (b2 b3 : Nat) (b4 : Option Addr) (b5 b6 : Nat) (b7 : Option Addr) (b8 b9 : Nat), v15 = .pointer (some ⟨g15, 0, none⟩) ∧ Blk wx g15 #[.slice b1 b2 b3, .slice b4 b5 b6, .slice b7 b8 b9] 26 ∧ StOwn (w.heap.size + 1) wx (.slice b1 b2 b3) (.slice b4 b5 b6) (.slice b7 b8 b9) (ts (j + 1)) ∧ wr.heap.size ≤ g15 ∧ Below wr.heap.size wr wx)
    case first =>
     go_region_held3 (fun w' => w'.cell? ⟨g11, 0, none⟩ = some (.slice a1 a2 a3) ∧ w'.cell? ⟨g11, 1, none⟩ = some (.slice a4 a5 a6) ∧ w'.cell? ⟨g11, 2, none⟩ = some (.slice a7 a8 a9) ∧ w'.cell? ⟨gS, j * 8, none⟩ = some (.int .i64 c.kind) ∧ w'.cell? ⟨gS, j * 8 + 1, none⟩ = some (.int .i64 c.core) ∧ w'.cell? ⟨gS, j * 8 + 2, none⟩ = some (.int .i64 c.fd) ∧ w'.cell? ⟨gS, j * 8 + 3, none⟩ = some (.int .i64 c.off) ∧ w'.cell? ⟨gS, j * 8 + 4, none⟩ = some (.int .i64 c.num) ∧ w'.cell? ⟨gS, j * 8 + 5, none⟩ = some (.string c.path) ∧ w'.cell? ⟨gS, j * 8 + 6, none⟩ = some (.string c.path2) ∧ w'.cell? ⟨gS, j * 8 + 7, none⟩ = some (.string c.data))
      (first | (try dsimp only) <;> (repeat' apply And.intro) <;> go_simp)
      (first | (go_at_call 31; refine (h15 _ (bel wr _)).mono ?_; rintro e wa ⟨iv1, ov1, mv1, rfl, hb, hs1⟩; obtain ⟨pa, rfl⟩ := hb.rest; have hs2 := hs1.with_le (Nat.le_trans (show w.heap.size + 1 ≤ wr.heap.size by have := HP.out.b0.lt.lt; omega) (bel wr _).size); obtain ⟨b1, b2, b3, b4, b5, b6, b7, b8, b9, rfl, rfl, rfl⟩ := hs1.forms; have HS := Lib.hid hs2; clear hb hs1 hs2))
     all_goals go_wp2_with fail
     all_goals go_meet
     all_goals (refine ⟨_, b1, b2, b3, b4, b5, b6, b7, b8, b9, rfl, ?_, ?_, by omega, bel wr _⟩)
     all_goals first
      | ((repeat (first | exact Blk.new_i _ _ _ _ | refine Blk.alloc ?_ _ | refine Blk.junk ?_ _ | refine Blk.drew ?_)); done)
      | exact (HS.out.1.on (bel _ _)).mono HS.out.2
      | exact (HS.out.1.above _).mono HS.out.2
    case rest =>
     obtain ⟨g15, b1, b2, b3, b4, b5, b6, b7, b8, b9, rfl, h15b, hsb, hgr, hbx⟩ := hcut; clear x0 x1 x2 y0 y1 y2 y3 y4 y5 y6 y7 iR i11 h15; have hbw : Below w.heap.size w wc := HP.out.below.trans (hbx.mono HP.out.below.size); have hb11 := blk_on HP.out.b1 hbx; have h11r := HP.out.b1.lt.lt; have i15 := h15b.lt; have i11 := hb11.lt; have x0 := h15b.cell 0; have x1 := h15b.cell 1; have x2 := h15b.cell 2; have o0 := hb11.cell 0; have o1 := hb11.cell 1; have o2 := hb11.cell 2; have f0 := hb11.frozen 0; have f1 := hb11.frozen 1; have f2 := hb11.frozen 2; simp at x0 x1 x2 o0 o1 o2; have n1 : ¬ g15 = g11 := by omega
     have n2 : ¬ g11 = g15 := by omega
     have hK : Keep (fun g => g = g11) wc (((wc.setCell ⟨g11, 0, none⟩ (.slice b1 b2 b3)).setCell ⟨g11, 1, none⟩ (.slice b4 b5 b6)).setCell ⟨g11, 2, none⟩ (.slice b7 b8 b9)) := (((Keep.refl (fun g => g = g11) wc).setCell (p := ⟨g11, 0, none⟩) (.inl rfl) _).setCell (p := ⟨g11, 1, none⟩) (.inl rfl) _).setCell (p := ⟨g11, 2, none⟩) (.inl rfl) _; have hP' : TW w (((wc.setCell ⟨g11, 0, none⟩ (.slice b1 b2 b3)).setCell ⟨g11, 1, none⟩ (.slice b4 b5 b6)).setCell ⟨g11, 2, none⟩ (.slice b7 b8 b9)) g11 gS b1 b2 b3 b4 b5 b6 b7 b8 b9 (ts (j + 1)) := {
      st := hsb.keep hK (fun g hg => by rw [hg]; exact ⟨_, 26, hb11, by decide, by decide, by decide, by decide⟩)
      b1 := ((hb11.set_ 0 _).set_ 1 _).set_ 2 _
      row := hK.blk (blk_on HP.out.row hbx) (fun e => by subst e; exact (blk_on HP.out.row hbx).ne_ hb11 (by decide) rfl)
      b0 := hK.blk (blk_on HP.out.b0 hbx) (by omega)
      below := hbw.trans (hK.below hbw.size (fun i hi e => by omega)) }
     have HN := Lib.hid hP'; clear hP' hK hb11 h15b hsb hbx hbw HP; go_wp2_with fail
     go_roundw
     case rel => exact ⟨j + 1, b1, b2, b3, b4, b5, b6, b7, b8, b9, by go_num, by omega, HN.out⟩
     case measure => simp [intOf]; omega
  · have hj6 : j = 5 := by omega
    subst hj6; have x0 := hP.b1.cell 0; have x1 := hP.b1.cell 1; have x2 := hP.b1.cell 2; have o0 := hP.b0.cell 0; have o1 := hP.b0.cell 1; have o2 := hP.b0.cell 2; have f0 := hP.b0.frozen 0; have f1 := hP.b0.frozen 1; have f2 := hP.b0.frozen 2; simp at x0 x1 x2 o0 o1 o2; have i11 := hP.b1.lt; have i0 := hP.b0.lt; have n1 : ¬ g11 = w.heap.size := by omega
    have n2 : ¬ w.heap.size = g11 := by omega
    have HP := Lib.hid hP; clear hP; go_wp2_with fail; have hK : Keep (fun g => g = w.heap.size) wr (((wr.setCell ⟨w.heap.size, 0, none⟩ (.slice a1 a2 a3)).setCell ⟨w.heap.size, 1, none⟩ (.slice a4 a5 a6)).setCell ⟨w.heap.size, 2, none⟩ (.slice a7 a8 a9)) := (((Keep.refl (fun g => g = w.heap.size) wr).setCell (p := ⟨w.heap.size, 0, none⟩) (.inl rfl) _).setCell (p := ⟨w.heap.size, 1, none⟩) (.inl rfl) _).setCell (p := ⟨w.heap.size, 2, none⟩) (.inl rfl) _; have hfin := HP.out.st.keep hK (fun g hg => by rw [hg]; exact ⟨_, 26, HP.out.b0, by decide, by decide, by decide, by decide⟩); have hbf := HP.out.below.trans (hK.below HP.out.below.size (fun i hi e => by omega)); refine bodyPost_ret (v := .agg #[.slice a1 a2 a3, .slice a4 a5 a6, .slice a7 a8 a9]) (by unfold results; simp only [Tryz.results65]; go_simp) rfl ⟨_, _, _, rfl, hbf, hfin.read⟩
end Go.Proofs.YtmkapobnfigedaaGreatDoor
