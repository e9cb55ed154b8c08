/- Part of the proof that the named pairs of calls commute. Conditions: none. -/
import Derived.Test.YtjkenolgkkknaaaGreatDoorPp37
import Derived.Test.YtjkenolgkkknaaaGreatDoorPp34
set_option linter.unusedVariables false
set_option linter.unusedSimpArgs false
set_option maxRecDepth 100000
set_option maxHeartbeats 8000000
namespace Go.Proofs.YtjkenolgkkknaaaGreatDoor
open Go.RowKit
theorem evalT (a : Act) (k : Tmp) : a.eval (.tmp k) = (a.tmps[k]?).getD undef := by simp [Act.eval, go_sem]
theorem eff_val {P : Program} {o : Oper} {a : Act} {w w' : World} {K : Value → World → Prop} {v : Value} (h : (execOp a.eval o).run P w = .ok (.value v) w') (hk : K v w') : o.eff P a w K := by
 unfold Oper.eff
 rw [h]
 exact hk
theorem eff_skip {P : Program} {o : Oper} {a : Act} {w w' : World} {K : Value → World → Prop} (h : (execOp a.eval o).run P w = .ok .skip w') (hk : K undef w') : o.eff P a w K := by
 unfold Oper.eff
 rw [h]
 exact hk
def px : ByteArray := ⟨#[47, 120]⟩
def sixL : List PCall := [⟨0, 0, 0, 0, 0, px, nil, nil⟩, ⟨2, 0, 0, 0, 0, px, nil, nil⟩, ⟨2, 1, 0, 0, 0, px, nil, nil⟩, ⟨5, 0, 0, 0, 0, nil, nil, z200⟩, ⟨1, 0, 0, 0, 0, ⟨#[47, 100]⟩, nil, nil⟩, ⟨1, 1, 0, 0, 0, ⟨#[47, 101]⟩, nil, nil⟩]
def qs : Nat → PSt
 | 0 => s2
 | 1 => q1
 | 2 => q2
 | 3 => q3
 | 4 => q4
 | 5 => q5
 | _ => s6
theorem six_did : ∀ j, j < 6 → ∃ c r, sixL[j]? = some c ∧ RDid (qs j) c.kind c.core c.fd c.off c.num c.path c.path2 c.data (qs (j + 1)) r := by
 intro j hj
 have : j = 0 ∨ j = 1 ∨ j = 2 ∨ j = 3 ∨ j = 4 ∨ j = 5 := by omega
 rcases this with rfl | rfl | rfl | rfl | rfl | rfl
 · exact ⟨_, _, rfl, d1⟩
 · exact ⟨_, _, rfl, d2⟩
 · exact ⟨_, _, rfl, d3⟩
 · exact ⟨_, _, rfl, d4⟩
 · exact ⟨_, _, rfl, d5⟩
 · exact ⟨_, _, rfl, d6⟩
def cells8 (c : PCall) : List Value := [.int .i64 c.kind, .int .i64 c.core, .int .i64 c.fd, .int .i64 c.off, .int .i64 c.num, .string c.path, .string c.path2, .string c.data]
def CRow (w : World) (g : Nat) (cs : List PCall) : Prop := Blk w g (cs.map cells8).flatten.toArray 29
theorem CRow.at_ {w : World} {g : Nat} {cs : List PCall} (h : CRow w g cs) {j : Nat} {c : PCall} (hc : cs[j]? = some c) : ∀ t u, (cells8 c)[t]? = some u → w.cell? ⟨g, j * 8 + t, none⟩ = some u := by
 intro t u hu
 have ht : t < 8 := by
  obtain ⟨h, _⟩ := gI.1 hu; exact h
 rw [Blk.cell h]
 have := flat_at 8 (cs.map cells8) (fun l hl => by obtain ⟨c, _, rfl⟩ := List.mem_map.1 hl; rfl) j t ht
 simp only [List.getElem?_toArray]
 rw [this, gM, hc]
 exact hu
theorem StOwn.with_le {B N : Nat} {w : World} {iv ov mv : Value} {S : PSt} (h : StOwn N w iv ov mv S) (hB : B ≤ N) : StOwn N w iv ov mv S ∧ B ≤ N := ⟨h, hB⟩
structure PW (w wr : World) (g11 gS : Nat) (a1 : Option Addr) (a2 a3 : Nat) (a4 : Option Addr) (a5 a6 : Nat) (a7 : Option Addr) (a8 a9 : Nat) (S : PSt) : Prop where
 st : StOwn (w.heap.size + 3) wr (.slice a1 a2 a3) (.slice a4 a5 a6) (.slice a7 a8 a9) S
 b11 : Blk wr g11 #[.slice a1 a2 a3, .slice a4 a5 a6, .slice a7 a8 a9] 27
 row : CRow wr gS sixL
 b6 : Blk wr w.heap.size #[.slice none 0 0, .slice none 0 0, .slice none 0 0] 27
 b7 : Blk wr (w.heap.size + 1) #[.int .i64 0, .int .i64 0, .int .i64 0, .int .i64 0, .int .i64 0, .string nil, .string nil, .string nil] 29
 b8 : Blk wr (w.heap.size + 1 + 1) #[.int .i64 0, .int .i64 0, .int .i64 0, .int .i64 0, .int .i64 0, .string nil, .string nil, .string nil] 29
 below : Below w.heap.size w wr
theorem PW.on {w wr w' : World} {g11 gS : Nat} {a1 : Option Addr} {a2 a3 : Nat} {a4 : Option Addr} {a5 a6 : Nat} {a7 : Option Addr} {a8 a9 : Nat} {S : PSt} (h : PW w wr g11 gS a1 a2 a3 a4 a5 a6 a7 a8 a9 S) (hb : Below wr.heap.size wr w') : PW w w' g11 gS a1 a2 a3 a4 a5 a6 a7 a8 a9 S :=
 ⟨h.st.on hb, blk_on h.b11 hb, blk_on h.row hb, blk_on h.b6 hb, blk_on h.b7 hb, blk_on h.b8 hb, h.below.trans (hb.mono h.below.size)⟩
noncomputable def dropSeq : Nat → Code → Code
 | 0, c => c
 | n + 1, .seq _ c => dropSeq n c
 | _, c => c
noncomputable def seqL : Code → Code
 | .seq c _ => c
 | c => c
noncomputable def seqR : Code → Code
 | .seq _ c => c
 | c => c
noncomputable def tail9 : Code := dropSeq 5 (Tryz.f8.body.getD .skip)
def actP (which i k : Int) (w : World) (g11 : Nat) (u : Nat → Value) : Act := ⟨#[.int .i64 which, .int .i64 i, .int .i64 k, u 3, u 4, u 5, .pointer (some ⟨w.heap.size, 0, none⟩), .pointer (some ⟨w.heap.size + 1, 0, none⟩), .pointer (some ⟨w.heap.size + 1 + 1, 0, none⟩), .bool false, .bool false, .pointer (some ⟨g11, 0, none⟩), u 12, u 13, u 14, u 15, u 16, .int .i64 (i % 16), .int .i64 (k % 16), u 19, u 20, u 21, u 22, u 23, u 24, u 25, u 26, u 27, u 28, u 29, u 30, u 31, u 32, u 33, u 34, u 35, u 36, u 37, u 38, u 39, u 40, u 41, u 42, u 43, u 44, u 45, u 46, u 47, u 48, u 49, u 50, u 51, u 52, u 53, u 54, u 55, u 56, u 57, u 58, u 59, u 60, u 61, u 62, u 63, u 64, u 65, u 66, u 67, u 68, u 69, u 70, u 71, u 72, u 73, u 74, u 75, u 76, u 77, u 78, u 79, u 80, u 81, u 82, u 83, u 84, u 85, u 86, u 87, u 88, u 89, u 90, u 91, u 92, u 93, u 94, u 95, u 96, u 97, u 98, u 99, u 100, u 101, u 102, u 103, u 104, u 105, u 106, u 107, u 108, u 109, u 110, u 111, u 112, u 113, u 114, u 115, u 116, u 117, u 118, u 119, u 120, u 121, u 122, u 123, u 124, u 125, u 126, u 127, u 128, u 129, u 130, u 131, u 132, u 133, u 134, u 135, u 136, u 137, u 138, u 139, u 140, u 141, u 142, u 143, u 144, u 145, u 146, u 147, u 148, u 149, u 150, u 151, u 152, u 153, u 154, u 155, u 156, u 157, u 158, u 159, u 160, u 161, u 162, u 163, u 164, u 165, u 166, u 167, u 168, u 169, u 170, u 171, u 172, u 173, u 174, u 175, u 176, u 177, u 178, u 179, u 180, u 181, u 182, u 183, u 184, u 185, u 186, u 187, u 188, u 189, u 190, u 191, u 192, u 193, u 194, u 195, u 196, u 197, u 198, u 199, u 200, u 201, u 202, u 203, u 204, u 205, u 206, u 207, u 208, u 209, u 210, u 211, u 212, u 213, u 214, u 215, u 216, u 217, u 218, u 219, u 220, u 221, u 222, u 223, u 224, u 225, u 226, u 227, u 228, u 229, u 230], []⟩
theorem pair_calls (which i k : Int) (w : World) (Post : Ending → World → Prop)
 (hcont : ∀ (wr : World) (g11 gS : Nat) (a1 : Option Addr) (a2 a3 : Nat) (a4 : Option Addr) (a5 a6 : Nat) (a7 : Option Addr) (a8 a9 : Nat) (act : Act) (K : Act → World → Prop), act = actP which i k w g11 (fun j => (act.tmps[j]?).getD undef) → (∀ a w, (seqR tail9).wp Tryz.prog (bodyPost Tryz.prog Tryz.f8 Post) a w → K a w) → w.heap.size + 3 ≤ g11 → PW w wr g11 gS a1 a2 a3 a4 a5 a6 a7 a8 a9 (qs 6) → (seqL tail9).wp Tryz.prog (Exit.then K (bodyPost Tryz.prog Tryz.f8 Post)) act wr) : Calls Tryz.prog 8 #[.int .i64 which, .int .i64 i, .int .i64 k] w Post := by
 have hnew : ∀ ww, Below w.heap.size w ww → Calls Tryz.prog 11 #[.int .i64 2] ww _ := fun ww hb => new11o 2 (by omega) (by omega) ww
 go_enter Tryz.func8, Tryz.ntmps8
 go_upto_region 2 with (go_at_call 11; refine (hnew _ (bel w _)).mono ?_; rintro e w1 ⟨iv, ov, mv, rfl, hb1, hst⟩; obtain ⟨ai, ni, ci, ao, no, co, am, nm, cm, rfl, rfl, rfl⟩ := hst.forms; obtain ⟨p, rfl⟩ := hb1.rest; have HST := Lib.hid (hst.mono (B' := w.heap.size + 3) (by simp)); clear hst hb1)
 refine abs_world (F := fun W => StOwn (w.heap.size + 3) W (.slice ai ni ci) (.slice ao no co) (.slice am nm cm) s2 ∧ Blk W (w.heap.size + 1 + 1 + 1 + p.len) #[.slice ai ni ci, .slice ao no co, .slice am nm cm] 27 ∧ Blk W w.heap.size #[.slice none 0 0, .slice none 0 0, .slice none 0 0] 27 ∧ Blk W (w.heap.size + 1) #[.int .i64 0, .int .i64 0, .int .i64 0, .int .i64 0, .int .i64 0, .string nil, .string nil, .string nil] 29 ∧ Blk W (w.heap.size + 1 + 1) #[.int .i64 0, .int .i64 0, .int .i64 0, .int .i64 0, .int .i64 0, .string nil, .string nil, .string nil] 29 ∧ Below w.heap.size w W) ⟨HST.out.on (bel _ _), Blk.new_i _ _ _ _, Blk.alloc (Blk.junk (Blk.alloc (Blk.alloc (Blk.new_i _ _ _ _) _) _) _) _, Blk.alloc (Blk.junk (Blk.alloc (Blk.new_i _ _ _ _) _) _) _, Blk.alloc (Blk.junk (Blk.new_i _ _ _ _) _) _, bel w _⟩ ?_
 obtain ⟨g11, hg11⟩ : ∃ g, w.heap.size + 1 + 1 + 1 + p.len = g := ⟨_, rfl⟩
 have hgl : w.heap.size + 3 ≤ g11 := by omega
 rw [hg11]
 clear HST hg11 hnew
 rintro W ⟨hst, h11, h6, h7, h8, hbw⟩
 have hmk := mk200 W
 have hcv := cv200 (W.alloc (.cells zrow 5)) W.heap.size (Blk.new W _ _)
 have i11 := h11.lt
 have HW := Lib.hid (And.intro hst (And.intro h11 (And.intro h6 (And.intro h7 (And.intro h8 hbw)))))
 clear hst h11 h6 h7 h8 hbw
 go_upto_region 3 with fail
 refine abs_world (F := fun W' => PW w W' g11 (W.heap.size + 1) ai ni ci ao no co am nm cm (qs 0)) ⟨HW.out.1.on (bel W _), blk_on HW.out.2.1 (bel W _), Blk.new_i _ _ _ _, blk_on HW.out.2.2.1 (bel W _), blk_on HW.out.2.2.2.1 (bel W _), blk_on HW.out.2.2.2.2.1 (bel W _), HW.out.2.2.2.2.2.trans ((bel W _).mono HW.out.2.2.2.2.2.size)⟩ ?_
 obtain ⟨gS, hgS⟩ : ∃ g, W.heap.size + 1 = g := ⟨_, rfl⟩
 rw [hgS]
 clear HW hgS hmk hcv i11
 intro W' hP0
 have HP0 := Lib.hid hP0
 clear hP0
 obtain ⟨z, hz⟩ : ∃ z, z200 = z := ⟨_, rfl⟩
 simp only [hz]
 go_upto_region 4 with fail
 go_loopw [14] (fun v14 wr => ∃ (j : Nat) (a1 : Option Addr) (a2 a3 : Nat) (a4 : Option Addr) (a5 a6 : Nat) (a7 : Option Addr) (a8 a9 : Nat), v14 = .int .i64 j ∧ j ≤ 6 ∧ PW w wr g11 gS a1 a2 a3 a4 a5 a6 a7 a8 a9 (qs j)) (fun v14 _ => (6 - intOf v14).toNat)
 case atStart => exact ⟨0, _, _, _, _, _, _, _, _, _, rfl, by omega, HP0.out⟩
 case round =>
  obtain ⟨j, a1, a2, a3, a4, a5, a6, a7, a8, a9, rfl, hj, hP⟩ := hrel; by_cases hlt : j < 6
  · have hltI : (j : Int) < 6 := by omega
    obtain ⟨c, r, hc, hd⟩ := six_did j hlt; have y0 := hP.row.at_ hc 0 _ rfl; have y1 := hP.row.at_ hc 1 _ rfl; have y2 := hP.row.at_ hc 2 _ rfl; have y3 := hP.row.at_ hc 3 _ rfl; have y4 := hP.row.at_ hc 4 _ rfl; have y5 := hP.row.at_ hc 5 _ rfl; have y6 := hP.row.at_ hc 6 _ rfl; have y7 := hP.row.at_ hc 7 _ rfl; rw [Nat.add_zero] at y0; have x0 := hP.b11.cell 0; have x1 := hP.b11.cell 1; have x2 := hP.b11.cell 2; simp at x0 x1 x2; have iR := hP.row.lt; have i11 := hP.b11.lt; unfold RDid resV at hd; have h15 := fun ww (hb : Below wr.heap.size wr ww) => hd ww _ _ _ (hP.st.read.below hb (Nat.le_refl _))
    have HP := Lib.hid hP; clear hP hd
    go_upto_region 6 with fail
    go_cut [15, 16] (fun v15 v16 wx => ∃ (g15 : Nat) (b1 : Option Addr) (b2 b3 : Nat) (b4 : Option Addr) (b5 b6 : Nat) (b7 : Option Addr) (b8 b9 : Nat), v15 = .pointer (some ⟨g15, 0, none⟩) ∧ Blk wx g15 #[.slice b1 b2 b3, .slice b4 b5 b6, .slice b7 b8 b9] 27 ∧ StOwn (w.heap.size + 3) wx (.slice b1 b2 b3) (.slice b4 b5 b6) (.slice b7 b8 b9) (qs (j + 1)) ∧ wr.heap.size ≤ g15 ∧ Below wr.heap.size wr wx)
    case first =>
     go_region_held3 (fun w' => w'.cell? ⟨g11, 0, none⟩ = some (.slice a1 a2 a3) ∧ w'.cell? ⟨g11, 1, none⟩ = some (.slice a4 a5 a6) ∧ w'.cell? ⟨g11, 2, none⟩ = some (.slice a7 a8 a9) ∧ w'.cell? ⟨gS, j * 8, none⟩ = some (.int .i64 c.kind) ∧ w'.cell? ⟨gS, j * 8 + 1, none⟩ = some (.int .i64 c.core) ∧ w'.cell? ⟨gS, j * 8 + 2, none⟩ = some (.int .i64 c.fd) ∧ w'.cell? ⟨gS, j * 8 + 3, none⟩ = some (.int .i64 c.off) ∧ w'.cell? ⟨gS, j * 8 + 4, none⟩ = some (.int .i64 c.num) ∧ w'.cell? ⟨gS, j * 8 + 5, none⟩ = some (.string c.path) ∧ w'.cell? ⟨gS, j * 8 + 6, none⟩ = some (.string c.path2) ∧ w'.cell? ⟨gS, j * 8 + 7, none⟩ = some (.string c.data))
      (first | (try dsimp only) <;> (repeat' apply And.intro) <;> go_simp)
      (first | (go_at_call 15; refine (h15 _ (bel wr _)).mono ?_; rintro e wa ⟨iv1, ov1, mv1, rfl, hb, hs1⟩; obtain ⟨pa, rfl⟩ := hb.rest; have hs2 := hs1.with_le (Nat.le_trans (show w.heap.size + 3 ≤ wr.heap.size by have := HP.out.b8.lt.lt; omega) (bel wr _).size); obtain ⟨b1, b2, b3, b4, b5, b6, b7, b8, b9, rfl, rfl, rfl⟩ := hs1.forms; have HS := Lib.hid hs2; clear hb hs1 hs2))
     all_goals go_wp2_with fail
     all_goals go_meet
     all_goals (refine ⟨_, b1, b2, b3, b4, b5, b6, b7, b8, b9, rfl, ?_, ?_, by omega, bel wr _⟩)
     all_goals first
      | ((repeat (first | exact Blk.new_i _ _ _ _ | refine Blk.alloc ?_ _ | refine Blk.junk ?_ _ | refine Blk.drew ?_)); done)
      | exact (HS.out.1.on (bel _ _)).mono HS.out.2
      | exact (HS.out.1.above _).mono HS.out.2
    case rest =>
     obtain ⟨g15, b1, b2, b3, b4, b5, b6, b7, b8, b9, rfl, h15b, hsb, hgr, hbx⟩ := hcut; clear x0 x1 x2 y0 y1 y2 y3 y4 y5 y6 y7 iR i11 h15; have hbw : Below w.heap.size w wc := HP.out.below.trans (hbx.mono HP.out.below.size); have hb11 := blk_on HP.out.b11 hbx; have h11r := HP.out.b11.lt.lt; have i15 := h15b.lt; have i11 := hb11.lt; have x0 := h15b.cell 0; have x1 := h15b.cell 1; have x2 := h15b.cell 2; have o0 := hb11.cell 0; have o1 := hb11.cell 1; have o2 := hb11.cell 2; have f0 := hb11.frozen 0; have f1 := hb11.frozen 1; have f2 := hb11.frozen 2; simp at x0 x1 x2 o0 o1 o2; have n1 : ¬ g15 = g11 := by omega
     have n2 : ¬ g11 = g15 := by omega
     have hK : Keep (fun g => g = g11) wc (((wc.setCell ⟨g11, 0, none⟩ (.slice b1 b2 b3)).setCell ⟨g11, 1, none⟩ (.slice b4 b5 b6)).setCell ⟨g11, 2, none⟩ (.slice b7 b8 b9)) := (((Keep.refl (fun g => g = g11) wc).setCell (p := ⟨g11, 0, none⟩) (.inl rfl) _).setCell (p := ⟨g11, 1, none⟩) (.inl rfl) _).setCell (p := ⟨g11, 2, none⟩) (.inl rfl) _; have hP' : PW w (((wc.setCell ⟨g11, 0, none⟩ (.slice b1 b2 b3)).setCell ⟨g11, 1, none⟩ (.slice b4 b5 b6)).setCell ⟨g11, 2, none⟩ (.slice b7 b8 b9)) g11 gS b1 b2 b3 b4 b5 b6 b7 b8 b9 (qs (j + 1)) := {
      st := hsb.keep hK (fun g hg => by rw [hg]; exact ⟨_, 27, hb11, by decide, by decide, by decide, by decide⟩)
      b11 := ((hb11.set_ 0 _).set_ 1 _).set_ 2 _
      row := hK.blk (blk_on HP.out.row hbx) (fun e => by subst e; exact (blk_on HP.out.row hbx).ne_ hb11 (by decide) rfl)
      b6 := hK.blk (blk_on HP.out.b6 hbx) (by omega)
      b7 := hK.blk (blk_on HP.out.b7 hbx) (by omega)
      b8 := hK.blk (blk_on HP.out.b8 hbx) (by omega)
      below := hbw.trans (hK.below hbw.size (fun i hi e => by omega)) }
     have HN := Lib.hid hP'; clear hP' hK hb11 h15b hsb hbx hbw HP; go_wp2_with fail
     go_roundw
     case rel => exact ⟨j + 1, b1, b2, b3, b4, b5, b6, b7, b8, b9, by go_num, by omega, HN.out⟩
     case measure => simp [intOf]; omega
  · have hj6 : j = 6 := by omega
    subst hj6; have HP := Lib.hid hP; clear hP
    go_upto_region 9 with fail
    rename_i hK9
    refine hcont wr g11 gS a1 a2 a3 a4 a5 a6 a7 a8 a9 _ _ ?_ hK9 hgl HP.out
    kernel_rfl
end Go.Proofs.YtjkenolgkkknaaaGreatDoor
