/- DependLeast's walk. Conditions: none. -/
import Derived.Test.YtmkapobnfigedaaGreatDoorEl50
set_option linter.unusedVariables false
set_option linter.unusedSimpArgs false
namespace Go.Proofs.YtmkapobnfigedaaGreatDoor
open Go.RowKit
structure LW (w : World) (iv ov mv : Value) (g : Nat) (inn : List Bool) (vag : Value) (zs : List Int) (wr : World) : Prop where
 below : Below w.heap.size w wr
 box : Blk wr w.heap.size #[iv, ov, mv] 26
 blk : Blk wr g (boolRow inn) 4
 ge : w.heap.size ≤ g
 ag : OwnP w.heap.size wr 3 1 vag (zs.map intCells)
theorem LW.later {w : World} {iv ov mv : Value} {g : Nat} {inn : List Bool} {vag : Value} {zs : List Int} {wr w' : World} (h : LW w iv ov mv g inn vag zs wr) (hb : Below wr.heap.size wr w') : LW w iv ov mv g inn vag zs w' :=
 ⟨h.below.trans (hb.mono h.below.size), h.box.below hb h.box.lt.lt, h.blk.below hb h.blk.lt.lt, h.ge, OwnP.keep h.ag (Keep.of_below hb (fun _ => False)) (fun _ _ h => h)⟩
theorem LW.more {w : World} {iv ov mv : Value} {g : Nat} {inn : List Bool} {vag v' : Value} {zs : List Int} {k : Int} {wr w1 w2 : World} (h : LW w iv ov mv g inn vag zs wr) (hb : Below wr.heap.size wr w1) (hG : Grew w.heap.size 3 1 w1 vag ((zs ++ [k]).map intCells) v' w2) : LW w iv ov mv g inn v' (zs ++ [k]) w2 := by
 have h1 := h.later hb
 obtain ⟨g1, g2, -⟩ := hG
 refine ⟨h1.below.trans (g2.below h1.below.size (fun i hi hg => by have := h1.ag.ge hg; omega)), g2.blk h1.box (fun hg => h1.ag.ne_blk h1.box (by decide) hg rfl), g2.blk h1.blk (fun hg => h1.ag.ne_blk h1.blk (by decide) hg rfl), h.ge, g1⟩
theorem LW.far {w : World} {iv ov mv : Value} {g : Nat} {inn : List Bool} {vag : Value} {zs : List Int} {wr : World} (h : LW w iv ov mv g inn vag zs wr) {b : Nat} {c : Array Value} (hb : Blk wr b c 4) (hne : b ≠ g) (hge : w.heap.size ≤ b) (i : Nat) (v : Value) : LW w iv ov mv g inn vag zs (wr.setCell ⟨b, i, none⟩ v) :=
 ⟨h.below.setCell (p := ⟨b, i, none⟩) hge v, h.box.far (a := ⟨b, i, none⟩) (h.box.ne_ hb (by decide)) v, h.blk.far (a := ⟨b, i, none⟩) (fun e => hne e.symm) v, h.ge, OwnP.keep h.ag (Keep.setCell (S := fun x => x = b) (p := ⟨b, i, none⟩) (Keep.refl _ wr) (.inl rfl) v) (fun x hx he => h.ag.ne_blk hb (by decide) hx he)⟩
def allU (n q : Nat) : List Bool := (List.range n).map fun i => decide (i < q)
theorem allU_len (n q : Nat) : (allU n q).length = n := by unfold allU; simp
theorem allU_get (n q i : Nat) : (allU n q)[i]? = if i < n then some (decide (i < q)) else none := by
 unfold allU
 rw [List.getElem?_map]
 by_cases h : i < n
 · rw [if_pos h, List.getElem?_range h]; rfl
 · rw [if_neg h, List.getElem?_eq_none (by simp; omega)]; rfl
theorem allU_0 (n : Nat) : allU n 0 = List.replicate n false := by
 apply List.ext_getElem?
 intro i
 rw [allU_get, List.getElem?_replicate]
 simp
theorem allU_n (n : Nat) : allU n n = List.replicate n true := by
 apply List.ext_getElem?
 intro i
 rw [allU_get, List.getElem?_replicate]
 by_cases h : i < n
 · rw [if_pos h, if_pos h, decide_eq_true h]
 · rw [if_neg h, if_neg h]
theorem allU_set (n q : Nat) : (allU n q).set q true = allU n (q + 1) := by
 apply List.ext_getElem?
 intro i
 rw [List.getElem?_set, allU_len, allU_get, allU_get]
 by_cases e : q = i
 · subst e
   rw [if_pos rfl]
   by_cases h : q < n
   · rw [if_pos h, if_pos h]; simp
   · rw [if_neg h, if_neg h]
 · rw [if_neg e]
   by_cases h : i < n
   · rw [if_pos h, if_pos h]
     congr 1
     rw [Bool.eq_iff_iff, decide_eq_true_iff, decide_eq_true_iff]
     omega
   · rw [if_neg h, if_neg h]
set_option maxRecDepth 100000 in
set_option maxHeartbeats 16000000 in
theorem least5 (iv ov mv : Value) (S : PSt) (cs : List PCall) (want : List Int) (vc vw : Value) (w : World) (h : StRead w iv ov mv S) (hwf : S.wf) (hc : RowAt w 8 vc (cs.map PCall.cells)) (hcd : ∀ c ∈ cs, c.data.size ≤ 1000000000000000000) (hcl : cs.length ≤ 2000000) (hw : RowAt w 1 vw (want.map intCells)) (hwl : want.length ≤ 1000000000) (hw64 : ∀ k ∈ want, I64 k) :
 Calls Tryz.prog 5 #[.agg #[iv, ov, mv], vc, vw] w fun e w' => e = .returned (.bool true) ∧ Below w.heap.size w w' := by
 have hawk := fun ww => awake20 ww
 have hmay := fun (ww : World) (hb : Below w.heap.size w ww) => may13r S iv ov mv ww (h.below hb (Nat.le_refl _)) hwf
 have hclo := fun (ww : World) (hb : Below w.heap.size w ww) => closure23 iv ov mv S cs want vc vw ww (h.below hb (Nat.le_refl _)) hwf (hc.below hb (Nat.le_refl _)) hcd hcl (hw.below hb (Nat.le_refl _)) hwl hw64
 have hclz := fun (ww : World) (hb : Below w.heap.size w ww) (zs : List Int) (vz : Value) (hz : RowAt ww 1 vz (zs.map intCells)) (h1 : zs.length ≤ 1000000000) (h2 : ∀ k ∈ zs, I64 k) => closure23 iv ov mv S cs zs vc vz ww (h.below hb (Nat.le_refl _)) hwf (hc.below hb (Nat.le_refl _)) hcd hcl hz h1 h2
 have hclosed := fun (ww : World) (hb : Below w.heap.size w ww) (inn : List Bool) (vi : Value) (hi : RowAt ww 1 vi (inn.map boolCells)) (hl : inn.length ≤ 1000000000) => closed26 iv ov mv S cs inn vc vi ww (h.below hb (Nat.le_refl _)) hwf (hc.below hb (Nat.le_refl _)) hcd (by omega) hi hl
 have o1 := h.1.one
 have o2 := h.2.1.one
 have o3 : iv.oneCell' = true := by obtain ⟨_, _, _, h3, _⟩ := h; exact h3.one
 obtain ⟨ac, cc, rfl, -⟩ := hc
 obtain ⟨aw, cw, rfl, hatw⟩ := hw.at_
 rw [List.length_map] at hclo hclz hclosed ⊢
 rw [List.length_map] at hclo
 rw [List.length_map]
 have HI := Lib.hid hatw
 clear h hw hatw
 by_cases h20 : (20 : Int) < cs.length
 · clear hmay hclo hclz hclosed
   go_enter Tryz.func5, Tryz.ntmps5
   go_wp2_with (go_at_call 20; refine (hawk _).mono ?_; rintro e w' ⟨rfl, hb⟩; obtain ⟨p, rfl⟩ := hb.rest; clear hb)
   go_ret
   exact ⟨rfl, bel _ _⟩
 rcases hmr : mayR S with _ | _
 · rw [hmr] at hmay
   clear hclo hclz hclosed hmr
   go_enter Tryz.func5, Tryz.ntmps5
   go_wp2_with (first | (go_at_call 20; refine (hawk _).mono ?_; rintro e w' ⟨rfl, hb⟩; obtain ⟨p, rfl⟩ := hb.rest; clear hb) | (go_at_call 30; refine (hmay _ (bel _ _)).mono ?_; rintro e w' ⟨rfl, hb⟩; obtain ⟨p, rfl⟩ := hb.rest; clear hb))
   go_ret
   exact ⟨rfl, bel _ _⟩
 have hmm := mayR_mayM hwf hmr
 rw [hmr] at hmay
 have L1 := closure_closed (cs := cs) (want := want) hmm
 have L2 := closure_again (cs := cs) (want := want) hmm
 have L3 := fun k hk hlt => closure_wanted (cs := cs) (want := want) hmm (k := k) hk hlt
 have L4 := closed_all (cs := cs) hmm
 have L5 := closed_none (cs := cs) hmm
 have L6 := closureM_len S cs want
 generalize closureM S cs want = inn at *
 have HL := Lib.hid (And.intro L1 (And.intro L2 (And.intro L3 (And.intro L4 (And.intro L5 L6)))))
 clear L1 L2 L3 L4 L5 L6 hmr hmm
 go_enter Tryz.func5, Tryz.ntmps5
 go_upto_region 6 with (first | (go_at_call 20; refine (hawk _).mono ?_; rintro e w' ⟨rfl, hb⟩; obtain ⟨p1, rfl⟩ := hb.rest; clear hb) | (go_at_call 30; refine (hmay _ (bel _ _)).mono ?_; rintro e w' ⟨rfl, hb⟩; obtain ⟨p2, rfl⟩ := hb.rest; clear hb) | (go_at_call 23; refine (hclo _ (bel _ _)).mono ?_; rintro e w5 ⟨hb5, g, rfl, hg5, hi5⟩))
 have hlw5 : LW w iv ov mv g inn (.slice none 0 0) [] w5 := ⟨(bel w ((w.alloc (.cells #[iv, ov, mv] 26)).junk (p1.more p2))).trans (hb5.mono (bel w _).size), ((Blk.new w #[iv, ov, mv] 26).junk (p1.more p2)).below hb5 (by simp; omega), hi5, by simp at hg5; omega, .inl ⟨rfl, rfl⟩⟩
 have hr5 : RowAt w5 1 (.slice (some ⟨g, 0, none⟩) cs.length cs.length) (inn.map boolCells) := row_blk (t := 4) hi5 (by rw [List.length_map]; exact HL.out.2.2.2.2.2) (by unfold maxLen; omega) (boolRow_rows inn)
 have hcl5 := fun (ww : World) (hb : Below w5.heap.size w5 ww) => hclosed ww (hlw5.below.trans (hb.mono hlw5.below.size)) inn _ (hr5.below hb (Nat.le_refl _)) (by rw [HL.out.2.2.2.2.2]; omega)
 rw [HL.out.1] at hcl5
 have k0 : w5.cell? ⟨w.heap.size, 0, none⟩ = some iv := hlw5.box.cell 0
 have k1 : w5.cell? ⟨w.heap.size, 1, none⟩ = some ov := hlw5.box.cell 1
 have k2 : w5.cell? ⟨w.heap.size, 2, none⟩ = some mv := hlw5.box.cell 2
 have ik := hlw5.box.lt
 have ig := hlw5.blk.lt
 have H5 := Lib.hid hlw5
 clear hlw5 hr5 hb5 hg5 hi5
 go_upto_region 8 with (go_at_call 26; refine (hcl5 _ (bel _ _)).mono ?_; rintro e w' ⟨rfl, hb⟩; obtain ⟨p3, rfl⟩ := hb.rest; clear hb)
 refine abs_world (F := fun wA => LW w iv ov mv g inn (.slice none 0 0) [] wA) (H5.out.later (bel w5 _)) ?_
 clear H5 hcl5 k0 k1 k2 ik ig
 intro wA hA
 have HA := Lib.hid hA
 have igA := hA.blk.lt
 clear hA
 go_wp2_with fail
 go_loopw [8, 9] (fun va vi wr => ∃ (q : Nat) (vx : Value), vi = .int .i64 q ∧ vx = va ∧ q ≤ cs.length ∧ LW w iv ov mv g inn vx (againU inn q) wr) (fun _ vi _ => (cs.length - intOf vi).toNat)
 case atStart => exact ⟨0, _, rfl, rfl, by omega, HA.out⟩
 case round =>
  obtain ⟨q, vx, rfl, rfl, hq, hlw⟩ := hrel
  have igr := hlw.blk.lt
  by_cases hlt : q < cs.length
  · obtain ⟨x, hx⟩ : ∃ x, inn[q]? = some x := ⟨_, List.getElem?_eq_getElem (by have := HL.out.2.2.2.2.2; omega)⟩
    have x0 : wr.cell? ⟨g, q, none⟩ = some (.bool x) := (hlw.blk.cell q).trans (boolRow_get hx)
    have g1 : (q : Int) < cs.length := by omega
    have hsu := againU_succ inn q
    have hxd : inn.getD q false = x := by rw [List.getD_eq_getElem?_getD, hx]; rfl
    rw [hxd] at hsu
    have HX := Lib.hid hlw
    have HS := Lib.hid hsu
    clear hlw hx hsu hxd
    rcases x with _ | _
    · go_wp2_with fail
      go_roundw
      case rel => exact ⟨q + 1, vx, by go_num, rfl, by omega, by have := HS.out; rw [if_neg (by decide), List.append_nil] at this; rw [this]; exact HX.out.later (bel wr _)⟩
      case measure => simp [intOf]; omega
    · have C1 := (HX.out.later (bel wr (wr.alloc (.cells #[.int .i64 q] 3)))).ag
      have C2 : RowAt (wr.alloc (.cells #[.int .i64 q] 3)) 1 (.slice (some ⟨wr.heap.size, 0, none⟩) 1 1) (([(q : Int)] : List Int).map intCells) := row_blk (t := 3) (Blk.new wr #[.int .i64 q] 3) rfl (by decide) (rows1 rfl)
      have C3 : w.heap.size ≤ (wr.alloc (.cells #[.int .i64 q] 3)).heap.size := by have := HX.out.below.size; simp; omega
      have C4 := againU_len inn q
      have CC := Lib.hid (And.intro C1 (And.intro C2 (And.intro C3 C4)))
      clear C1 C2 C3 C4
      go_wp2_with (at_builtin; refine app3 rfl _ _ rfl w.heap.size vx (.slice (some ⟨wr.heap.size, 0, none⟩) 1 1) (againU inn q) [(q : Int)] rfl rfl CC.out.1 CC.out.2.1 (by have := CC.out.2.2.2; simp; omega) CC.out.2.2.1 ?_)
      intro v' w2 hG
      have hG' : Grew w.heap.size 3 1 (wr.alloc (.cells #[.int .i64 q] 3)) vx ((againU inn q ++ [(q : Int)]).map intCells) v' w2 := by
       rw [List.map_append]
       first | exact hG | (rw [List.map_append] at hG; exact hG)
      have hm := HX.out.more (bel wr (wr.alloc (.cells #[.int .i64 q] 3))) hG'
      have hse : againU inn (q + 1) = againU inn q ++ [(q : Int)] := HS.out
      rw [← hse] at hm
      have HM := Lib.hid hm
      clear hG hG' hm hse
      go_wp2_with fail
      go_roundw
      case rel => exact ⟨q + 1, v', by go_num, rfl, by omega, HM.out⟩
      case measure => simp [intOf]; omega
  · have hqe : q = cs.length := by omega
    subst hqe
    have HX := Lib.hid hlw
    clear hlw
    have vg1 : ∃ a n c, vx = .slice a n c := by obtain ⟨a, c, h, -⟩ := HX.out.ag.row; exact ⟨a, _, c, h⟩
    obtain ⟨av, nv, cv, rfl⟩ := vg1
    obtain ⟨j0, ji, jz0, jz1, jz2⟩ := info_parts info4
    have hmk2 : ∀ u : World, (Instr.makeSlice 39 (.int .i64 cs.length) (.int .i64 cs.length)).run Tryz.prog u = .ok (.slice (some ⟨u.heap.size, 0, none⟩) cs.length cs.length) (u.alloc (.cells (boolRow (List.replicate cs.length false)) 4)) := fun u => by
     have := run_makeSlice (P := Tryz.prog) u 39 4 j0 _ Tryz.underlying39 ji jz0 .i64 .i64 cs.length cs.length (by omega) (Int.le_refl _) (by rw [jz1]; omega) (by rw [jz2]; omega) (by omega)
     unfold boolRow
     rw [← made_map (fun x => Value.bool x)]
     simpa [jz1, Value.cells] using this
    go_wp2_with fail
    go_loopw [10] (fun vi wr => ∃ q : Nat, vi = .int .i64 q ∧ q ≤ want.length ∧ LW w iv ov mv g inn (.slice av nv cv) (againU inn cs.length) wr) (fun vi _ => (want.length - intOf vi).toNat)
    case atStart => exact ⟨0, rfl, by omega, HX.out.later (bel wr _)⟩
    case round =>
     obtain ⟨q, rfl, hq2, hlw⟩ := hrel
     have igr2 := hlw.blk.lt
     by_cases hlt2 : q < want.length
     · obtain ⟨k, hk⟩ : ∃ k, want[q]? = some k := ⟨_, List.getElem?_eq_getElem hlt2⟩
       obtain ⟨bw, ow, rfl, iW0, iW, hcw⟩ := HI.out wr hlw.below q (intCells k) (by rw [List.getElem?_map, hk]; rfl)
       have w0 := hcw 0 _ rfl
       rw [Nat.mul_one, Nat.add_zero] at w0
       have g1 : (q : Int) < want.length := by omega
       have hkm := List.mem_of_getElem? hk
       have HY := Lib.hid hlw
       by_cases hk0 : 0 ≤ k
       · by_cases hk1 : k < cs.length
         · obtain ⟨m, rfl⟩ : ∃ m : Nat, k = m := ⟨k.toNat, by omega⟩
           have hm := HL.out.2.2.1 m hkm (by omega)
           have m0 : wr.cell? ⟨g, m, none⟩ = some (.bool true) := (hlw.blk.cell m).trans (boolRow_get hm)
           clear hlw hcw hk hm hkm
           go_wp2_with fail
           go_roundw
           case rel => exact ⟨q + 1, by go_num, by omega, HY.out.later (bel wr _)⟩
           case measure => simp [intOf]; omega
         · clear hlw hcw hk hkm
           go_wp2_with fail
           go_roundw
           case rel => exact ⟨q + 1, by go_num, by omega, HY.out.later (bel wr _)⟩
           case measure => simp [intOf]; omega
       · clear hlw hcw hk hkm
         go_wp2_with fail
         go_roundw
         case rel => exact ⟨q + 1, by go_num, by omega, HY.out.later (bel wr _)⟩
         case measure => simp [intOf]; omega
     · have HY := Lib.hid hlw
       clear hlw
       go_upto_region 21 with fail
       rw [← allU_0] at hmk2
       refine abs_world (F := fun wB => LW w iv ov mv g inn (.slice av nv cv) (againU inn cs.length) wB ∧ Blk wB wr.heap.size (boolRow (allU cs.length 0)) 4 ∧ Blk wB (wr.heap.size + 1) (boolRow (allU cs.length 0)) 4) ⟨HY.out.later (bel wr _), ?_, ?_⟩ ?_
       · rw [allU_0]; exact (Blk.new _ _ _).alloc _
       · rw [allU_0]; exact Blk.new_i _ _ _ _
       have hgl := igr2.lt
       have hwl2 := HY.out.below.size
       generalize wr.heap.size = gA at *
       rintro wB ⟨hlB, hAB, hNB⟩
       have HB := Lib.hid (And.intro hlB (And.intro hAB hNB))
       have igB := hAB.lt
       clear hlB hAB hNB igr2
       go_wp2_with fail
       go_loopw [13] (fun vi wr => ∃ q : Nat, vi = .int .i64 q ∧ q ≤ cs.length ∧ LW w iv ov mv g inn (.slice av nv cv) (againU inn cs.length) wr ∧ Blk wr gA (boolRow (allU cs.length q)) 4 ∧ Blk wr (gA + 1) (boolRow (allU cs.length 0)) 4) (fun vi _ => (cs.length - intOf vi).toNat)
       case atStart => exact ⟨0, rfl, by omega, HB.out.1.later (bel wB _), HB.out.2.1.below (bel wB _) HB.out.2.1.lt.lt, HB.out.2.2.below (bel wB _) HB.out.2.2.lt.lt⟩
       case round =>
        obtain ⟨q3, rfl, hq3, hlw, hA3, hN3⟩ := hrel
        rename World => wr3
        have igr3 := hA3.lt
        by_cases hlt3 : q3 < cs.length
        · obtain ⟨u, hu⟩ : ∃ u, wr3.cell? ⟨gA, q3, none⟩ = some u := ⟨_, by rw [hA3.cell]; exact Array.getElem?_eq_getElem (by unfold boolRow; simp [allU_len]; omega)⟩
          have fz := hA3.frozen q3
          have g1 : (q3 : Int) < cs.length := by omega
          have hl2 := hlw.far hA3 (by omega) (by omega) q3 (.bool true)
          have hA4 := hA3.set_ q3 (.bool true)
          rw [boolRow_set, allU_set] at hA4
          have hN4 := hN3.far (a := ⟨gA, q3, none⟩) (by simp) (.bool true)
          have HY3 := Lib.hid (And.intro hl2 (And.intro hA4 hN4))
          clear hl2 hA4 hN4 hlw hA3 hN3
          go_wp2_with fail
          go_roundw
          case rel => exact ⟨q3 + 1, by go_num, by omega, HY3.out.1, HY3.out.2.1, HY3.out.2.2⟩
          case measure => simp [intOf]; omega
        · have hqe3 : q3 = cs.length := by omega
          subst hqe3
          have il := HL.out.2.2.2.2.2
          have hag : RowAt wr3 1 (.slice av nv cv) ((againE inn).map intCells) := by
           have := hlw.ag.row
           rw [← il, againU_all] at this
           exact this
          have hagl : (againE inn).length ≤ 1000000000 := by
           rw [← againU_all]
           have := againU_len inn inn.length
           omega
          have hag64 : ∀ k ∈ againE inn, I64 k := by
           rw [← againU_all]
           exact againU_64 inn inn.length (by omega)
          have hri : RowAt wr3 1 (.slice (some ⟨g, 0, none⟩) cs.length cs.length) (inn.map boolCells) := row_blk (t := 4) hlw.blk (by rw [List.length_map]; exact il) (by unfold maxLen; omega) (boolRow_rows inn)
          have hrA : RowAt wr3 1 (.slice (some ⟨gA, 0, none⟩) cs.length cs.length) ((List.replicate cs.length true).map boolCells) := by
           rw [allU_n] at hA3
           exact row_blk (t := 4) hA3 (by simp) (by unfold maxLen; omega) (boolRow_rows _)
          have hrN : RowAt wr3 1 (.slice (some ⟨gA + 1, 0, none⟩) cs.length cs.length) ((List.replicate cs.length false).map boolCells) := by
           rw [allU_0] at hN3
           exact row_blk (t := 4) hN3 (by simp) (by unfold maxLen; omega) (boolRow_rows _)
          have hbw := hlw.below
          have c1 : ∀ ww, Below wr3.heap.size wr3 ww → Calls Tryz.prog 23 #[.agg #[iv, ov, mv], .slice ac cs.length cc, .slice av nv cv] ww fun e w' => Below ww.heap.size ww w' ∧ ∃ g, e = .returned (.slice (some ⟨g, 0, none⟩) cs.length cs.length) ∧ ww.heap.size ≤ g ∧ Blk w' g (boolRow inn) 4 := fun ww hb => by
           have := hclz ww (hbw.trans (hb.mono hbw.size)) (againE inn) _ (hag.below hb (Nat.le_refl _)) hagl hag64
           rw [HL.out.2.1] at this
           exact this
          have c2 : ∀ g2 ww, Below wr3.heap.size wr3 ww → Blk ww g2 (boolRow inn) 4 → Calls Tryz.prog 25 #[.slice (some ⟨g2, 0, none⟩) cs.length cs.length, .slice (some ⟨g, 0, none⟩) cs.length cs.length] ww fun e w' => e = .returned (.bool true) ∧ Below ww.heap.size ww w' := fun g2 ww hb hbk => by
           have hr2 : RowAt ww 1 (.slice (some ⟨g2, 0, none⟩) cs.length cs.length) (inn.map boolCells) := row_blk (t := 4) hbk (by rw [List.length_map]; exact il) (by unfold maxLen; omega) (boolRow_rows inn)
           have := sameBools25 inn inn _ _ ww hr2 (hri.below hb (Nat.le_refl _))
           have hee : (inn == inn) = true := beq_self_eq_true inn
           rw [hee] at this
           exact this
          have c3 : ∀ ww, Below wr3.heap.size wr3 ww → Calls Tryz.prog 26 #[.agg #[iv, ov, mv], .slice ac cs.length cc, .slice (some ⟨gA, 0, none⟩) cs.length cs.length] ww fun e w' => e = .returned (.bool true) ∧ Below ww.heap.size ww w' := fun ww hb => by
           have := hclosed ww (hbw.trans (hb.mono hbw.size)) (List.replicate cs.length true) _ (hrA.below hb (Nat.le_refl _)) (by simp; omega)
           rw [HL.out.2.2.2.1] at this
           exact this
          have c4 : ∀ ww, Below wr3.heap.size wr3 ww → Calls Tryz.prog 26 #[.agg #[iv, ov, mv], .slice ac cs.length cc, .slice (some ⟨gA + 1, 0, none⟩) cs.length cs.length] ww fun e w' => e = .returned (.bool true) ∧ Below ww.heap.size ww w' := fun ww hb => by
           have := hclosed ww (hbw.trans (hb.mono hbw.size)) (List.replicate cs.length false) _ (hrN.below hb (Nat.le_refl _)) (by simp; omega)
           rw [HL.out.2.2.2.2.1] at this
           exact this
          have k0 : wr3.cell? ⟨w.heap.size, 0, none⟩ = some iv := hlw.box.cell 0
          have k1 : wr3.cell? ⟨w.heap.size, 1, none⟩ = some ov := hlw.box.cell 1
          have k2 : wr3.cell? ⟨w.heap.size, 2, none⟩ = some mv := hlw.box.cell 2
          have ik := hlw.box.lt
          have HZ := Lib.hid hbw
          clear hag hagl hag64 hri hrA hrN hbw hlw hA3 hN3 hclz hclosed
          go_wp2_with (first | (go_at_call 23; with_reducible refine (c1 _ (bel _ _)).mono ?_; rintro e w6 ⟨hb6, g6, rfl, hg6, hi6⟩; obtain ⟨p6, rfl⟩ := hb6.rest; clear hb6 hg6) | (go_at_call 25; with_reducible refine (c2 _ _ (bel _ _) hi6).mono ?_; rintro e w' ⟨rfl, hb⟩; obtain ⟨p, rfl⟩ := hb.rest; clear hb) | (go_at_call 26; with_reducible refine (c3 _ (bel _ _)).mono ?_; rintro e w' ⟨rfl, hb⟩; obtain ⟨p, rfl⟩ := hb.rest; clear hb) | (go_at_call 26; with_reducible refine (c4 _ (bel _ _)).mono ?_; rintro e w' ⟨rfl, hb⟩; obtain ⟨p, rfl⟩ := hb.rest; clear hb))
          go_ret
          exact ⟨rfl, HZ.out.trans ((bel wr3 _).mono HZ.out.size)⟩
end Go.Proofs.YtmkapobnfigedaaGreatDoor
