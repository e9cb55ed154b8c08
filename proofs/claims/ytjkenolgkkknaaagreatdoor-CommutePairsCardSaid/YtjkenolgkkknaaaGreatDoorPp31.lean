/- Part of the proof that the named pairs of calls commute. Conditions: none. -/
import Derived.Test.YtjkenolgkkknaaaGreatDoorPp26
import Derived.Test.YtjkenolgkkknaaaGreatDoorPp29
import Derived.Lib.BufferWrite
import Derived.Lib.SlBytesRow
set_option linter.unusedVariables false
set_option linter.unusedSimpArgs false
set_option maxRecDepth 100000
set_option maxHeartbeats 8000000
namespace Go.Proofs.YtjkenolgkkknaaaGreatDoor
open Go.RowKit
theorem keep46n {wz : World} {r : Nat} {a0 a1 a2 a3 a4 a5 : Value} : Keep (fun g => g = r) wz ((((((wz.setCell ⟨r, 0, none⟩ a0).setCell ⟨r, 1, none⟩ a1).setCell ⟨r, 2, none⟩ a2).setCell ⟨r, 3, none⟩ a3).setCell ⟨r, 4, none⟩ a4).setCell ⟨r, 5, none⟩ a5) :=
 (((((((Keep.refl (fun g => g = r) wz).setCell (p := ⟨r, 0, none⟩) (.inl rfl) a0).setCell (p := ⟨r, 1, none⟩) (.inl rfl) a1).setCell (p := ⟨r, 2, none⟩) (.inl rfl) a2).setCell (p := ⟨r, 3, none⟩) (.inl rfl) a3).setCell (p := ⟨r, 4, none⟩) (.inl rfl) a4).setCell (p := ⟨r, 5, none⟩) (.inl rfl) a5)
theorem opened57 (B b : Nat) (S : PSt) (iv ov mv : Value) (kd core f0 off nu : Int) (p2 dt : ByteArray) (ch : UInt8) (num : Int) (K : Nat) (x : PIn) (w : World) (hb : Blk w b #[iv, ov, mv] 27) (ho : StOwn B w iv ov mv S) (hB : B ≤ w.heap.size) (hBb : B ≤ b) (hwf : S.wf) (hr : rootB S = true) (hch : ch ≠ 47) (hck : checkR (n1 ch) = 0)
 (hent : entryR S 1 (n1 ch) = num) (hn0 : num ≠ 0) (hat : atR S num = K) (hx : S.ins[K]? = some x) (hd : x.dir = false) (hfd : ∀ i : Int, 0 ≤ i → i ≤ 3 → fdR S core i = 0) :
 Calls Tryz.prog 57 #[.pointer (some ⟨b, 0, none⟩), .agg #[.int .i64 kd, .int .i64 core, .int .i64 f0, .int .i64 off, .int .i64 nu, .string (p1 ch), .string p2, .string dt], .int .i64 (-1)] w fun e w' => e = .returned (.tuple #[resV 0 0 0, .bool true]) ∧ Below B w w' ∧ Spared b w w' ∧ ∃ iv' ov' mv', Blk w' b #[iv', ov', mv'] 27 ∧ StOwn B w' iv' ov' mv' { S with op := insF (aheadD core 0) ⟨core, 0, num⟩ S.op false [] } := by
 have h98 : ∀ ww, Below w.heap.size w ww → Calls Tryz.prog 98 #[.agg #[iv, ov, mv], .string (p1 ch)] ww fun e w' => e = .returned (.tuple #[.int .i64 num, .int .i64 0]) ∧ Below ww.heap.size ww w' := fun ww hb => find98 S iv ov mv ch num ww (ho.read.below hb (Nat.le_refl _)) hwf hr hch hck hent hn0
 have h51 : ∀ ww, Below w.heap.size w ww → Calls Tryz.prog 51 #[.agg #[iv, ov, mv], .int .i64 num] ww fun e w' => e = .returned (.int .i64 (K : Int)) ∧ Below ww.heap.size ww w' := fun ww hb => by
  have := at51 S iv ov mv num ww (ho.read.below hb (Nat.le_refl _)) hwf.1; rw [hat] at this; exact this
 have h99 : ∀ i ww, 0 ≤ i → i ≤ 3 → Below w.heap.size w ww → Calls Tryz.prog 99 #[.agg #[iv, ov, mv], .int .i64 core, .int .i64 i] ww fun e w' => e = .returned (.int .i64 0) ∧ Below ww.heap.size ww w' := fun i ww h1 h2 hb => by
  have := fd99 S iv ov mv core i ww (ho.read.below hb (Nat.le_refl _)) hwf.2.1; rw [hfd i h1 h2] at this; exact this
 obtain ⟨hxl, -⟩ := gI.1 hx
 obtain ⟨bi, cap, rfl⟩ := ho.ins_form (by omega)
 obtain ⟨ma, mn, mc, rfl⟩ := ho.2.1.form
 obtain ⟨oa, on, oc, rfl⟩ := ho.1.form
 obtain ⟨a, cap', e1, hai⟩ := ho.read.ins_at2
 cases e1
 obtain ⟨bi', oi, ev, he, iI0, hoi, her, hci⟩ := hai K x hx
 cases he
 obtain ⟨iI, -, x1, -, -⟩ := hci w (Below.refl _ _)
 rw [hd] at x1
 simp only [Nat.zero_add] at x1
 have hKI : (K : Int) < S.ins.length := by omega
 have iL := hb.lt
 have hblt : b < w.heap.size := hb.lt.lt
 have s0 := hb.cell 0
 have s1 := hb.cell 1
 have s2 := hb.cell 2
 simp at s0 s1 s2
 have hol := hwf.2.1
 have HH := Lib.hid (And.intro hb (And.intro ho (And.intro hwf hn0)))
 generalize hgp : p1 ch = path at *
 clear hb ho hwf hr hx hd hat hent hn0 hck hfd hai her hci hoi hgp
 go_enter Tryz.func57, Tryz.ntmps57
 go_upto_region 1 with fail
 refine wp_region_quiet_rest (by kernel_rfl) (by kernel_rfl) (WQ.out ?_)
 repeat
  refine WQ_step (fun K hK => ?_); go_simp
  first
   | (refine hK _ ?_; clear hK K)
   | (apply Exists.intro
      refine ⟨fun _ => ?_, hK _ ?_⟩
      focus ((with_reducible refine calls_in (h98 _ (bel _ _)) (fun w' hb => ?_); first | exact hb.rest | exact rest1 hb | exact rest2 hb))
      clear hK K)
 refine WQ_nil ?_
 intro w1 hw1
 obtain ⟨p, hw1⟩ := hw1
 subst hw1
 go_wp2_with fail
 refine wp_region_quiet_rest (by kernel_rfl) (by kernel_rfl) (WQ.out ?_)
 repeat
  refine WQ_step (fun K hK => ?_); go_simp
  first
   | (refine hK _ ?_; clear hK K)
   | (apply Exists.intro
      refine ⟨fun _ => ?_, hK _ ?_⟩
      focus ((with_reducible refine calls_in (h51 _ (bel _ _)) (fun w' hb => ?_); first | exact hb.rest | exact rest1 hb | exact rest2 hb))
      clear hK K)
 refine WQ_nil ?_
 intro w1 hw1
 obtain ⟨p, hw1⟩ := hw1
 subst hw1
 go_wp2_with fail
 refine abs_world (F := fun wa => StOwn B wa (.slice (some ⟨bi, 0, none⟩) S.ins.length cap) (.slice oa on oc) (.slice ma mn mc) S ∧ Blk wa b #[.slice (some ⟨bi, 0, none⟩) S.ins.length cap, .slice oa on oc, .slice ma mn mc] 27 ∧ Blk wa w.heap.size #[.int .i64 kd, .int .i64 core, .int .i64 f0, .int .i64 off, .int .i64 nu, .string path, .string p2, .string dt] 29 ∧ Blk wa (w.heap.size + 1) #[.int .i64 0, .int .i64 0, .int .i64 0, .bool false, .string { data := #[] }, .slice none 0 0] 46 ∧ Below w.heap.size w wa) ⟨HH.out.2.1.on (bel w _), blk_on HH.out.1 (bel w _), blk_on (Blk.new w #[.int .i64 kd, .int .i64 core, .int .i64 f0, .int .i64 off, .int .i64 nu, .string path, .string p2, .string dt] 29) (bel _ _), blk_on (Blk.new_i (w.alloc (.cells #[.int .i64 kd, .int .i64 core, .int .i64 f0, .int .i64 off, .int .i64 nu, .string path, .string p2, .string dt] 29)) #[.int .i64 0, .int .i64 0, .int .i64 0, .bool false, .string { data := #[] }, .slice none 0 0] 46 (w.heap.size + 1)) (bel _ _), bel w _⟩ ?_
 clear s0 s1 s2 x1 iI iL
 rintro wa ⟨ho, hb, hbc, hbr, hbw⟩
 have HW := Lib.hid (And.intro ho (And.intro hb (And.intro hbc (And.intro hbr hbw))))
 clear ho hb hbc hbr hbw
 go_loopw [10, 11] (fun v10 v11 wr => ∃ i j : Int, v11 = .int .i64 i ∧ v10 = .int .i64 j ∧ -1 ≤ i ∧ i ≤ 3 ∧ (i < 3 → j = i + 1) ∧ Below wa.heap.size wa wr) (fun _ i _ => (intOf i + 1).toNat)
 case atStart => exact ⟨3, -1, rfl, rfl, by omega, by omega, by omega, Below.refl _ _⟩
 case round =>
  obtain ⟨i, j, rfl, rfl, hi1, hi3, hj, hbw⟩ := hrel; have hbW : Below w.heap.size w wr := HW.out.2.2.2.2.trans (hbw.mono HW.out.2.2.2.2.size); have iB : Bel w wr := ⟨hbW⟩
  have hb := blk_on HW.out.2.1 hbw; have hc := blk_on HW.out.2.2.1 hbw; have iL := hb.lt; have iC := hc.lt; have s0 := hb.cell 0; have s1 := hb.cell 1; have s2 := hb.cell 2; have q1 := hc.cell 1; simp at s0 s1 s2 q1; clear hb hc; by_cases h0 : 0 ≤ i
  · have h99i := fun ww hb => h99 i ww h0 hi3 hb
    have wi : IntKind.i64.wrap (i - 1) = i - 1 := I64.wrap ⟨by omega, by omega⟩; have HJ := Lib.hid hj; clear hj h99
    go_upto_region 10 with fail
    refine wp_region_quiet_rest (by kernel_rfl) (by kernel_rfl) (WQ.out ?_)
    repeat
     refine WQ_step (fun K hK => ?_); go_simp
     first
      | (refine hK _ ?_; clear hK K)
      | (apply Exists.intro
         refine ⟨fun _ => ?_, hK _ ?_⟩
         focus ((with_reducible refine calls_in (h99i _ (bel _ _)) (fun w' hb => ?_); first | exact hb.rest | exact rest1 hb | exact rest2 hb))
         clear hK K)
    refine WQ_nil ?_; intro w1 hw1; obtain ⟨p, hw1⟩ := hw1; subst hw1; go_wp2_with fail
    go_roundw
    case rel => exact ⟨i - 1, i, by go_num, rfl, by omega, by omega, by omega, bel wr _ |> fun h => hbw.trans (h.mono hbw.size)⟩
    case measure => simp [intOf]; omega
  · obtain rfl : i = -1 := by omega
    obtain rfl : j = 0 := by have := hj (by omega); omega
    have h990 := fun ww hb => h99 0 ww (by omega) (by omega) hb
    clear hj h99; go_wp2_with fail; refine wp_region_quiet_rest (by kernel_rfl) (by kernel_rfl) (WQ.out ?_)
    repeat
     refine WQ_step (fun K hK => ?_); go_simp
     first
      | (refine hK _ ?_; clear hK K)
      | (apply Exists.intro
         refine ⟨fun _ => ?_, hK _ ?_⟩
         focus ((with_reducible refine calls_in (h990 _ (bel _ _)) (fun w' hb => ?_); first | exact hb.rest | exact rest1 hb | exact rest2 hb))
         clear hK K)
    refine WQ_nil ?_; intro w1 hw1; obtain ⟨p, hw1⟩ := hw1; subst hw1
    go_upto_region 18 with fail
    refine abs_world (F := fun wz => StOwn B wz (.slice (some ⟨bi, 0, none⟩) S.ins.length cap) (.slice oa on oc) (.slice ma mn mc) S ∧ Blk wz b #[.slice (some ⟨bi, 0, none⟩) S.ins.length cap, .slice oa on oc, .slice ma mn mc] 27 ∧ Blk wz w.heap.size #[.int .i64 kd, .int .i64 core, .int .i64 f0, .int .i64 off, .int .i64 nu, .string path, .string p2, .string dt] 29 ∧ Blk wz (w.heap.size + 1) #[.int .i64 0, .int .i64 0, .int .i64 0, .bool false, .string { data := #[] }, .slice none 0 0] 46 ∧ Below w.heap.size w wz) ⟨(HW.out.1.on hbw).on (bel wr _), blk_on (blk_on HW.out.2.1 hbw) (bel wr _), blk_on (blk_on HW.out.2.2.1 hbw) (bel wr _), blk_on (blk_on HW.out.2.2.2.1 hbw) (bel wr _), bel w _⟩ ?_; clear s0 s1 s2 q1 iL iC iB hbW hbw HW; rintro wz ⟨ho, hb, hc, hr, hbw⟩; have hBz : B ≤ wz.heap.size := Nat.le_trans hB hbw.size; have iC := hc.lt; have q1 := hc.cell 1; simp at q1; have h100 : Calls Tryz.prog 100 #[.pointer (some ⟨b, 0, none⟩), .int .i64 core, .int .i64 0, .int .i64 num] wz fun e w' => e = .returned (.tuple #[]) ∧ Below B wz w' ∧ Keep (fun g => g = b) wz w' ∧ ∃ ov', Blk w' b #[.slice (some ⟨bi, 0, none⟩) S.ins.length cap, ov', .slice ma mn mc] 27 ∧ StOwn B w' (.slice (some ⟨bi, 0, none⟩) S.ins.length cap) ov' (.slice ma mn mc) { S with op := insF (aheadD core 0) ⟨core, 0, num⟩ S.op false [] } := grab100 B b S _ _ _ core 0 num wz hb ho hBz hBb hol
    have HZ := Lib.hid (And.intro hc (And.intro hr hbw)); clear ho hb hc hr hbw
    go_upto_region 19 with (go_at_call 100; (with_reducible refine h100.mono ?_); rintro e w5 ⟨rfl, hb5, hk5, ov5, hb55, hs5⟩; have HX5 := Lib.hid (And.intro hb5 (And.intro hk5 (And.intro hb55 hs5))); clear hb5 hk5 hb55 hs5)
    have f3 := HX5.out.2.1.blk HZ.out.2.1 (by omega); have l3 := f3.lt; have g0 := f3.cell 0; have g1 := f3.cell 1; have g2 := f3.cell 2; have g3 := f3.cell 3; have g4 := f3.cell 4; have g5' := f3.cell 5; have fz0 := f3.frozen 0; have fz1 := f3.frozen 1; have fz2 := f3.frozen 2; have fz3 := f3.frozen 3; have fz4 := f3.frozen 4; have fz5 := f3.frozen 5; simp at g0 g1 g2 g3 g4 g5'; have HF3 := Lib.hid f3; clear f3 q1 iC; go_wp2_with fail; exact bodyPost_ret (v := .tuple #[resV 0 0 0, .bool true]) (by unfold results; simp only [Tryz.results57, resV]; go_simp) rfl ⟨rfl, fin46 (r := w.heap.size + 1) keep46n (by omega) hblt hB HF3.out HX5.out.2.2.1 HX5.out.2.2.2 ((HZ.out.2.2.mono hB).trans HX5.out.1) ((Spared.of_below HZ.out.2.2).trans (fun g c t hb hn _ => HX5.out.2.1.blk hb hn))⟩
def zrow : Array Value := (Lib.byteCells z200.data.toList).toArray
theorem info5' : (Tryz.prog.info? 5).map (fun i => (i.zero, i.size, i.bytes)) = some (some (.int .u8 0), 1, 1) := by kernel_rfl
theorem z200_size : z200.size = 200 := by kernel_rfl
theorem zrow_size : zrow.size = 200 := by kernel_rfl
theorem mk200 (u : World) : (Instr.makeSlice 43 (.int .i64 200) (.int .i64 200)).run Tryz.prog u = .ok (.slice (some ⟨u.heap.size, 0, none⟩) 200 200) (u.alloc (.cells zrow 5)) := by
 obtain ⟨i, hi, hz, h1, h2⟩ := info_parts info5'
 have := run_makeSlice (P := Tryz.prog) u 43 5 i _ Tryz.underlying43 hi hz .i64 .i64 200 200 (by omega) (Int.le_refl _) (by rw [h1]; decide) (by rw [h2]; decide) (by omega)
 rw [h1] at this
 rw [this]
 have e : madeCells (Value.int IntKind.u8 0).cells ((200 : Int).toNat * 1) = zrow := by kernel_rfl
 rw [e]
 rfl
theorem cp200 (w : World) (g : Nat) (ty : TypeId) (h : Blk w g zrow 5) : (Builtin.copy_ #[43, 9] ty #[.slice (some ⟨g, 0, none⟩) 200 200, .string z200]).run Tryz.prog w = .ok (.int .i64 200) w := by
 obtain ⟨i, hi, hz, h1, h2⟩ := info_parts info5'
 have := Lib.run_copy_row_string (P := Tryz.prog) w 43 9 ty 5 g 0 200 200 z200 zrow 5 Tryz.underlying43 (by rw [hi]; simp [h1]) h (by rw [z200_size]; exact Nat.le_refl _) (by rw [z200_size, zrow_size]; omega)
 rw [this, z200_size]
 have e : (zrow.toList.take 0 ++ Lib.byteCells z200.data.toList ++ zrow.toList.drop (0 + 200)).toArray = zrow := by kernel_rfl
 rw [e, setRow_self w g zrow 5 (0, 0) h]
 rfl
theorem cv200 (w : World) (g : Nat) (h : Blk w g zrow 5) : (convert 43 9 (.slice (some ⟨g, 0, none⟩) 200 200)).run Tryz.prog w = .ok (.string z200) w := by
 have := Lib.run_convert_whole (P := Tryz.prog) w 43 5 9 Tryz.underlying43 Tryz.underlying5 Tryz.underlying9 g 0 z200 (fun i hi => by
  rw [h.cell, Nat.zero_add]; unfold zrow Lib.byteCells; have hi2 : i < z200.data.size := hi; simp [hi2]; exact ⟨_, Array.getElem?_eq_getElem hi2, rfl⟩) 200
 rw [z200_size] at this
 exact this
theorem sized102 (w : World) : Calls Tryz.prog 102 #[.string { data := #[] }, .int .i64 200] w fun e w' => ∃ g, e = .returned (.slice (some ⟨g, 0, none⟩) 200 200) ∧ Below w.heap.size w w' ∧ w.heap.size ≤ g ∧ Blk w' g zrow 5 := by
 have hmk := mk200
 have hce : ∀ (d : Option Addr) (W : World), (Builtin.copy_ #[43, 9] 3 #[.slice d 200 200, .string { data := #[] }]).run Tryz.prog W = .ok (.int .i64 0) W := fun d W => by
  obtain ⟨i, hi, hz, h1, h2⟩ := info_parts info5'; exact Lib.run_copy_empty_string (P := Tryz.prog) W 43 9 3 5 d 200 200 _ Tryz.underlying43 (by rw [hi]; rfl) rfl
 generalize zrow = zr at *
 go_enter Tryz.func102, Tryz.ntmps102
 go_wp2_with fail
 exact bodyPost_ret (v := .slice (some ⟨w.heap.size, 0, none⟩) 200 200) (by simp [results, Tryz.results102, go_sem]) rfl ⟨_, rfl, bel _ _, Nat.le_refl _, Blk.new_i _ _ _ _⟩
theorem StOwn.setData {B : Nat} {w : World} {ov mv : Value} {S : PSt} {bi cap K : Nat} {x : PIn} (h : StOwn B w (.slice (some ⟨bi, 0, none⟩) S.ins.length cap) ov mv S) (hx : S.ins[K]? = some x) (d : ByteArray) :
 StOwn B (w.setCell ⟨bi, K * 4 + 3, none⟩ (.string d)) (.slice (some ⟨bi, 0, none⟩) S.ins.length cap) ov mv { S with ins := S.ins.set K { x with data := d } } ∧ B ≤ bi ∧ ∃ c, Blk w bi c 65 := by
 obtain ⟨h1, h2, is, h3, h4, h5, h6⟩ := h
 obtain ⟨hKl, _⟩ := gI.1 hx
 have hr : is[K]? = some is[K] := gE (by omega)
 obtain ⟨a1, a2, a3, a4⟩ := h5 K _ x hr hx
 rcases h3 with ⟨h0, _⟩ | ⟨g, cap', arr, heq, hgB, hgb, hnc, hcm, hsz, hri⟩
 · simp at h0
 simp only [Value.slice.injEq, Option.some.injEq, Addr.mk.injEq] at heq
 obtain ⟨⟨rfl, -, -⟩, hl, rfl⟩ := heq
 have hS : Keep (fun k => k = bi) w (w.setCell ⟨bi, K * 4 + 3, none⟩ (.string d)) := Keep.setCell (S := fun k => k = bi) (p := ⟨bi, K * 4 + 3, none⟩) (Keep.refl _ _) (.inl rfl) _
 have far : ∀ {e : TypeId} {k : Nat} {v : Value} {rows : List (List Value)}, OwnP B w e k v rows → e ≠ 65 → OwnP B (w.setCell ⟨bi, K * 4 + 3, none⟩ (.string d)) e k v rows := by
  intro e k v rows ho hee; exact ho.keep hS (fun g hg hh => ho.ne_blk hgb hee hg hh)
 have hil : K < is.length := by omega
 have hmset : (is.map IRec.cells).set K (is[K].cells.set 3 (.string d)) = (is.set K ⟨is[K].num, is[K].dir, is[K].ev, d, is[K].one⟩).map IRec.cells := by
  rw [List.map_set]; rfl
 have hKs : K * 4 + 3 < arr.size := by
  rw [lM] at hnc; omega
 refine ⟨⟨far h1 (by decide), far h2 (by decide), is.set K ⟨is[K].num, is[K].dir, is[K].ev, d, is[K].one⟩, .inr ⟨bi, cap, arr.setIfInBounds (K * 4 + 3) (.string d), ?_, hgB, hgb.set_ _ _, ?_, hcm, by rw [Array.size_setIfInBounds]; exact hsz, ?_⟩, ?_, ?_, ?_⟩, hgB, _, hgb⟩
 · rw [lM, List.length_set, h4]
 · rw [lM, List.length_set]; rw [lM] at hnc; exact hnc
 · rw [← hmset]; exact hri.set (irec_len _) (by rw [gM, hr]; rfl) (by decide) hKs _
 · show (is.set K _).length = (S.ins.set K _).length; rw [List.length_set, List.length_set, h4]
 · intro q r x' hq hx'; have hx' : (S.ins.set K { x with data := d })[q]? = some x' := hx'; by_cases e : K = q
   · subst e; rw [List.getElem?_set_self hil] at hq; rw [List.getElem?_set_self hKl] at hx'; cases hq; cases hx'; exact ⟨a1, a2, rfl, far a4 (by decide)⟩
   · rw [List.getElem?_set_ne e] at hq hx'; obtain ⟨b1, b2, b3, b4⟩ := h5 q r x' hq hx'; exact ⟨b1, b2, b3, far b4 (by decide)⟩
 · intro p q r r' hpq hp hq k hk; have old : ∀ (j : Nat) (rb : IRec), (is.set K ⟨is[K].num, is[K].dir, is[K].ev, d, is[K].one⟩)[j]? = some rb → ∃ ro, is[j]? = some ro ∧ ro.ev = rb.ev := by
    intro j rb hj; by_cases e : K = j
    · subst e; rw [List.getElem?_set_self hil] at hj; cases hj; exact ⟨_, hr, rfl⟩
    · rw [List.getElem?_set_ne e] at hj; exact ⟨rb, hj, rfl⟩
   obtain ⟨o1, p1, e1⟩ := old p r hp; obtain ⟨o2, p2, e2⟩ := old q r' hq; rw [← e1] at hk; rw [← e2]; exact h6 p q o1 o2 hpq p1 p2 k hk
end Go.Proofs.YtjkenolgkkknaaaGreatDoor
