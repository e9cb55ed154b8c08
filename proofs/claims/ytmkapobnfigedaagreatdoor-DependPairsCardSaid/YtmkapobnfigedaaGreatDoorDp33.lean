/- Part of the proof of a law of chapter 15. Conditions: none. -/
import Derived.Test.YtmkapobnfigedaaGreatDoorDp32
set_option linter.unusedVariables false
set_option linter.unusedSimpArgs false
set_option maxRecDepth 100000
set_option maxHeartbeats 8000000
namespace Go.Proofs.YtmkapobnfigedaaGreatDoor
open Go.RowKit
theorem parse_own (s : ByteArray) (w : World) : Calls Tryz.prog 153 #[.string s] w fun e w' => ∃ v, e = .returned (.tuple #[v, .int .i64 (parseM s).1]) ∧ Below w.heap.size w w' ∧ OwnP 0 w' 9 1 v ((parseM s).2.map fun n => [.string n]) ∧ ∀ b, v.ownBlock = some b → w.heap.size ≤ b := by
 refine (parse136 s w).mono ?_
 rintro e w' ⟨v, he, hb, ho, hg⟩
 have := (OwnP.of_own (rows := (parseM s).2.map fun n => [.string n]) (by rw [lM, flat_one]; exact ho) (by decide) (by intro cs h; obtain ⟨x, _, rfl⟩ := List.mem_map.1 h; rfl))
 exact ⟨v, he, hb, this, hg⟩
theorem find152 (iv ov mv : Value) (S : PSt) (p : ByteArray) (w : World) (h : StRead w iv ov mv S) (hwf : S.wf) :
 Calls Tryz.prog 152 #[.agg #[iv, ov, mv], .string p] w fun e w' => e = .returned (.tuple #[.int .i64 (findP S p).1, .int .i64 (findP S p).2]) ∧ Below w.heap.size w w' := by
 have hsp := h.box 26
 have h1 := h.1.one
 have h2 := h.2.1.one
 have h3 : iv.oneCell' = true := by obtain ⟨_, _, _, h3, _⟩ := h; exact h3.one
 have hpar := fun ww => parse_own p ww
 have hcode := fun c ww => code167 c ww
 have hmay := fun ww (hb : Below w.heap.size w ww) => may37 iv ov mv S ww (h.below hb (Nat.le_refl _)) hwf
 obtain ⟨R, hR⟩ : ∃ R, findP S p = R := ⟨_, rfl⟩
 rw [hR]
 have HR := Lib.hid hR
 clear hR
 by_cases hp : (parseM p).1 = 0
 · have hpl := parse_len hp; rw [hp] at hpar; rcases hm : mayM S with _ | _
   · have hRe : R = (0, 9) := by
      rw [← HR.out]; unfold findP; rw [if_neg (by simpa using hp), if_neg (by rw [hm]; decide)]
     subst hRe; rw [hm] at hmay; generalize (parseM p).2 = ns at *; clear h hp hsp hcode hm
     go_enter Tryz.func152, Tryz.ntmps152
     go_wp2_with (first | (go_at_call 153; refine (hpar _).mono ?_; rintro e w1 ⟨nv, rfl, hb1, hnm, hng⟩; obtain ⟨p1, rfl⟩ := hb1.rest; clear hb1; obtain ⟨an, cn, rfl, -⟩ := hnm.row) | (go_at_call 39; refine aT (hmay _ (bel _ _)) fun p => ?_))
     refine bodyPost_ret (v := .tuple #[.int .i64 0, .int .i64 9]) (by simp [results, Tryz.results152, go_sem]) rfl ⟨rfl, bel _ _⟩
   · have hf := fine_of_may hwf hm; have hRe : R = if (walkM S 0 (parseM p).2).2 ≠ 0 then (0, (walkM S 0 (parseM p).2).2) else (numAt S (walkM S 0 (parseM p).2).1, 0) := by
      rw [← HR.out]; unfold findP; rw [if_neg (by simpa using hp), if_pos hm]
     have hkl := walkM_lt hf (parseM p).2 0 hf.pos; have hwk : ∀ ww v, Below (w.alloc (.cells #[iv, ov, mv] 26)).heap.size (w.alloc (.cells #[iv, ov, mv] 26)) ww → RowAt ww 1 v ((parseM p).2.map fun n => [.string n]) → Calls Tryz.prog 191 #[.pointer (some ⟨w.heap.size, 0, none⟩), v] ww _ := fun ww v hb hv => walk151 w.heap.size S (parseM p).2 v ww (hsp.below hb (Nat.le_refl _)) hf.wf hf.pos hf.find hv (Nat.le_trans hpl (by decide))
     rw [hm] at hmay; obtain ⟨ai, capi, rfl, hati⟩ := h.ins_at2; have HI := Lib.hid hati; generalize (parseM p).2 = ns at *; generalize hwr : walkM S 0 ns = WR at *; obtain ⟨k, cd⟩ := WR; simp only at hRe hkl hwk; have HN := Lib.hid hwr; clear h hp hsp hcode hm hati hwr; by_cases hcd : cd = 0
     · subst hcd; obtain ⟨x, hx⟩ : ∃ x, S.ins[k]? = some x := ⟨_, gE hkl⟩
       have hRf : R = (x.num, 0) := by
        rw [hRe, if_neg (by simp)]; unfold numAt; rw [hx]
       subst hRf; clear hRe; obtain ⟨bi, off, ev, rfl, iG0, ho1, hev, hcl⟩ := HI.out k x hx; have hklI : (k : Int) < S.ins.length := by omega
       clear hev
       go_enter Tryz.func152, Tryz.ntmps152
       go_upto_region 2 with (go_at_call 153; refine (hpar _).mono ?_; rintro e w1 ⟨nv, rfl, hb1, hnm, hng⟩; obtain ⟨p1, rfl⟩ := hb1.rest; clear hb1; have hrow := hnm.row; obtain ⟨an, cn, rfl, -⟩ := hnm.row)
       rw [lM] at hrow; refine abs_world (F := fun wA => Below (w.alloc (.cells #[.slice (some ⟨bi, off, none⟩) S.ins.length capi, ov, mv] 26)).heap.size (w.alloc (.cells #[.slice (some ⟨bi, off, none⟩) S.ins.length capi, ov, mv] 26)) wA ∧ RowAt wA 1 (.slice an ns.length cn) (ns.map fun n => [.string n])) ⟨bel _ _, hrow⟩ ?_; clear hrow hnm hpar; rintro wA ⟨hbA, hrA⟩; have hbk : Blk wA w.heap.size #[.slice (some ⟨bi, off, none⟩) S.ins.length capi, ov, mv] 26 := (Blk.new w _ 26).below hbA (by simp); have b0 : wA.cell? ⟨w.heap.size, 0, none⟩ = some (.slice (some ⟨bi, off, none⟩) S.ins.length capi) := hbk.cell 0; have b1 : wA.cell? ⟨w.heap.size, 1, none⟩ = some ov := hbk.cell 1; have b2 : wA.cell? ⟨w.heap.size, 2, none⟩ = some mv := hbk.cell 2; have iB := hbk.lt; have hbw : Below w.heap.size w wA := (bel w (w.alloc (.cells #[.slice (some ⟨bi, off, none⟩) S.ins.length capi, ov, mv] 26))).trans (hbA.mono (by simp)); have hmay2 := fun ww (hb : Below wA.heap.size wA ww) => hmay ww (hbw.trans (hb.mono hbw.size))
       have hwk2 := fun ww (hb : Below wA.heap.size wA ww) => hwk ww _ (hbA.trans (hb.mono hbA.size)) (hrA.below hb (Nat.le_refl _))
       obtain ⟨iGA, y0, -⟩ := hcl wA hbw; clear hcl; have HB := Lib.hid hbw; clear hwk hmay hbA hrA hbk hbw; go_wp2_with (first | (go_at_call 39; refine aT (hmay2 _ (bel _ _)) fun p => ?_) | (go_at_call 191; refine aT (hwk2 _ (bel _ _)) fun p => ?_))
       refine bodyPost_ret (v := .tuple #[.int .i64 x.num, .int .i64 0]) (by simp [results, Tryz.results152, go_sem]) rfl ⟨rfl, HB.out.trans ((bel wA _).mono HB.out.size)⟩
     · have hRf : R = (0, cd) := by
        rw [hRe, if_pos hcd]
       subst hRf; clear hRe; have hcb : (cd != 0) = true := by simpa using hcd
       clear hcd
       go_enter Tryz.func152, Tryz.ntmps152
       go_upto_region 2 with (go_at_call 153; refine (hpar _).mono ?_; rintro e w1 ⟨nv, rfl, hb1, hnm, hng⟩; obtain ⟨p1, rfl⟩ := hb1.rest; clear hb1; have hrow := hnm.row; obtain ⟨an, cn, rfl, -⟩ := hnm.row)
       rw [lM] at hrow; refine abs_world (F := fun wA => Below (w.alloc (.cells #[.slice ai S.ins.length capi, ov, mv] 26)).heap.size (w.alloc (.cells #[.slice ai S.ins.length capi, ov, mv] 26)) wA ∧ RowAt wA 1 (.slice an ns.length cn) (ns.map fun n => [.string n])) ⟨bel _ _, hrow⟩ ?_; clear hrow hnm hpar; rintro wA ⟨hbA, hrA⟩; have hbk : Blk wA w.heap.size #[.slice ai S.ins.length capi, ov, mv] 26 := (Blk.new w _ 26).below hbA (by simp); have b0 : wA.cell? ⟨w.heap.size, 0, none⟩ = some (.slice ai S.ins.length capi) := hbk.cell 0; have b1 : wA.cell? ⟨w.heap.size, 1, none⟩ = some ov := hbk.cell 1; have b2 : wA.cell? ⟨w.heap.size, 2, none⟩ = some mv := hbk.cell 2; have iB := hbk.lt; have hbw : Below w.heap.size w wA := (bel w (w.alloc (.cells #[.slice ai S.ins.length capi, ov, mv] 26))).trans (hbA.mono (by simp)); have hmay2 := fun ww (hb : Below wA.heap.size wA ww) => hmay ww (hbw.trans (hb.mono hbw.size))
       have hwk2 := fun ww (hb : Below wA.heap.size wA ww) => hwk ww _ (hbA.trans (hb.mono hbA.size)) (hrA.below hb (Nat.le_refl _))
       have HB := Lib.hid hbw; clear hwk hmay hbA hrA hbk hbw; go_wp2_with (first | (go_at_call 39; refine aT (hmay2 _ (bel _ _)) fun p => ?_) | (go_at_call 191; refine aT (hwk2 _ (bel _ _)) fun p => ?_))
       refine bodyPost_ret (v := .tuple #[.int .i64 0, .int .i64 cd]) (by simp [results, Tryz.results152, go_sem]) rfl ⟨rfl, HB.out.trans ((bel wA _).mono HB.out.size)⟩
 · have hRe : R = (0, codeM (parseM p).1) := by
    rw [← HR.out]; unfold findP; rw [if_pos hp]
   subst hRe; generalize (parseM p).1 = pc at *; generalize (parseM p).2 = ns at *; have hpb : (pc != 0) = true := by simpa using hp
   have hc := hcode pc; generalize codeM pc = cc at *; clear hmay h hp hsp
   go_enter Tryz.func152, Tryz.ntmps152
   go_wp2_with (first | (go_at_call 153; refine (hpar _).mono ?_; rintro e w1 ⟨nv, rfl, hb1, hnm, hng⟩; obtain ⟨p1, rfl⟩ := hb1.rest; clear hb1; obtain ⟨an, cn, rfl, -⟩ := hnm.row) | (go_at_call 190; refine aT (hc _) fun p => ?_))
   refine bodyPost_ret (v := .tuple #[.int .i64 0, .int .i64 cc]) (by simp [results, Tryz.results152, go_sem]) rfl ⟨rfl, bel _ _⟩
end Go.Proofs.YtmkapobnfigedaaGreatDoor
