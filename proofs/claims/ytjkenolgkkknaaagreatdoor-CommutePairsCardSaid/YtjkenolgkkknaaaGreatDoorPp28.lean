/- Part of the proof that the named pairs of calls commute. Conditions: none. -/
import Derived.Test.YtjkenolgkkknaaaGreatDoorPp23
import Derived.Test.YtjkenolgkkknaaaGreatDoorPp27
set_option linter.unusedVariables false
set_option linter.unusedSimpArgs false
set_option maxRecDepth 100000
set_option maxHeartbeats 8000000
namespace Go.Proofs.YtjkenolgkkknaaaGreatDoor
open Go.RowKit
def numAt (S : PSt) (k : Nat) : Int := match S.ins[k]? with | some x => x.num | none => 0
def prevG (S : PSt) (q : Nat) (x : PIn) : Bool := match q with
 | 0 => x.dir
 | k + 1 => decide (numAt S k < x.num) && (givenR S x.num && (!x.dir || linksR S x.num == 1))
def inG (S : PSt) (q : Nat) (x : PIn) : Bool := decide (x.data.size ≤ 256) && ((if x.dir = true then x.data.size == 0 else x.ents.isEmpty) && (entsR S x.ents && ((reachR S)[q]? == some true && prevG S q x)))
def insG (S : PSt) : Bool := (List.range S.ins.length).all fun q => match S.ins[q]? with | some x => inG S q x | none => false
def mayG (S : PSt) : Bool := decide (1 ≤ S.made.length ∧ S.made.length ≤ 8 ∧ 1 ≤ S.ins.length ∧ S.ins.length ≤ 257) && ((match S.ins[0]? with | some x => x.num == 1 && x.dir | none => false) && (openR S && ((S.made.all fun m => decide (0 ≤ m ∧ m ≤ 32)) && insG S)))
theorem insG_at {S : PSt} (h : insG S = true) {q : Nat} {x : PIn} (hx : S.ins[q]? = some x) : inG S q x = true := by
 unfold insG at h
 rw [List.all_eq_true] at h
 obtain ⟨hl, _⟩ := gI.1 hx
 have := h q (List.mem_range.2 hl)
 rw [hx] at this
 exact this
theorem may13 (S : PSt) (iv ov mv : Value) (w : World) (h : StRead w iv ov mv S) (hwf : S.wf) (hg : mayG S = true) :
 Calls Tryz.prog 13 #[.agg #[iv, ov, mv]] w fun e w' => e = .returned (.bool true) ∧ Below w.heap.size w w' := by
 unfold mayG at hg
 simp only [Bool.and_eq_true, decide_eq_true_eq, List.all_eq_true] at hg
 obtain ⟨⟨hm1, hm8, hi1, hi257⟩, hroot, hop, hmade, hins⟩ := hg
 have h27 : ∀ ww, Below w.heap.size w ww → Calls Tryz.prog 27 #[.agg #[iv, ov, mv]] ww fun e w' => e = .returned (.bool true) ∧ Below ww.heap.size ww w' := fun ww hb => by
  have := open27 S iv ov mv ww (h.below hb (Nat.le_refl _)) hwf; rw [hop] at this; exact this
 have h28 : ∀ ww, Below w.heap.size w ww → Calls Tryz.prog 28 #[.agg #[iv, ov, mv]] ww fun e w' => ∃ F : Nat, e = .returned (.slice (some ⟨F, 0, none⟩) S.ins.length S.ins.length) ∧ Below ww.heap.size ww w' ∧ RowAt w' 1 (.slice (some ⟨F, 0, none⟩) S.ins.length S.ins.length) ((reachR S).map boolCells) := fun ww hb => reached28 S iv ov mv ww (h.below hb (Nat.le_refl _)) hwf (by omega)
 have h29 : ∀ n ww, I64 n → Below w.heap.size w ww → Calls Tryz.prog 29 #[.agg #[iv, ov, mv], .int .i64 n] ww fun e w' => e = .returned (.bool (givenR S n)) ∧ Below ww.heap.size ww w' := fun n ww hn hb => given29 S iv ov mv n hn ww (h.below hb (Nat.le_refl _)) hwf
 have h31 : ∀ n ww, Below w.heap.size w ww → Calls Tryz.prog 31 #[.agg #[iv, ov, mv], .int .i64 n] ww fun e w' => e = .returned (.int .i64 (linksR S n)) ∧ Below ww.heap.size ww w' := fun n ww hb => links31 S iv ov mv n ww (h.below hb (Nat.le_refl _)) hwf
 have h30 : ∀ xn xd xs ev es ww, Below w.heap.size w ww → RowAt w 2 ev (es.map PEnt.cells) → es.length ≤ 1000000000 → Calls Tryz.prog 30 #[.agg #[iv, ov, mv], .agg #[.int .i64 xn, .bool xd, ev, .string xs]] ww fun e w' => e = .returned (.bool (entsR S es)) ∧ Below ww.heap.size ww w' := fun xn xd xs ev es ww hb he hl => entries30 S iv ov mv xn xd xs ev es ww (h.below hb (Nat.le_refl _)) hwf (he.below hb (Nat.le_refl _)) hl
 obtain ⟨ai, ni, ci, ao, no, co, am, nm, cm, rfl, rfl, rfl⟩ := h.slices
 obtain ⟨a, cap, e1, hai⟩ := h.ins_at2
 cases e1
 obtain ⟨a, cap, e1, ham⟩ := h.2.1.at_
 rw [lM] at e1
 cases e1
 have HI := Lib.hid hai
 have HM := Lib.hid ham
 have HWF := Lib.hid hwf
 have HMD := Lib.hid hmade
 have HIN := Lib.hid hins
 obtain ⟨x0, hx0⟩ : ∃ x, S.ins[0]? = some x := ⟨_, gE (by omega)⟩
 rw [hx0] at hroot
 simp only [Bool.and_eq_true, beq_iff_eq] at hroot
 obtain ⟨hn0, hd0⟩ := hroot
 obtain ⟨bi, oi, ev0, rfl, iI0, hoi, her0, hci0⟩ := hai 0 x0 hx0
 obtain ⟨iI, y0, y1, y2, y3⟩ := hci0 w (Below.refl _ _)
 rw [hn0] at y0
 rw [hd0] at y1
 simp only [Nat.zero_mul, Nat.add_zero] at y0 y1
 have g1 : ¬ (S.made.length : Int) < 1 := by omega
 have g2 : ¬ (8 : Int) < S.made.length := by omega
 have g3 : ¬ (S.ins.length : Int) < 1 := by omega
 have g4 : ¬ (257 : Int) < S.ins.length := by omega
 have g5 : 0 < S.ins.length := by omega
 have g6 : (0 : Int) < S.ins.length := by omega
 clear hai ham hwf h hmade hins hx0 y2 y3 her0 hci0 hoi hop
 go_enter Tryz.func13, Tryz.ntmps13
 go_wp2_with ((go_at_call 27; with_reducible refine aT (h27 _ (bel _ _)) fun p => ?_))
 go_loopw [3] (fun i wr => ∃ (q : Nat), i = .int .i64 q ∧ q ≤ S.made.length ∧ Below w.heap.size w wr ∧ Blk wr w.heap.size #[.slice (some ⟨bi, oi, none⟩) S.ins.length ci, .slice ao no co, .slice am S.made.length cm] 27) (fun i _ => (S.made.length - intOf i).toNat)
 case atStart => exact ⟨0, rfl, by omega, bel _ _, (Blk.new w _ 27).junk _⟩
 case round =>
  clear y0 y1 iI
  rename World => wq
  obtain ⟨q, rfl, hq, hb, hblk⟩ := hrel; have iB : Bel w wq := ⟨hb⟩
  have iL := hblk.lt; have s0 := hblk.cell 0; have s1 := hblk.cell 1; have s2 := hblk.cell 2; simp at s0 s1 s2; have HB := Lib.hid hblk; clear hblk; by_cases hlt : q < S.made.length
  · obtain ⟨z, hz⟩ : ∃ z, S.made[q]? = some z := ⟨_, gE hlt⟩
    obtain ⟨b, off, rfl, iG0, iG, hc⟩ := HM.out wq hb q (intCells z) (by rw [gM, hz]; rfl); have c0 := hc 0 _ rfl; rw [Nat.mul_one, Nat.add_zero] at c0; obtain ⟨z1, z2⟩ := HMD.out z (mG hz); have hz0 : ¬ z < 0 := by omega
    have hz32 : ¬ 32 < z := by omega
    have hltI : (q : Int) < S.made.length := by omega
    clear hc hz z1 z2; go_wp2_with fail
    go_roundw
    case rel => exact ⟨q + 1, by go_num, by omega, bel _ _, HB.out⟩
    case measure => simp [intOf]; omega
  · have hltI : ¬ (q : Int) < S.made.length := by omega
    go_wp2_with (go_at_call 28; with_reducible refine (h28 _ (bel _ _)).mono ?_; rintro e w8 ⟨F, rfl, hb8, hF⟩; have i8 : Bel w w8 := ⟨(bel w _).trans (hb8.mono (bel w _).size)⟩; have hB8 := (Keep.of_below hb8 (fun _ => False)).blk HB.out (fun h => h); have HF := Lib.hid (And.intro hF (And.intro hB8 i8.below)); clear hF hB8 hb8)
    go_loopw [5] (fun i wr => ∃ (q : Nat), i = .int .i64 q ∧ q ≤ S.ins.length ∧ Below w.heap.size w wr ∧ Blk wr w.heap.size #[.slice (some ⟨bi, oi, none⟩) S.ins.length ci, .slice ao no co, .slice am S.made.length cm] 27 ∧ RowAt wr 1 (.slice (some ⟨F, 0, none⟩) S.ins.length S.ins.length) ((reachR S).map boolCells)) (fun i _ => (S.ins.length - intOf i).toNat)
    case atStart => exact ⟨0, rfl, by omega, HF.out.2.2, HF.out.2.1, HF.out.1⟩
    case round =>
     clear s0 s1 s2 iB iL; obtain ⟨q, rfl, hq, hb, hblk, hF⟩ := hrel; have iB : Bel w wr := ⟨hb⟩
     have iL := hblk.lt; have s0 := hblk.cell 0; have s1 := hblk.cell 1; have s2 := hblk.cell 2; simp at s0 s1 s2; have HB := Lib.hid (And.intro hblk hF); clear hblk; by_cases hlt : q < S.ins.length
     · obtain ⟨x, hx⟩ : ∃ x, S.ins[q]? = some x := ⟨_, gE hlt⟩
       have hin := insG_at HIN.out hx; unfold inG at hin; simp only [Bool.and_eq_true, decide_eq_true_eq, beq_iff_eq] at hin; obtain ⟨hsz, hde, hen, hre, hpv⟩ := hin; obtain ⟨bi', oi', ev, he, -, hoi, her, hci⟩ := HI.out q x hx; cases he; obtain ⟨iI, x0, x1, x2, x3⟩ := hci wr hb; obtain ⟨aF, cF, eF, hatF⟩ := hF.at_; simp only [Value.slice.injEq] at eF; obtain ⟨rfl, -, rfl⟩ := eF; obtain ⟨bF, oF, hf, -, iF, hcf⟩ := hatF wr (Below.refl _ _) q (boolCells true) (by rw [gM, hre]; rfl); cases hf; have f0 := hcf 0 _ rfl; rw [Nat.mul_one, Nat.add_zero, Nat.zero_add] at f0; have hWx := HWF.out.2.2.2.1 x (mG hx); have h30x : ∀ ww, Below w.heap.size w ww → Calls Tryz.prog 30 #[.agg #[.slice (some ⟨bi, oi, none⟩) S.ins.length ci, .slice ao no co, .slice am S.made.length cm], .agg #[.int .i64 x.num, .bool x.dir, ev, .string x.data]] ww fun e w' => e = .returned (.bool true) ∧ Below ww.heap.size ww w' := fun ww hb => by
        have := h30 x.num x.dir x.data ev x.ents ww hb her hWx.2.1; rw [hen] at this; exact this
       have h29x := fun ww hb => h29 x.num ww hWx.1 hb
       have h31x := fun ww hb => h31 x.num ww hb
       obtain ⟨ae, ce, rfl, -⟩ := her.at_; rw [lM] at x2 h30x; have hltI : (q : Int) < S.ins.length := by omega
       have hxl := hWx.2.1; have hprev : ∀ k, q = k + 1 → ∃ m, wr.cell? ⟨bi, oi + k * 4, none⟩ = some (.int .i64 m) ∧ m = numAt S k := by
        intro k hk; obtain ⟨y, hy⟩ : ∃ y, S.ins[k]? = some y := ⟨_, gE (by omega)⟩
        obtain ⟨_, _, _, he2, -, _, _, hci2⟩ := HI.out k y hy; cases he2; exact ⟨y.num, (hci2 wr hb).2.1, by simp [numAt, hy]⟩
       obtain ⟨xn, xd, xe, xs⟩ := x; simp only at x0 x1 x2 x3 hsz hde hen hpv h30x h29x h31x hxl; have hszI : ¬ (256 : Int) < xs.size := by omega
       clear hcf hatF her hoi hci hx hen hre hF hWx h29 h30 h31 h27 h28; rcases q with _ | k
       · have hxd : xd = true := hpv; subst hxd; have hxs : xs = { data := #[] } := by
          have hd : (xs.size == 0) = true := hde; obtain ⟨d⟩ := xs; have h0 : d.size = 0 := beq_iff_eq.1 hd; rw [Array.eq_empty_of_size_eq_zero h0]
         subst hxs; clear hprev hpv hde; simp only [Nat.zero_mul, Nat.add_zero] at x0 x1 x2 x3 f0; go_wp2_with fail; refine wp_region_quiet_rest (by kernel_rfl) (by kernel_rfl) (WQ.out ?_)
         repeat
          refine WQ_step (fun K hK => ?_); go_simp
          first
           | (refine hK _ ?_; clear hK K)
           | (apply Exists.intro
              refine ⟨fun _ => ?_, hK _ ?_⟩
              focus (first | (with_reducible refine calls_in (h29x _ (bel _ _)) (fun w' hb => ?_); first | exact hb.rest | exact rest1 hb | exact rest2 hb) | (with_reducible refine calls_in (h30x _ (bel _ _)) (fun w' hb => ?_); first | exact hb.rest | exact rest1 hb | exact rest2 hb))
              clear hK K)
         refine WQ_nil ?_; intro w1 hw1; obtain ⟨p, hw1⟩ := hw1; subst hw1; go_wp2_with ((go_at_call 31; with_reducible refine aT (h31x _ (bel _ _)) fun p => ?_))
         go_roundw
         case rel => exact ⟨1, by go_num, by omega, bel _ _, (Keep.of_below (bel wr _) (fun _ => False)).blk HB.out.1 (fun h => h), HB.out.2.below (bel wr _) (Nat.le_refl _)⟩
         case measure => simp [intOf]; omega
       · obtain ⟨m, y0, hm⟩ := hprev k rfl; unfold prevG at hpv; simp only [Bool.and_eq_true, decide_eq_true_eq, Bool.or_eq_true, Bool.not_eq_true', beq_iff_eq] at hpv; obtain ⟨hp1, hp2, hp3⟩ := hpv; rw [← hm] at hp1; rw [hp2] at h29x; clear hprev hm hp2; generalize linksR S xn = ln at h31x hp3; rcases xd with _ | _
         · have hxe : xe = [] := by simpa using hde
           subst hxe; clear hde hp3; have kI : ((k + 1 : Nat) : Int) - 1 = k := by omega
           have kW : IntKind.i64.wrap (k : Int) = k := I64.wrap ⟨by omega, by omega⟩; have kl : k < S.ins.length := by omega
           have klI : (k : Int) < S.ins.length := by omega
           have k0 : (0 : Int) < ((k + 1 : Nat) : Int) := by omega
           have k0b : decide ((0 : Int) < ((k + 1 : Nat) : Int)) = true := decide_eq_true k0; have g1 : ¬ xn ≤ m := by omega
           have g1b : decide (xn ≤ m) = false := decide_eq_false g1; go_wp2_with fail; refine wp_region_quiet_rest (by kernel_rfl) (by kernel_rfl) (WQ.out ?_)
           repeat
            refine WQ_step (fun K hK => ?_); go_simp
            first
             | (refine hK _ ?_; clear hK K)
             | (apply Exists.intro
                refine ⟨fun _ => ?_, hK _ ?_⟩
                focus (first | (with_reducible refine calls_in (h29x _ (bel _ _)) (fun w' hb => ?_); first | exact hb.rest | exact rest1 hb | exact rest2 hb) | (with_reducible refine calls_in (h30x _ (bel _ _)) (fun w' hb => ?_); first | exact hb.rest | exact rest1 hb | exact rest2 hb))
                clear hK K)
           refine WQ_nil ?_; intro w1 hw1; obtain ⟨p, hw1⟩ := hw1; subst hw1; go_wp2_with ((go_at_call 31; with_reducible refine aT (h31x _ (bel _ _)) fun p => ?_))
           go_roundw
           case rel => exact ⟨k + 1 + 1, by go_num, by omega, bel _ _, (Keep.of_below (bel wr _) (fun _ => False)).blk HB.out.1 (fun h => h), HB.out.2.below (bel wr _) (Nat.le_refl _)⟩
           case measure => simp [intOf]; omega
         · have hl1 : ln = 1 := by simpa using hp3
           subst hl1; have hxs : xs = { data := #[] } := by
            have hd : (xs.size == 0) = true := hde; obtain ⟨d⟩ := xs; have h0 : d.size = 0 := beq_iff_eq.1 hd; rw [Array.eq_empty_of_size_eq_zero h0]
           subst hxs; clear hde hp3; have kI : ((k + 1 : Nat) : Int) - 1 = k := by omega
           have kW : IntKind.i64.wrap (k : Int) = k := I64.wrap ⟨by omega, by omega⟩; have kl : k < S.ins.length := by omega
           have klI : (k : Int) < S.ins.length := by omega
           have k0 : (0 : Int) < ((k + 1 : Nat) : Int) := by omega
           have k0b : decide ((0 : Int) < ((k + 1 : Nat) : Int)) = true := decide_eq_true k0; have g1 : ¬ xn ≤ m := by omega
           have g1b : decide (xn ≤ m) = false := decide_eq_false g1; go_wp2_with fail; refine wp_region_quiet_rest (by kernel_rfl) (by kernel_rfl) (WQ.out ?_)
           repeat
            refine WQ_step (fun K hK => ?_); go_simp
            first
             | (refine hK _ ?_; clear hK K)
             | (apply Exists.intro
                refine ⟨fun _ => ?_, hK _ ?_⟩
                focus (first | (with_reducible refine calls_in (h29x _ (bel _ _)) (fun w' hb => ?_); first | exact hb.rest | exact rest1 hb | exact rest2 hb) | (with_reducible refine calls_in (h30x _ (bel _ _)) (fun w' hb => ?_); first | exact hb.rest | exact rest1 hb | exact rest2 hb))
                clear hK K)
           refine WQ_nil ?_; intro w1 hw1; obtain ⟨p, hw1⟩ := hw1; subst hw1; go_wp2_with ((go_at_call 31; with_reducible refine aT (h31x _ (bel _ _)) fun p => ?_))
           go_roundw
           case rel => exact ⟨k + 1 + 1, by go_num, by omega, bel _ _, (Keep.of_below (bel wr _) (fun _ => False)).blk HB.out.1 (fun h => h), HB.out.2.below (bel wr _) (Nat.le_refl _)⟩
           case measure => simp [intOf]; omega
     · have hltI : ¬ (q : Int) < S.ins.length := by omega
       go_wp2_with fail; exact bodyPost_ret (v := .bool true) (by simp [results, Tryz.results13, go_sem]) rfl ⟨rfl, bel _ _⟩
end Go.Proofs.YtjkenolgkkknaaaGreatDoor
