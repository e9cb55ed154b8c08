/- Part of the proof of a law of chapter 15. Conditions: none. -/
import Derived.Test.YtmkapobnfigedaaGreatDoorDp18
set_option linter.unusedVariables false
set_option linter.unusedSimpArgs false
set_option maxRecDepth 100000
set_option maxHeartbeats 8000000
namespace Go.Proofs.YtmkapobnfigedaaGreatDoor
open Go.RowKit
def numAt (S : PSt) (k : Nat) : Int := match S.ins[k]? with | some x => x.num | none => 0
def prevG (S : PSt) (q : Nat) (x : PIn) : Bool := match q with
 | 0 => x.dir
 | k + 1 => decide (numAt S k < x.num) && (givenR S x.num && (!x.dir || linksR S x.num == 1))
def inG (S : PSt) (q : Nat) (x : PIn) : Bool := decide (x.data.size ≤ 256) && ((if x.dir = true then x.data.size == 0 else x.ents.isEmpty) && (entsR S x.ents && ((reachR S)[q]? == some true && prevG S q x)))
def insG (S : PSt) : Bool := (List.range S.ins.length).all fun q => match S.ins[q]? with | some x => inG S q x | none => false
def mayG (S : PSt) : Bool := decide (1 ≤ S.made.length ∧ S.made.length ≤ 8 ∧ 1 ≤ S.ins.length ∧ S.ins.length ≤ 257) && ((match S.ins[0]? with | some x => x.num == 1 && x.dir | none => false) && (openR S && ((S.made.all fun m => decide (0 ≤ m ∧ m ≤ 32)) && insG S)))
theorem insG_at {S : PSt} (h : insG S = true) {q : Nat} {x : PIn} (hx : S.ins[q]? = some x) : inG S q x = true := by
 unfold insG at h
 rw [List.all_eq_true] at h
 obtain ⟨hl, _⟩ := gI.1 hx
 have := h q (List.mem_range.2 hl)
 rw [hx] at this
 exact this
theorem may13 (S : PSt) (iv ov mv : Value) (w : World) (h : StRead w iv ov mv S) (hwf : S.wf) (hg : mayG S = true) :
 Calls Tryz.prog 30 #[.agg #[iv, ov, mv]] w fun e w' => e = .returned (.bool true) ∧ Below w.heap.size w w' := by
 unfold mayG at hg
 simp only [Bool.and_eq_true, decide_eq_true_eq, List.all_eq_true] at hg
 obtain ⟨⟨hm1, hm8, hi1, hi257⟩, hroot, hop, hmade, hins⟩ := hg
 have h27 : ∀ ww, Below w.heap.size w ww → Calls Tryz.prog 58 #[.agg #[iv, ov, mv]] ww fun e w' => e = .returned (.bool true) ∧ Below ww.heap.size ww w' := fun ww hb => by
  have := open27 S iv ov mv ww (h.below hb (Nat.le_refl _)) hwf; rw [hop] at this; exact this
 have h28 : ∀ ww, Below w.heap.size w ww → Calls Tryz.prog 59 #[.agg #[iv, ov, mv]] ww fun e w' => ∃ F : Nat, e = .returned (.slice (some ⟨F, 0, none⟩) S.ins.length S.ins.length) ∧ Below ww.heap.size ww w' ∧ RowAt w' 1 (.slice (some ⟨F, 0, none⟩) S.ins.length S.ins.length) ((reachR S).map boolCells) := fun ww hb => reached28 S iv ov mv ww (h.below hb (Nat.le_refl _)) hwf (by omega)
 have h29 : ∀ n ww, I64 n → Below w.heap.size w ww → Calls Tryz.prog 60 #[.agg #[iv, ov, mv], .int .i64 n] ww fun e w' => e = .returned (.bool (givenR S n)) ∧ Below ww.heap.size ww w' := fun n ww hn hb => given29 S iv ov mv n hn ww (h.below hb (Nat.le_refl _)) hwf
 have h31 : ∀ n ww, Below w.heap.size w ww → Calls Tryz.prog 62 #[.agg #[iv, ov, mv], .int .i64 n] ww fun e w' => e = .returned (.int .i64 (linksR S n)) ∧ Below ww.heap.size ww w' := fun n ww hb => links31 S iv ov mv n ww (h.below hb (Nat.le_refl _)) hwf
 have h30 : ∀ xn xd xs ev es ww, Below w.heap.size w ww → RowAt w 2 ev (es.map PEnt.cells) → es.length ≤ 1000000000 → Calls Tryz.prog 61 #[.agg #[iv, ov, mv], .agg #[.int .i64 xn, .bool xd, ev, .string xs]] ww fun e w' => e = .returned (.bool (entsR S es)) ∧ Below ww.heap.size ww w' := fun xn xd xs ev es ww hb he hl => entries30 S iv ov mv xn xd xs ev es ww (h.below hb (Nat.le_refl _)) hwf (he.below hb (Nat.le_refl _)) hl
 obtain ⟨ai, ni, ci, ao, no, co, am, nm, cm, rfl, rfl, rfl⟩ := h.slices
 obtain ⟨a, cap, e1, hai⟩ := h.ins_at2
 cases e1
 obtain ⟨a, cap, e1, ham⟩ := h.2.1.at_
 rw [lM] at e1
 cases e1
 have HI := Lib.hid hai
 have HM := Lib.hid ham
 have HWF := Lib.hid hwf
 have HMD := Lib.hid hmade
 have HIN := Lib.hid hins
 obtain ⟨x0, hx0⟩ : ∃ x, S.ins[0]? = some x := ⟨_, gE (by omega)⟩
 rw [hx0] at hroot
 simp only [Bool.and_eq_true, beq_iff_eq] at hroot
 obtain ⟨hn0, hd0⟩ := hroot
 obtain ⟨bi, oi, ev0, rfl, iI0, hoi, her0, hci0⟩ := hai 0 x0 hx0
 obtain ⟨iI, y0, y1, y2, y3⟩ := hci0 w (Below.refl _ _)
 rw [hn0] at y0
 rw [hd0] at y1
 simp only [Nat.zero_mul, Nat.add_zero] at y0 y1
 have g1 : ¬ (S.made.length : Int) < 1 := by omega
 have g2 : ¬ (8 : Int) < S.made.length := by omega
 have g3 : ¬ (S.ins.length : Int) < 1 := by omega
 have g4 : ¬ (257 : Int) < S.ins.length := by omega
 have g5 : 0 < S.ins.length := by omega
 have g6 : (0 : Int) < S.ins.length := by omega
 clear hai ham hwf h hmade hins hx0 y2 y3 her0 hci0 hoi hop
 go_enter Tryz.func30, Tryz.ntmps30
 go_wp2_with ((go_at_call 58; with_reducible refine aT (h27 _ (bel _ _)) fun p => ?_))
 go_loopw [3] (fun i wr => ∃ (q : Nat), i = .int .i64 q ∧ q ≤ S.made.length ∧ Below w.heap.size w wr ∧ Blk wr w.heap.size #[.slice (some ⟨bi, oi, none⟩) S.ins.length ci, .slice ao no co, .slice am S.made.length cm] 26) (fun i _ => (S.made.length - intOf i).toNat)
 case atStart => exact ⟨0, rfl, by omega, bel _ _, (Blk.new w _ 26).junk _⟩
 case round =>
  clear y0 y1 iI
  rename World => wq
  obtain ⟨q, rfl, hq, hb, hblk⟩ := hrel; have iB : Bel w wq := ⟨hb⟩
  have iL := hblk.lt; have s0 := hblk.cell 0; have s1 := hblk.cell 1; have s2 := hblk.cell 2; simp at s0 s1 s2; have HB := Lib.hid hblk; clear hblk; by_cases hlt : q < S.made.length
  · obtain ⟨z, hz⟩ : ∃ z, S.made[q]? = some z := ⟨_, gE hlt⟩
    obtain ⟨b, off, rfl, iG0, iG, hc⟩ := HM.out wq hb q (intCells z) (by rw [gM, hz]; rfl); have c0 := hc 0 _ rfl; rw [Nat.mul_one, Nat.add_zero] at c0; obtain ⟨z1, z2⟩ := HMD.out z (mG hz); have hz0 : ¬ z < 0 := by omega
    have hz32 : ¬ 32 < z := by omega
    have hltI : (q : Int) < S.made.length := by omega
    clear hc hz z1 z2; go_wp2_with fail
    go_roundw
    case rel => exact ⟨q + 1, by go_num, by omega, bel _ _, HB.out⟩
    case measure => simp [intOf]; omega
  · have hltI : ¬ (q : Int) < S.made.length := by omega
    go_wp2_with (go_at_call 59; with_reducible refine (h28 _ (bel _ _)).mono ?_; rintro e w8 ⟨F, rfl, hb8, hF⟩; have i8 : Bel w w8 := ⟨(bel w _).trans (hb8.mono (bel w _).size)⟩; have hB8 := (Keep.of_below hb8 (fun _ => False)).blk HB.out (fun h => h); have HF := Lib.hid (And.intro hF (And.intro hB8 i8.below)); clear hF hB8 hb8)
    go_loopw [5] (fun i wr => ∃ (q : Nat), i = .int .i64 q ∧ q ≤ S.ins.length ∧ Below w.heap.size w wr ∧ Blk wr w.heap.size #[.slice (some ⟨bi, oi, none⟩) S.ins.length ci, .slice ao no co, .slice am S.made.length cm] 26 ∧ RowAt wr 1 (.slice (some ⟨F, 0, none⟩) S.ins.length S.ins.length) ((reachR S).map boolCells)) (fun i _ => (S.ins.length - intOf i).toNat)
    case atStart => exact ⟨0, rfl, by omega, HF.out.2.2, HF.out.2.1, HF.out.1⟩
    case round =>
     clear s0 s1 s2 iB iL; obtain ⟨q, rfl, hq, hb, hblk, hF⟩ := hrel; have iB : Bel w wr := ⟨hb⟩
     have iL := hblk.lt; have s0 := hblk.cell 0; have s1 := hblk.cell 1; have s2 := hblk.cell 2; simp at s0 s1 s2; have HB := Lib.hid (And.intro hblk hF); clear hblk; by_cases hlt : q < S.ins.length
     · obtain ⟨x, hx⟩ : ∃ x, S.ins[q]? = some x := ⟨_, gE hlt⟩
       have hin := insG_at HIN.out hx; unfold inG at hin; simp only [Bool.and_eq_true, decide_eq_true_eq, beq_iff_eq] at hin; obtain ⟨hsz, hde, hen, hre, hpv⟩ := hin; obtain ⟨bi', oi', ev, he, -, hoi, her, hci⟩ := HI.out q x hx; cases he; obtain ⟨iI, x0, x1, x2, x3⟩ := hci wr hb; obtain ⟨aF, cF, eF, hatF⟩ := hF.at_; simp only [Value.slice.injEq] at eF; obtain ⟨rfl, -, rfl⟩ := eF; obtain ⟨bF, oF, hf, -, iF, hcf⟩ := hatF wr (Below.refl _ _) q (boolCells true) (by rw [gM, hre]; rfl); cases hf; have f0 := hcf 0 _ rfl; rw [Nat.mul_one, Nat.add_zero, Nat.zero_add] at f0; have hWx := HWF.out.2.2.2.1 x (mG hx); have h30x : ∀ ww, Below w.heap.size w ww → Calls Tryz.prog 61 #[.agg #[.slice (some ⟨bi, oi, none⟩) S.ins.length ci, .slice ao no co, .slice am S.made.length cm], .agg #[.int .i64 x.num, .bool x.dir, ev, .string x.data]] ww fun e w' => e = .returned (.bool true) ∧ Below ww.heap.size ww w' := fun ww hb => by
        have := h30 x.num x.dir x.data ev x.ents ww hb her hWx.2.1; rw [hen] at this; exact this
       have h29x := fun ww hb => h29 x.num ww hWx.1 hb
       have h31x := fun ww hb => h31 x.num ww hb
       obtain ⟨ae, ce, rfl, -⟩ := her.at_; rw [lM] at x2 h30x; have hltI : (q : Int) < S.ins.length := by omega
       have hxl := hWx.2.1; have hprev : ∀ k, q = k + 1 → ∃ m, wr.cell? ⟨bi, oi + k * 4, none⟩ = some (.int .i64 m) ∧ m = numAt S k := by
        intro k hk; obtain ⟨y, hy⟩ : ∃ y, S.ins[k]? = some y := ⟨_, gE (by omega)⟩
        obtain ⟨_, _, _, he2, -, _, _, hci2⟩ := HI.out k y hy; cases he2; exact ⟨y.num, (hci2 wr hb).2.1, by simp [numAt, hy]⟩
       obtain ⟨xn, xd, xe, xs⟩ := x; simp only at x0 x1 x2 x3 hsz hde hen hpv h30x h29x h31x hxl; have hszI : ¬ (256 : Int) < xs.size := by omega
       clear hcf hatF her hoi hci hx hen hre hF hWx h29 h30 h31 h27 h28; rcases q with _ | k
       · have hxd : xd = true := hpv; subst hxd; have hxs : xs = { data := #[] } := by
          have hd : (xs.size == 0) = true := hde; obtain ⟨d⟩ := xs; have h0 : d.size = 0 := beq_iff_eq.1 hd; rw [Array.eq_empty_of_size_eq_zero h0]
         subst hxs; clear hprev hpv hde; simp only [Nat.zero_mul, Nat.add_zero] at x0 x1 x2 x3 f0; go_wp2_with fail; refine wp_region_quiet_rest (by kernel_rfl) (by kernel_rfl) (WQ.out ?_)
         repeat
          refine WQ_step (fun K hK => ?_); go_simp
          first
           | (refine hK _ ?_; clear hK K)
           | (apply Exists.intro
              refine ⟨fun _ => ?_, hK _ ?_⟩
              focus (first | (with_reducible first | refine cI (h29x _ (bel _ _)) | refine cJ (h29x _ (bel _ _))) | (with_reducible first | refine cI (h30x _ (bel _ _)) | refine cJ (h30x _ (bel _ _))))
              clear hK K)
         refine WN fun p => ?_; go_wp2_with ((go_at_call 62; with_reducible refine aT (h31x _ (bel _ _)) fun p => ?_))
         go_roundw
         case rel => exact ⟨1, by go_num, by omega, bel _ _, (Keep.of_below (bel wr _) (fun _ => False)).blk HB.out.1 (fun h => h), HB.out.2.below (bel wr _) (Nat.le_refl _)⟩
         case measure => simp [intOf]; omega
       · obtain ⟨m, y0, hm⟩ := hprev k rfl; unfold prevG at hpv; simp only [Bool.and_eq_true, decide_eq_true_eq, Bool.or_eq_true, Bool.not_eq_true', beq_iff_eq] at hpv; obtain ⟨hp1, hp2, hp3⟩ := hpv; rw [← hm] at hp1; rw [hp2] at h29x; clear hprev hm hp2; generalize linksR S xn = ln at h31x hp3; rcases xd with _ | _
         · have hxe : xe = [] := by simpa using hde
           subst hxe; clear hde hp3; have kI : ((k + 1 : Nat) : Int) - 1 = k := by omega
           have kW : IntKind.i64.wrap (k : Int) = k := I64.wrap ⟨by omega, by omega⟩; have kl : k < S.ins.length := by omega
           have klI : (k : Int) < S.ins.length := by omega
           have k0 : (0 : Int) < ((k + 1 : Nat) : Int) := by omega
           have k0b : decide ((0 : Int) < ((k + 1 : Nat) : Int)) = true := decide_eq_true k0; have g1 : ¬ xn ≤ m := by omega
           have g1b : decide (xn ≤ m) = false := decide_eq_false g1; go_wp2_with fail; refine wp_region_quiet_rest (by kernel_rfl) (by kernel_rfl) (WQ.out ?_)
           repeat
            refine WQ_step (fun K hK => ?_); go_simp
            first
             | (refine hK _ ?_; clear hK K)
             | (apply Exists.intro
                refine ⟨fun _ => ?_, hK _ ?_⟩
                focus (first | (with_reducible first | refine cI (h29x _ (bel _ _)) | refine cJ (h29x _ (bel _ _))) | (with_reducible first | refine cI (h30x _ (bel _ _)) | refine cJ (h30x _ (bel _ _))))
                clear hK K)
           refine WN fun p => ?_; go_wp2_with ((go_at_call 62; with_reducible refine aT (h31x _ (bel _ _)) fun p => ?_))
           go_roundw
           case rel => exact ⟨k + 1 + 1, by go_num, by omega, bel _ _, (Keep.of_below (bel wr _) (fun _ => False)).blk HB.out.1 (fun h => h), HB.out.2.below (bel wr _) (Nat.le_refl _)⟩
           case measure => simp [intOf]; omega
         · have hl1 : ln = 1 := by simpa using hp3
           subst hl1; have hxs : xs = { data := #[] } := by
            have hd : (xs.size == 0) = true := hde; obtain ⟨d⟩ := xs; have h0 : d.size = 0 := beq_iff_eq.1 hd; rw [Array.eq_empty_of_size_eq_zero h0]
           subst hxs; clear hde hp3; have kI : ((k + 1 : Nat) : Int) - 1 = k := by omega
           have kW : IntKind.i64.wrap (k : Int) = k := I64.wrap ⟨by omega, by omega⟩; have kl : k < S.ins.length := by omega
           have klI : (k : Int) < S.ins.length := by omega
           have k0 : (0 : Int) < ((k + 1 : Nat) : Int) := by omega
           have k0b : decide ((0 : Int) < ((k + 1 : Nat) : Int)) = true := decide_eq_true k0; have g1 : ¬ xn ≤ m := by omega
           have g1b : decide (xn ≤ m) = false := decide_eq_false g1; go_wp2_with fail; refine wp_region_quiet_rest (by kernel_rfl) (by kernel_rfl) (WQ.out ?_)
           repeat
            refine WQ_step (fun K hK => ?_); go_simp
            first
             | (refine hK _ ?_; clear hK K)
             | (apply Exists.intro
                refine ⟨fun _ => ?_, hK _ ?_⟩
                focus (first | (with_reducible first | refine cI (h29x _ (bel _ _)) | refine cJ (h29x _ (bel _ _))) | (with_reducible first | refine cI (h30x _ (bel _ _)) | refine cJ (h30x _ (bel _ _))))
                clear hK K)
           refine WN fun p => ?_; go_wp2_with ((go_at_call 62; with_reducible refine aT (h31x _ (bel _ _)) fun p => ?_))
           go_roundw
           case rel => exact ⟨k + 1 + 1, by go_num, by omega, bel _ _, (Keep.of_below (bel wr _) (fun _ => False)).blk HB.out.1 (fun h => h), HB.out.2.below (bel wr _) (Nat.le_refl _)⟩
           case measure => simp [intOf]; omega
     · have hltI : ¬ (q : Int) < S.ins.length := by omega
       go_wp2_with fail; exact bodyPost_ret (v := .bool true) (by simp [results, Tryz.results30, go_sem]) rfl ⟨rfl, bel _ _⟩
theorem bsFrom_spec (f : Nat → Int) : ∀ (b lo hi : Nat), lo ≤ hi → hi - lo ≤ b → (∀ i j, lo ≤ i → i ≤ j → j < hi → f j < 0 → f i < 0) →
 lo ≤ bsFrom f b lo hi ∧ bsFrom f b lo hi ≤ hi ∧ (∀ i, lo ≤ i → i < bsFrom f b lo hi → f i < 0) ∧ (∀ i, bsFrom f b lo hi ≤ i → i < hi → ¬ f i < 0)
 | 0, lo, hi, h, hb, _ => by
   have : hi = lo := by omega
   subst this; exact ⟨Nat.le_refl _, Nat.le_refl _, fun i h1 h2 => absurd h2 (by show ¬ i < hi; omega), fun i h1 h2 => absurd h2 (by have : hi ≤ i := h1; omega)⟩
 | b + 1, lo, hi, h, hb, hm => by
   unfold bsFrom; by_cases hl : lo < hi
   · rw [if_pos hl]; by_cases hf : f ((lo + hi) / 2) < 0
     · rw [if_pos hf]; obtain ⟨h1, h2, h3, h4⟩ := bsFrom_spec f b ((lo + hi) / 2 + 1) hi (by omega) (by omega) (fun i j a c d e => hm i j (by omega) c d e); refine ⟨by omega, h2, fun i a c => ?_, h4⟩; by_cases hi' : i ≤ (lo + hi) / 2
       · exact hm i ((lo + hi) / 2) a hi' (by omega) hf
       · exact h3 i (by omega) c
     · rw [if_neg hf]; obtain ⟨h1, h2, h3, h4⟩ := bsFrom_spec f b lo ((lo + hi) / 2) (by omega) (by omega) (fun i j a c d e => hm i j a c (by omega) e); refine ⟨h1, by omega, h3, fun i a c => ?_⟩; by_cases hi' : i < (lo + hi) / 2
       · exact h4 i a hi'
       · exact fun hn => hf (hm ((lo + hi) / 2) i (by omega) (by omega) c hn)
   · rw [if_neg hl]; exact ⟨Nat.le_refl _, h, fun i h1 h2 => absurd h2 (by omega), fun i h1 h2 => absurd h2 (by omega)⟩
def Rise (ns : List Int) : Prop := ∀ (i j : Nat) (x y : Int), ns[i]? = some x → ns[j]? = some y → i < j → x < y
theorem Rise.inj {ns : List Int} (h : Rise ns) {i j : Nat} {x : Int} (hi : ns[i]? = some x) (hj : ns[j]? = some x) : i = j := by
 rcases Nat.lt_trichotomy i j with h1 | h1 | h1
 · have := h i j _ _ hi hj h1; omega
 · exact h1
 · have := h j i _ _ hj hi h1; omega
theorem findN_hit {ns : List Int} (h : Rise ns) {k : Nat} {n : Int} (hk : ns[k]? = some n) : findN ns n = k := by
 obtain ⟨hl, _⟩ := gI.1 hk
 have hc : ∀ j (hj : j < ns.length), cmpN ns n j = cmpM ns[j] n := fun j hj => by unfold cmpN; rw [gE hj]
 obtain ⟨h1, h2, h3, h4⟩ := bsFrom_spec (cmpN ns n) ns.length 0 ns.length (by omega) (by omega) (fun i j a c d e => by
  rw [hc j d] at e; rw [hc i (by omega)]; unfold cmpM at e ⊢; by_cases hij : i = j
  · subst hij; exact e
  · have := h i j _ _ (gE (by omega)) (gE d) (by omega)
    split at e
    · rw [if_pos (by omega)]; omega
    · split at e <;> omega)
 have hz : cmpN ns n k = 0 := by
  rw [hc k hl]; have : ns[k] = n := by have := gE hl; rw [hk] at this; exact (Option.some.inj this).symm
  rw [this]; simp [cmpM]
 have e : bsN ns n = k := by
  unfold bsN; generalize bsFrom (cmpN ns n) ns.length 0 ns.length = r at *; rcases Nat.lt_trichotomy r k with hrk | hrk | hrk
  · have := h4 r (Nat.le_refl _) (by omega); rw [hc r (by omega)] at this; have h5 := h r k _ _ (gE (by omega)) hk hrk; unfold cmpM at this; rw [if_pos h5] at this; omega
  · exact hrk
  · have := h3 k (Nat.zero_le _) hrk; omega
 unfold findN
 rw [e, hz]
 rw [if_pos (by simp [hl])]
theorem findN_miss {ns : List Int} {n : Int} (hn : ∀ x ∈ ns, x ≠ n) : findN ns n = -1 := by
 unfold findN
 rw [if_neg]
 intro h
 simp only [Bool.and_eq_true, decide_eq_true_eq, beq_iff_eq] at h
 obtain ⟨h1, h2⟩ := h
 unfold cmpN at h2
 rw [gE h1] at h2
 simp only at h2
 have := hn _ (List.getElem_mem h1)
 unfold cmpM at h2
 split at h2
 · omega
 · split at h2 <;> omega
theorem idxF_hit {α : Type} (p : α → Bool) : ∀ (zs : List α) (q k : Nat) (z : α), zs[k]? = some z → p z = true → (∀ j y, j < k → zs[j]? = some y → p y = false) → idxFrom p zs q = ((q + k : Nat) : Int)
 | [], _, _, _, h, _, _ => by simp at h
 | x :: r, q, 0, z, h, hp, _ => by
   simp at h; subst h; unfold idxFrom; rw [if_pos hp]; simp
 | x :: r, q, k + 1, z, h, hp, hl => by
   unfold idxFrom; rw [if_neg (by rw [hl 0 x (by omega) rfl]; simp), idxF_hit p r (q + 1) k z (by simpa using h) hp (fun j y hj hy => hl (j + 1) y (by omega) (by simpa using hy))]; omega
theorem idxF_miss {α : Type} (p : α → Bool) : ∀ (zs : List α) (q : Nat), (∀ z ∈ zs, p z = false) → idxFrom p zs q = -1
 | [], _, _ => rfl
 | x :: r, q, h => by
   unfold idxFrom; rw [if_neg (by rw [h x List.mem_cons_self]; simp)]; exact idxF_miss p r (q + 1) fun z hz => h z (List.mem_cons_of_mem _ hz)
theorem atR_hit {S : PSt} (h : Rise S.nums) {k : Nat} {x : PIn} (hk : S.ins[k]? = some x) : atR S x.num = k := by
 unfold atR idxM
 rw [idxF_hit (isNum x.num) S.ins 0 k x hk (by simp [isNum]) (fun j y hj hy => by
  unfold isNum; rw [beq_eq_false_iff_ne]; intro e; have := h j k y.num x.num (by unfold PSt.nums; rw [gM, hy]; rfl) (by unfold PSt.nums; rw [gM, hk]; rfl) hj; omega)]
 simp
theorem atR_cases (S : PSt) (n : Int) : (∃ (k : Nat) (x : PIn), S.ins[k]? = some x ∧ x.num = n) ∨ ((∀ x ∈ S.ins, x.num ≠ n) ∧ atR S n = -1) := by
 by_cases h : ∃ x ∈ S.ins, x.num = n
 · obtain ⟨x, hx, e⟩ := h; obtain ⟨k, hk⟩ := List.mem_iff_getElem?.1 hx; exact .inl ⟨k, x, hk, e⟩
 · have h' : ∀ x ∈ S.ins, x.num ≠ n := fun x hx e => h ⟨x, hx, e⟩
   refine .inr ⟨h', ?_⟩; unfold atR idxM; exact idxF_miss _ _ _ fun z hz => by unfold isNum; rw [beq_eq_false_iff_ne]; exact h' z hz
theorem find_atR {S : PSt} (h : Rise S.nums) (n : Int) : findN S.nums n = atR S n := by
 rcases atR_cases S n with ⟨k, x, hk, rfl⟩ | ⟨h1, h2⟩
 · rw [atR_hit h hk]; exact findN_hit h (by unfold PSt.nums; rw [gM, hk]; rfl)
 · rw [h2]; exact findN_miss fun y hy => by
    obtain ⟨x, hx, rfl⟩ := List.mem_map.1 hy; exact h1 x hx
theorem nums_at {S : PSt} {k : Nat} {x : PIn} (h : S.ins[k]? = some x) : S.nums[k]? = some x.num := by unfold PSt.nums; rw [gM, h]; rfl
theorem lkE_le (n : Int) : ∀ (es : List PEnt) (a : Int), a ≤ lkE n es a ∧ lkE n es a ≤ a + es.length
 | [], a => ⟨Int.le_refl _, by simp [lkE]⟩
 | e :: r, a => by
   unfold lkE; have := lkE_le n r (if (e.num == n) = true then a + 1 else a); simp only [List.length_cons]
   split at this <;> rename_i h
   · rw [if_pos h]; omega
   · rw [if_neg h]; omega
theorem bump_at {ns : List Int} (hr : Rise ns) {m : List Int} (hl : m.length = ns.length) {i : Nat} {n : Int} (hi : ns[i]? = some n) {k : Int} (hk : 0 ≤ findN ns k) (hb : 0 ≤ m.getD i 0 ∧ m.getD i 0 < 9000000000000000000) :
 (bumpAt m (findN ns k)).getD i 0 = if (k == n) = true then m.getD i 0 + 1 else m.getD i 0 := by
 obtain ⟨hil, _⟩ := gI.1 hi
 have him : i < m.length := by omega
 unfold bumpAt
 by_cases e : k = n
 · subst e; rw [findN_hit hr hi]; simp only [beq_self_eq_true, if_true, Int.toNat_natCast]; rw [List.getD_eq_getElem?_getD, List.getElem?_set_self him]; simp only [Option.getD_some]; unfold wrap64; omega
 · rw [if_neg (by simpa using e)]; have hne : (findN ns k).toNat ≠ i := by
    intro h; have hf : findN ns k = i := by omega
    by_cases hx : ∃ j : Nat, ns[j]? = some k
    · obtain ⟨j, hj⟩ := hx; rw [findN_hit hr hj] at hf; have : j = i := by omega
      subst this; rw [hj] at hi; exact e (Option.some.inj hi)
    · unfold findN at hf
      split at hf
      · rename_i hc
        simp only [Bool.and_eq_true, decide_eq_true_eq, beq_iff_eq] at hc; have hbi : bsN ns k = i := by omega
        rw [hbi] at hc; unfold cmpN at hc; rw [hi] at hc; have h2 := hc.2; simp only at h2; unfold cmpM at h2; rcases Int.lt_trichotomy n k with h | h | h
        · rw [if_pos h] at h2; exact absurd h2 (by decide)
        · exact e h.symm
        · rw [if_neg (by omega), if_pos h] at h2; exact absurd h2 (by decide)
      · omega
   rw [List.getD_eq_getElem?_getD, List.getElem?_set_ne hne, ← List.getD_eq_getElem?_getD]
theorem manyE_at {ns : List Int} (hr : Rise ns) {i : Nat} {n : Int} (hi : ns[i]? = some n) : ∀ (es : List PEnt) (m : List Int), m.length = ns.length → (∀ e ∈ es, 0 ≤ findN ns e.num) → 0 ≤ m.getD i 0 → m.getD i 0 + es.length < 9000000000000000000 → (manyE ns m es).getD i 0 = lkE n es (m.getD i 0)
 | [], _, _, _, _, _ => rfl
 | e :: r, m, hl, hf, h0, hb => by
   simp only [List.length_cons] at hb; have h1 := bump_at hr hl hi (hf e List.mem_cons_self) ⟨h0, by omega⟩; show (manyE ns (bumpAt m (findN ns e.num)) r).getD i 0 = lkE n r (if (e.num == n) = true then m.getD i 0 + 1 else m.getD i 0); rw [manyE_at hr hi r _ (by rw [bumpAt_len, hl]) (fun e he => hf e (List.mem_cons_of_mem _ he)) (by rw [h1]; split <;> omega) (by rw [h1]; split <;> omega), h1]
def entsLen (xs : List PIn) : Nat := (xs.map fun x => x.ents.length).sum
theorem manyM_at {ns : List Int} (hr : Rise ns) {i : Nat} {n : Int} (hi : ns[i]? = some n) : ∀ (xs : List PIn) (m : List Int), m.length = ns.length → (∀ x ∈ xs, ∀ e ∈ x.ents, 0 ≤ findN ns e.num) → (∀ x ∈ xs, x.dir = false → x.ents = []) → 0 ≤ m.getD i 0 → m.getD i 0 + entsLen xs < 9000000000000000000 → (manyM ns m xs).getD i 0 = lkI n xs (m.getD i 0)
 | [], _, _, _, _, _, _ => rfl
 | x :: r, m, hl, hf, hd, h0, hb => by
   simp only [entsLen, List.map_cons, List.sum_cons] at hb; have h1 := manyE_at hr hi x.ents m hl (hf x List.mem_cons_self) h0 (by omega); have h2 := lkE_le n x.ents (m.getD i 0); show (manyM ns (manyE ns m x.ents) r).getD i 0 = lkI n r (if x.dir = true then lkE n x.ents (m.getD i 0) else m.getD i 0); have h3 : (if x.dir = true then lkE n x.ents (m.getD i 0) else m.getD i 0) = lkE n x.ents (m.getD i 0) := by
    split
    · rfl
    · rename_i h
      rw [hd x List.mem_cons_self (by simpa using h)]; rfl
   rw [manyM_at hr hi r _ (by rw [manyE_len, hl]) (fun y hy => hf y (List.mem_cons_of_mem _ hy)) (fun y hy => hd y (List.mem_cons_of_mem _ hy)) (by rw [h1]; omega) (by rw [h1]; unfold entsLen; omega), h1, h3]
def Closed (S : PSt) (C : Nat → Prop) : Prop := ∀ (k : Nat) (x : PIn), C k → S.ins[k]? = some x → ∀ e ∈ x.ents, C (findN S.nums e.num).toNat
theorem getD_set_true {fd : List Bool} {k j : Nat} (h : fd.getD j false = true) : (fd.set k true).getD j false = true := by
 by_cases e : k = j
 · subst e; have hl : k < fd.length := by
    rcases Nat.lt_or_ge k fd.length with h1 | h1
    · exact h1
    · rw [List.getD_eq_getElem?_getD, List.getElem?_eq_none h1] at h; cases h
   rw [List.getD_eq_getElem?_getD, List.getElem?_set_self hl]; rfl
 · rw [List.getD_eq_getElem?_getD, List.getElem?_set_ne e, ← List.getD_eq_getElem?_getD]; exact h
def sumU (f : Nat → Nat) : Nat → Nat
 | 0 => 0
 | n + 1 => sumU f n + f n
theorem sumU_one {f : Nat → Nat} : ∀ {n : Nat}, sumU f n = 1 → ∃ p, p < n ∧ f p = 1 ∧ ∀ k, k < n → k ≠ p → f k = 0
 | 0, h => by cases h
 | n + 1, h => by
   unfold sumU at h; have hz : ∀ {m : Nat}, sumU f m = 0 → ∀ k, k < m → f k = 0 := by
    intro m
    induction m with
    | zero => intro _ k hk; omega
    | succ m ih =>
      intro h k hk; unfold sumU at h; by_cases e : k = m
      · subst e; omega
      · exact ih (by omega) k (by omega)
   by_cases e : f n = 1
   · exact ⟨n, by omega, e, fun k hk hne => hz (m := n) (by omega) k (by omega)⟩
   · obtain ⟨p, h1, h2, h3⟩ := sumU_one (f := f) (n := n) (by omega); exact ⟨p, by omega, h2, fun k hk hne => by
      by_cases e2 : k = n
      · subst e2; omega
      · exact h3 k (by omega) hne⟩
theorem sumU_mono {f g : Nat → Nat} : ∀ {n : Nat}, (∀ k, k < n → f k ≤ g k) → sumU f n ≤ sumU g n
 | 0, _ => Nat.le_refl _
 | n + 1, h => by
   unfold sumU; have h1 := sumU_mono (f := f) (g := g) (n := n) fun k hk => h k (by omega)
   have h2 := h n (by omega); omega
theorem sumU_const (c n : Nat) : sumU (fun _ => c) n = n * c := by
 induction n with
 | zero => simp [sumU]
 | succ n ih => unfold sumU; rw [ih, Nat.succ_mul]
theorem sumU_add (f g : Nat → Nat) (n : Nat) : sumU (fun k => f k + g k) n = sumU f n + sumU g n := by
 induction n with
 | zero => rfl
 | succ n ih => unfold sumU; rw [ih]; omega
def kidsI (S : PSt) (k : Nat) : List Nat := match S.ins[k]? with
 | some x => if x.dir = true then x.ents.map fun e => (atR S e.num).toNat else []
 | none => []
def levL (S : PSt) : Nat → List Nat → List Nat
 | 0, ns => ns
 | i + 1, ns => levL S i (ns.flatMap (kidsI S))
theorem levL_append (S : PSt) : ∀ i (as_ bs : List Nat), levL S i (as_ ++ bs) = levL S i as_ ++ levL S i bs
 | 0, _, _ => rfl
 | i + 1, as_, bs => by
   unfold levL; rw [List.flatMap_append]; exact levL_append S i _ _
theorem levL_step (S : PSt) : ∀ i ns, levL S (i + 1) ns = (levL S i ns).flatMap (kidsI S)
 | 0, _ => rfl
 | i + 1, ns => by
   show levL S (i + 1) (ns.flatMap (kidsI S)) = _; rw [levL_step S i]; rfl
def cntN (S : PSt) : Nat → Nat → Nat
 | 0, _ => 0
 | f + 1, k => 1 + ((kidsI S k).map (cntN S f)).sum
theorem sumU_shift (g : Nat → Nat) (n : Nat) : sumU g (n + 1) = g 0 + sumU (fun i => g (i + 1)) n := by
 induction n with
 | zero => simp [sumU]
 | succ n ih =>
   rw [sumU, ih]; simp only [sumU]; omega
structure Tree (S : PSt) : Prop where
 rise : Rise S.nums
 pos : 0 < S.ins.length
 small : S.ins.length ≤ 257
 found : ∀ x ∈ S.ins, ∀ e ∈ x.ents, 0 ≤ atR S e.num ∧ atR S e.num < S.ins.length
 root : ∀ k, 0 ∉ kidsI S k
 once : ∀ j x, S.ins[j]? = some x → x.dir = true → j ≠ 0 → sumU (fun k => (kidsI S k).count j) S.ins.length ≤ 1
 many : ∀ x ∈ S.ins, x.ents.length ≤ 32
 name : ∀ x ∈ S.ins, ∀ e ∈ x.ents, e.name.size ≤ 12
 data : ∀ x ∈ S.ins, x.data.size ≤ 256
section
variable {S : PSt}
theorem Tree.kid_lt (h : Tree S) {k j : Nat} (hj : j ∈ kidsI S k) : j < S.ins.length := by
 unfold kidsI at hj
 split at hj
 · rename_i x hx
   split at hj
   · obtain ⟨e, he, rfl⟩ := List.mem_map.1 hj; have := h.found x (mG hx) e he; omega
   · cases hj
 · cases hj
def isDir (S : PSt) (k : Nat) : Bool := match S.ins[k]? with | some x => x.dir | none => false
theorem kids_dir {k : Nat} (h : kidsI S k ≠ []) : isDir S k = true := by
 unfold kidsI at h
 unfold isDir
 split at h
 · rename_i x hx
   rcases hd : x.dir with _ | _
   · rw [hd] at h; simp at h
   · rfl
 · exact absurd rfl h
theorem Tree.lev_lt (h : Tree S) : ∀ i j, j ∈ levL S i [0] → j < S.ins.length
 | 0, j, hj => by
   have : j = 0 := List.mem_singleton.1 hj; have := h.pos; omega
 | i + 1, j, hj => by
   rw [levL_step] at hj; obtain ⟨k, _, hk⟩ := List.mem_flatMap.1 hj; exact h.kid_lt hk
theorem count_flat (f : Nat → List Nat) (j : Nat) : ∀ l : List Nat, (l.flatMap f).count j = (l.map fun k => (f k).count j).sum
 | [] => rfl
 | k :: r => by
   rw [List.flatMap_cons, List.count_append, count_flat f j r]; rfl
theorem sum_one_at {c : Nat → Nat} {p : Nat} (hp : c p = 1) : ∀ l : List Nat, (∀ k ∈ l, k ≠ p → c k = 0) → (l.map c).sum = l.count p
 | [], _ => rfl
 | k :: r, h => by
   rw [List.map_cons, List.sum_cons, sum_one_at hp r fun k hk => h k (List.mem_cons_of_mem _ hk), List.count_cons]; by_cases e : k = p
   · subst e; rw [hp]; simp; omega
   · rw [h k List.mem_cons_self e]; simp [e]
theorem sum_zero_at {c : Nat → Nat} : ∀ l : List Nat, (∀ k ∈ l, c k = 0) → (l.map c).sum = 0
 | [], _ => rfl
 | k :: r, h => by
   rw [List.map_cons, List.sum_cons, sum_zero_at r fun k hk => h k (List.mem_cons_of_mem _ hk), h k List.mem_cons_self]
theorem Tree.visit (h : Tree S) : ∀ (l j : Nat), isDir S j = true → sumU (fun i => (levL S i [0]).count j) (l + 1) ≤ 1
 | 0, j, _ => by
   simp only [sumU, levL]; rw [List.count_singleton]
   split <;> omega
 | l + 1, j, hj => by
   rw [sumU_shift]; have hstep : ∀ i, (levL S (i + 1) [0]).count j = ((levL S i [0]).map fun k => (kidsI S k).count j).sum := fun i => by rw [levL_step, count_flat]
   simp only [hstep]; by_cases j0 : j = 0
   · subst j0; have hz : ∀ i, ((levL S i [0]).map fun k => (kidsI S k).count 0).sum = 0 := fun i => sum_zero_at _ fun k _ => List.count_eq_zero.2 (h.root k)
     simp only [hz]; rw [sumU_const]; simp [levL]
   · have h0 : (levL S 0 [0]).count j = 0 := List.count_eq_zero.2 (by simp [levL]; exact j0); rw [h0, Nat.zero_add]; have hx : ∃ x, S.ins[j]? = some x ∧ x.dir = true := by
      unfold isDir at hj
      split at hj
      · rename_i x hx; exact ⟨x, hx, hj⟩
      · cases hj
     obtain ⟨x, hx1, hx2⟩ := hx; have ho := h.once j x hx1 hx2 j0; rcases Nat.lt_or_ge 0 (sumU (fun k => (kidsI S k).count j) S.ins.length) with hp | hp
     · obtain ⟨p, p1, p2, p3⟩ := sumU_one (f := fun k => (kidsI S k).count j) (n := S.ins.length) (by omega); have hpd : isDir S p = true := kids_dir (fun e => by simp only [e] at p2; simp at p2); have hi : ∀ i, ((levL S i [0]).map fun k => (kidsI S k).count j).sum = (levL S i [0]).count p := fun i => sum_one_at (c := fun k => (kidsI S k).count j) (p := p) p2 _ fun k hk hne => p3 k (h.lev_lt i k hk) hne
       simp only [hi]; exact h.visit l p hpd
     · have hz : ∀ k, k < S.ins.length → (kidsI S k).count j = 0 := by
        have key : ∀ (n : Nat), sumU (fun k => (kidsI S k).count j) n = 0 → ∀ k, k < n → (kidsI S k).count j = 0 := by
         intro n
         induction n with
         | zero => intro _ k hk; omega
         | succ n ih =>
           intro e k hk; unfold sumU at e; by_cases e2 : k = n
           · subst e2; omega
           · exact ih (by omega) k (by omega)
        exact key _ (by omega)
       have hi : ∀ i, ((levL S i [0]).map fun k => (kidsI S k).count j).sum = 0 := fun i => sum_zero_at _ fun k hk => hz k (h.lev_lt i k hk)
       simp only [hi]; rw [sumU_const]; omega
theorem countP_sum (S : PSt) (n : Nat) : ∀ l : List Nat, (∀ k ∈ l, k < n) → l.countP (isDir S) = sumU (fun j => if isDir S j = true then l.count j else 0) n := by
 intro l
 induction l with
 | nil =>
   intro _; have : (fun j => if isDir S j = true then ([] : List Nat).count j else 0) = fun _ => 0 := by funext j; simp
   rw [this, sumU_const]; simp
 | cons k r ih =>
   intro hl; have hk := hl k List.mem_cons_self; rw [List.countP_cons, ih fun k hk => hl k (List.mem_cons_of_mem _ hk)]; have e : (fun j => if isDir S j = true then (k :: r).count j else 0) = fun j => (if isDir S j = true then r.count j else 0) + (if j = k then (if isDir S k = true then 1 else 0) else 0) := by
    funext j
    rw [List.count_cons]; by_cases e1 : j = k
    · subst e1; simp
      split <;> rfl
    · have : (k == j) = false := by rw [beq_eq_false_iff_ne]; exact fun h => e1 h.symm
      simp [this, e1]
   rw [e, sumU_add]
   congr 1
   have one : ∀ (n k v : Nat), k < n → sumU (fun j => if j = k then v else 0) n = v := by
    intro n
    induction n with
    | zero => intro k v hk; omega
    | succ n ihn =>
      intro k v hk; unfold sumU; by_cases e2 : k = n
      · subst e2; have : sumU (fun j => if j = k then v else 0) k = 0 := by
         have hm : sumU (fun j => if j = k then v else 0) k ≤ sumU (fun _ => 0) k := sumU_mono fun j hj => by rw [if_neg (by omega)]; exact Nat.le_refl _
         rw [sumU_const] at hm; omega
        rw [this, if_pos rfl]; omega
      · rw [ihn k v (by omega), if_neg (fun h => e2 h.symm), Nat.add_zero]
   rw [one n k _ hk]
theorem sumU_swap (g : Nat → Nat → Nat) (n : Nat) : ∀ m, sumU (fun i => sumU (fun j => g i j) n) m = sumU (fun j => sumU (fun i => g i j) m) n
 | 0 => by
   simp only [sumU]; rw [sumU_const]; rfl
 | m + 1 => by
   rw [sumU, sumU_swap g n m]; rw [← sumU_add]; rfl
theorem Tree.dirs (h : Tree S) (l : Nat) : sumU (fun i => (levL S i [0]).countP (isDir S)) (l + 1) ≤ S.ins.length := by
 have e : ∀ i, (levL S i [0]).countP (isDir S) = sumU (fun j => if isDir S j = true then (levL S i [0]).count j else 0) S.ins.length := fun i => countP_sum S S.ins.length _ fun k hk => h.lev_lt i k hk
 simp only [e]
 rw [sumU_swap]
 have hb : sumU (fun j => sumU (fun i => if isDir S j = true then (levL S i [0]).count j else 0) (l + 1)) S.ins.length ≤ sumU (fun _ => 1) S.ins.length := sumU_mono fun j hj => by
  by_cases hd : isDir S j = true
  · simp only [hd, if_true]; exact h.visit l j hd
  · simp only [hd, if_neg (Bool.false_ne_true)]; have : sumU (fun _ => 0) (l + 1) = 0 := by rw [sumU_const]; rfl
    simp [this]
 rw [sumU_const] at hb
 omega
theorem Tree.ends (h : Tree S) : levL S 258 [0] = [] := by
 have hno : ∃ i, i < 258 ∧ (levL S i [0]).countP (isDir S) = 0 := by
  apply Classical.byContradiction; intro hn; have h1 : sumU (fun _ => 1) 258 ≤ sumU (fun i => (levL S i [0]).countP (isDir S)) 258 := sumU_mono fun i hi => by
   rcases Nat.lt_or_ge 0 ((levL S i [0]).countP (isDir S)) with h2 | h2
   · exact h2
   · exact absurd ⟨i, hi, by omega⟩ hn
  rw [sumU_const] at h1; have h2 : sumU (fun i => (levL S i [0]).countP (isDir S)) 258 ≤ S.ins.length := h.dirs 257; have h4 := h.small; omega
 obtain ⟨i, hi, hz⟩ := hno
 have h1 : levL S (i + 1) [0] = [] := by
  rw [levL_step]; rw [List.flatMap_eq_nil_iff]; intro k hk; apply Classical.byContradiction; intro hne; have := List.countP_eq_zero.1 hz k hk; exact this (kids_dir hne)
 have key : ∀ m, levL S (i + 1 + m) [0] = [] := by
  intro m
  induction m with
  | zero => exact h1
  | succ m ih => rw [← Nat.add_assoc, levL_step, ih]; rfl
 have := key (258 - (i + 1))
 rw [show i + 1 + (258 - (i + 1)) = 258 by omega] at this
 exact this
theorem atR_at {k : Nat} {n : Int} (h0 : 0 ≤ atR S n) (hk : (atR S n).toNat = k) : idxM (isNum n) S.ins = (k : Int) := by
 show atR S n = _
 omega
theorem Tree.ok (h : Tree S) : ∀ (f : Nat) (n : Int), 0 ≤ atR S n → atR S n < S.ins.length → levL S f [(atR S n).toNat] = [] → wlkOk S f n = true
 | 0, n, h0, h1, hl => by cases hl
 | f + 1, n, h0, h1, hl => by
   unfold wlkOk; rw [atR_at h0 rfl, Int.toNat_natCast]; have hx : S.ins[(atR S n).toNat]? = some (S.ins[(atR S n).toNat]'(by omega)) := gE (by omega); rw [hx]; simp only [Bool.and_eq_true, decide_eq_true_eq]; refine ⟨by omega, ?_⟩; rcases hd : (S.ins[(atR S n).toNat]'(by omega)).dir with _ | _
   · rfl
   · simp only [Bool.not_true, Bool.false_or, List.all_eq_true]; intro e he; have hf := h.found _ (List.getElem_mem (by omega)) e he; refine h.ok f e.num hf.1 hf.2 ?_; have hl2 : levL S f (kidsI S (atR S n).toNat) = [] := by
      have : levL S (f + 1) [(atR S n).toNat] = levL S f ([(atR S n).toNat].flatMap (kidsI S)) := rfl; rw [this] at hl; simpa using hl
     have hm : (atR S e.num).toNat ∈ kidsI S (atR S n).toNat := by
      unfold kidsI; rw [hx]; simp only; rw [if_pos hd]; exact List.mem_map_of_mem he
     obtain ⟨as_, bs, e2⟩ := List.append_of_mem hm; rw [e2, show (atR S e.num).toNat :: bs = [(atR S e.num).toNat] ++ bs from rfl, levL_append, levL_append] at hl2; exact (List.append_eq_nil_iff.1 (List.append_eq_nil_iff.1 hl2).2).1
theorem Tree.len (h : Tree S) : ∀ (f : Nat) (n : Int) (p : Nat), wLen S f n p ≤ cntN S f (atR S n).toNat * (p + 13 * f + 552)
 | 0, n, p => Nat.zero_le _
 | f + 1, n, p => by
   unfold wLen cntN; have ei : (idxM (isNum n) S.ins).toNat = (atR S n).toNat := rfl; rw [ei]; rcases hx : S.ins[(atR S n).toNat]? with _ | x
   · exact Nat.zero_le _
   · simp only; have hk : kidsI S (atR S n).toNat = if x.dir = true then x.ents.map fun e => (atR S e.num).toNat else [] := by unfold kidsI; rw [hx]
     have hxm := mG hx; by_cases hd : x.dir = true
     · rw [if_pos hd]; rw [if_pos hd] at hk; rw [hk, List.map_map]; have h1 := sum_le (fun e : PEnt => wLen S f e.num (p + 1 + e.name.size)) (fun e => cntN S f (atR S e.num).toNat * (p + 13 * (f + 1) + 552)) x.ents fun e he => by
        have h2 := h.len f e.num (p + 1 + e.name.size); have h3 := h.name x hxm e he; exact Nat.le_trans h2 (Nat.mul_le_mul_left _ (by omega))
       have h4 : (x.ents.map fun e => cntN S f (atR S e.num).toNat * (p + 13 * (f + 1) + 552)).sum = (x.ents.map (cntN S f ∘ fun e => (atR S e.num).toNat)).sum * (p + 13 * (f + 1) + 552) := by
        generalize p + 13 * (f + 1) + 552 = c
        induction x.ents with
        | nil => simp
        | cons e r ih => simp only [List.map_cons, List.sum_cons, Function.comp]; rw [ih, Nat.add_mul]
       rw [h4] at h1; rw [Nat.add_mul, Nat.one_mul]; omega
     · rw [if_neg hd]; have h5 := h.data x hxm; rw [Nat.add_mul, Nat.one_mul]; have : p + 2 * x.data.size + 40 ≤ p + 13 * (f + 1) + 552 := by omega
       omega
end
end Go.Proofs.YtmkapobnfigedaaGreatDoor
