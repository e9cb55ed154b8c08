/- The reference's May, whatever it answers. Conditions: none. -/
import Derived.Test.YtmkapobnfigedaaGreatDoorEl44
set_option linter.unusedVariables false
set_option linter.unusedSimpArgs false
namespace Go.Proofs.YtmkapobnfigedaaGreatDoor
open Go.RowKit
set_option maxRecDepth 100000 in
theorem isOpen32q (S : PSt) (iv ov mv : Value) (n : Int) (w : World) (h : StRead w iv ov mv S) (hlen : S.op.length ≤ 1000000000) :
 Calls Tryz.prog 63 #[.agg #[iv, ov, mv], .int .i64 n] w fun e w' => e = .returned (.bool (isOpenQ S n)) ∧ Below w.heap.size w w' := by
 obtain ⟨ai, ni, ci, ao, no, co, am, nm, cm, rfl, rfl, rfl⟩ := h.slices
 obtain ⟨a, cap, e1, hat⟩ := h.1.at_
 rw [List.length_map] at e1
 cases e1
 have HA := Lib.hid hat
 clear hat h
 obtain ⟨R, hR⟩ : ∃ R, isOpenQ S n = R := ⟨_, rfl⟩
 rw [hR]
 unfold isOpenQ at hR
 have HR := Lib.hid hR
 clear hR
 go_enter Tryz.func63, Tryz.ntmps63
 go_wp2_with fail
 go_loopw [5] (fun i wr => ∃ (q : Nat), i = .int .i64 q ∧ q ≤ S.op.length ∧ ((S.op.drop q).any fun d => d.num == n) = R ∧ Below w.heap.size w wr ∧ Blk wr w.heap.size #[.slice ai ni ci, .slice ao S.op.length co, .slice am nm cm] 26) (fun i _ => (S.op.length - intOf i).toNat)
 case atStart => exact ⟨0, rfl, by omega, HR.out, bel _ _, Blk.new w _ 26⟩
 case round =>
  obtain ⟨q, rfl, hq, hre, hb, hblk⟩ := hrel; have iB : Bel w wr := ⟨hb⟩
  have iL := hblk.lt; have s1 := hblk.cell 1; simp at s1; have HB := Lib.hid hblk; clear hblk; by_cases hlt : q < S.op.length
  · obtain ⟨z, hz⟩ : ∃ z, S.op[q]? = some z := ⟨_, List.getElem?_eq_getElem hlt⟩
    obtain ⟨b, off, rfl, iG0, iG, hc⟩ := HA.out wr hb q z.cells (by rw [List.getElem?_map, hz]; rfl); have c2 := hc 2 _ rfl; rw [drop_at hz, List.any_cons] at hre; clear hz hc; rcases hpz : (z.num == n) with _ | _
    · rw [hpz, Bool.false_or] at hre; have HZ := Lib.hid hre; clear hre; go_wp2_with fail
      go_roundw
      case rel => exact ⟨q + 1, by go_num, by omega, HZ.out, bel _ _, HB.out⟩
      case measure => simp [intOf]; omega
    · rw [hpz, Bool.true_or] at hre; subst hre; go_wp2_with fail; exact bodyPost_ret (v := .bool true) (by simp [results, Tryz.results63, go_sem]) rfl ⟨rfl, bel _ _⟩
  · rw [List.drop_of_length_le (by omega)] at hre; obtain rfl : R = false := by rw [← hre]; rfl
    go_wp2_with fail; exact bodyPost_ret (v := .bool false) (by simp [results, Tryz.results63, go_sem]) rfl ⟨rfl, bel _ _⟩

theorem reachF_lenq (S : PSt) : ∀ g st fd, (reachF S g st fd).length = fd.length
 | 0, _, fd => rfl
 | _ + 1, [], fd => rfl
 | g + 1, n :: st, fd => by
   unfold reachF
   split
   · exact reachF_lenq S g st fd
   · split
     · exact reachF_lenq S g st fd
     · split
       · rw [reachF_lenq, List.length_set]
       · rfl
theorem mayR_no1 {S : PSt} (h : ¬ (1 ≤ S.made.length ∧ S.made.length ≤ 8 ∧ 1 ≤ S.ins.length ∧ S.ins.length ≤ 257)) : mayR S = false := by
 unfold mayR
 rw [decide_eq_false h]
 rfl
theorem mayR_no2 {S : PSt} {x : PIn} (hx : S.ins[0]? = some x) (h : (x.num == 1 && x.dir) = false) : mayR S = false := by
 unfold mayR
 rw [hx]
 simp only [h, Bool.false_and, Bool.and_false]
theorem mayR_no3 {S : PSt} (h : openR S = false) : mayR S = false := by
 unfold mayR
 rw [h]
 simp only [Bool.false_and, Bool.and_false]
theorem mayR_no4 {S : PSt} {m : Int} {q : Nat} (hm : S.made[q]? = some m) (h : ¬ (0 ≤ m ∧ m ≤ 32)) : mayR S = false := by
 unfold mayR
 have : (S.made.all fun m => decide (0 ≤ m ∧ m ≤ 32)) = false := by
  rw [List.all_eq_false]; exact ⟨m, List.mem_of_getElem? hm, by simpa using h⟩
 rw [this]
 simp only [Bool.false_and, Bool.and_false]
theorem mayR_no5 {S : PSt} {x : PIn} {q : Nat} (hx : S.ins[q]? = some x) (h : inR S q x = false) : mayR S = false := by
 rcases e : mayR S with _ | _
 · rfl
 · unfold mayR at e; simp only [Bool.and_eq_true] at e; have := insR_at e.2.2.2.2 hx; rw [h] at this; cases this
theorem mayR_yes {S : PSt} (h1 : 1 ≤ S.made.length ∧ S.made.length ≤ 8 ∧ 1 ≤ S.ins.length ∧ S.ins.length ≤ 257) {x : PIn} (hx : S.ins[0]? = some x) (h2 : (x.num == 1 && x.dir) = true) (h3 : openR S = true) (h4 : ∀ (q : Nat) (m : Int), S.made[q]? = some m → 0 ≤ m ∧ m ≤ 32) (h5 : ∀ (q : Nat) (x : PIn), S.ins[q]? = some x → inR S q x = true) : mayR S = true := by
 unfold mayR
 rw [decide_eq_true h1, hx, h3]
 simp only [h2, Bool.true_and, Bool.and_eq_true, List.all_eq_true, decide_eq_true_eq]
 refine ⟨fun m hm => ?_, ?_⟩
 · obtain ⟨q, hq⟩ := List.mem_iff_getElem?.1 hm; exact h4 q m hq
 · unfold insR; rw [List.all_eq_true]; intro q hq; have hl := List.mem_range.1 hq; rw [List.getElem?_eq_getElem hl]; exact h5 q _ (List.getElem?_eq_getElem hl)
set_option maxRecDepth 100000 in
set_option maxHeartbeats 40000000 in
theorem may13r (S : PSt) (iv ov mv : Value) (w : World) (h : StRead w iv ov mv S) (hwf : S.wf) :
 Calls Tryz.prog 30 #[.agg #[iv, ov, mv]] w fun e w' => e = .returned (.bool (mayR S)) ∧ Below w.heap.size w w' := by
 have h27 : ∀ ww, Below w.heap.size w ww → Calls Tryz.prog 58 #[.agg #[iv, ov, mv]] ww fun e w' => e = .returned (.bool (openR S)) ∧ Below ww.heap.size ww w' := fun ww hb => by
  have := open27 S iv ov mv ww (h.below hb (Nat.le_refl _)) hwf; exact this
 have h28 : S.ins.length ≤ 257 → ∀ ww, Below w.heap.size w ww → Calls Tryz.prog 59 #[.agg #[iv, ov, mv]] ww fun e w' => ∃ F : Nat, e = .returned (.slice (some ⟨F, 0, none⟩) S.ins.length S.ins.length) ∧ Below ww.heap.size ww w' ∧ RowAt w' 1 (.slice (some ⟨F, 0, none⟩) S.ins.length S.ins.length) ((reachR S).map boolCells) := fun h257 ww hb => reached28 S iv ov mv ww (h.below hb (Nat.le_refl _)) hwf (by omega)
 have h29 : ∀ n ww, I64 n → Below w.heap.size w ww → Calls Tryz.prog 60 #[.agg #[iv, ov, mv], .int .i64 n] ww fun e w' => e = .returned (.bool (givenR S n)) ∧ Below ww.heap.size ww w' := fun n ww hn hb => given29 S iv ov mv n hn ww (h.below hb (Nat.le_refl _)) hwf
 have h31 : ∀ n ww, Below w.heap.size w ww → Calls Tryz.prog 62 #[.agg #[iv, ov, mv], .int .i64 n] ww fun e w' => e = .returned (.int .i64 (linksR S n)) ∧ Below ww.heap.size ww w' := fun n ww hb => links31 S iv ov mv n ww (h.below hb (Nat.le_refl _)) hwf
 have h30 : ∀ xn xd xs ev es ww, Below w.heap.size w ww → RowAt w 2 ev (es.map PEnt.cells) → es.length ≤ 1000000000 → Calls Tryz.prog 61 #[.agg #[iv, ov, mv], .agg #[.int .i64 xn, .bool xd, ev, .string xs]] ww fun e w' => e = .returned (.bool (entsR S es)) ∧ Below ww.heap.size ww w' := fun xn xd xs ev es ww hb he hl => entries30 S iv ov mv xn xd xs ev es ww (h.below hb (Nat.le_refl _)) hwf (he.below hb (Nat.le_refl _)) hl
 have h32 : ∀ n ww, Below w.heap.size w ww → Calls Tryz.prog 63 #[.agg #[iv, ov, mv], .int .i64 n] ww fun e w' => e = .returned (.bool (isOpenQ S n)) ∧ Below ww.heap.size ww w' := fun n ww hb => isOpen32q S iv ov mv n ww (h.below hb (Nat.le_refl _)) hwf.2.1
 obtain ⟨ai, ni, ci, ao, no, co, am, nm, cm, rfl, rfl, rfl⟩ := h.slices
 obtain ⟨a, cap, e1, hai⟩ := h.ins_at2
 cases e1
 obtain ⟨a, cap, e1, ham⟩ := h.2.1.at_
 rw [List.length_map] at e1
 cases e1
 generalize hM : mayR S = M
 have HI := Lib.hid hai
 have HM := Lib.hid ham
 have HWF := Lib.hid hwf
 by_cases a1 : S.made.length < 1
 · obtain rfl : M = false := by rw [← hM]; exact mayR_no1 (by omega)
   have g1 : (S.made.length : Int) < 1 := by omega
   clear hai ham hwf h h27 h28 h29 h30 h31 h32 hM
   go_enter Tryz.func30, Tryz.ntmps30
   go_wp2_with fail; exact bodyPost_ret (v := .bool false) (by simp [results, Tryz.results30, go_sem]) rfl ⟨rfl, bel _ _⟩
 have g1 : ¬ (S.made.length : Int) < 1 := by omega
 by_cases a2 : 8 < S.made.length
 · obtain rfl : M = false := by rw [← hM]; exact mayR_no1 (by omega)
   have g2 : (8 : Int) < S.made.length := by omega
   clear hai ham hwf h h27 h28 h29 h30 h31 h32 hM
   go_enter Tryz.func30, Tryz.ntmps30
   go_wp2_with fail; exact bodyPost_ret (v := .bool false) (by simp [results, Tryz.results30, go_sem]) rfl ⟨rfl, bel _ _⟩
 have g2 : ¬ (8 : Int) < S.made.length := by omega
 by_cases a3 : S.ins.length < 1
 · obtain rfl : M = false := by rw [← hM]; exact mayR_no1 (by omega)
   have g3 : (S.ins.length : Int) < 1 := by omega
   clear hai ham hwf h h27 h28 h29 h30 h31 h32 hM
   go_enter Tryz.func30, Tryz.ntmps30
   go_wp2_with fail; exact bodyPost_ret (v := .bool false) (by simp [results, Tryz.results30, go_sem]) rfl ⟨rfl, bel _ _⟩
 have g3 : ¬ (S.ins.length : Int) < 1 := by omega
 have g5 : 0 < S.ins.length := by omega
 have g6 : (0 : Int) < S.ins.length := by omega
 obtain ⟨x0, hx0⟩ : ∃ x, S.ins[0]? = some x := ⟨_, List.getElem?_eq_getElem (by omega)⟩
 obtain ⟨bi, oi, ev0, rfl, iI0, hoi, her0, hci0⟩ := hai 0 x0 hx0
 obtain ⟨iI, y0, y1, y2, y3⟩ := hci0 w (Below.refl _ _)
 simp only [Nat.zero_mul, Nat.add_zero] at y0 y1
 by_cases hn0 : x0.num = 1
 rotate_left
 · obtain rfl : M = false := by rw [← hM]; exact mayR_no2 hx0 (by simp [hn0])
   have hnb : (x0.num != 1) = true := by simpa using hn0
   clear hai ham hwf h h27 h28 h29 h30 h31 h32 hM y2 y3 her0 hci0 hoi hx0
   go_enter Tryz.func30, Tryz.ntmps30
   go_wp2_with fail; exact bodyPost_ret (v := .bool false) (by simp [results, Tryz.results30, go_sem]) rfl ⟨rfl, bel _ _⟩
 rcases hd0 : x0.dir with _ | _
 · obtain rfl : M = false := by rw [← hM]; exact mayR_no2 hx0 (by simp [hd0])
   rw [hn0] at y0; rw [hd0] at y1; clear hai ham hwf h h27 h28 h29 h30 h31 h32 hM y2 y3 her0 hci0 hoi hx0
   go_enter Tryz.func30, Tryz.ntmps30
   go_wp2_with fail; exact bodyPost_ret (v := .bool false) (by simp [results, Tryz.results30, go_sem]) rfl ⟨rfl, bel _ _⟩
 rw [hn0] at y0
 rw [hd0] at y1
 have HX0 := Lib.hid (And.intro hx0 (And.intro hn0 hd0))
 rcases hop : openR S with _ | _
 · obtain rfl : M = false := by rw [← hM]; exact mayR_no3 hop
   rw [hop] at h27; clear hai ham hwf h h28 h29 h30 h31 h32 hM y2 y3 her0 hci0 hoi hx0 hop hn0 hd0
   go_enter Tryz.func30, Tryz.ntmps30
   go_wp2_with ((go_at_call 58; with_reducible refine (h27 _ (bel _ _)).mono ?_; rintro e w' ⟨rfl, hb⟩; obtain ⟨p, rfl⟩ := hb.rest; clear hb))
   exact bodyPost_ret (v := .bool false) (by simp [results, Tryz.results30, go_sem]) rfl ⟨rfl, bel _ _⟩
 rw [hop] at h27
 have HOP := Lib.hid hop
 have HMM := Lib.hid hM
 clear hai ham hwf h hM y2 y3 her0 hci0 hoi hx0 hop hn0 hd0
 go_enter Tryz.func30, Tryz.ntmps30
 go_wp2_with ((go_at_call 58; with_reducible refine (h27 _ (bel _ _)).mono ?_; rintro e w' ⟨rfl, hb⟩; obtain ⟨p, rfl⟩ := hb.rest; clear hb))
 go_loopw [3] (fun i wr => ∃ (q : Nat), i = .int .i64 q ∧ q ≤ S.made.length ∧ (∀ (j : Nat) (m : Int), j < q → S.made[j]? = some m → 0 ≤ m ∧ m ≤ 32) ∧ Below w.heap.size w wr ∧ Blk wr w.heap.size #[.slice (some ⟨bi, oi, none⟩) S.ins.length ci, .slice ao no co, .slice am S.made.length cm] 26) (fun i _ => (S.made.length - intOf i).toNat)
 case atStart => exact ⟨0, rfl, by omega, fun j m hj => by omega, bel _ _, (Blk.new w _ 26).junk _⟩
 case round =>
  clear y0 y1 iI
  rename World => wq
  obtain ⟨q, rfl, hq, hpre, hb, hblk⟩ := hrel; have iB : Bel w wq := ⟨hb⟩
  have iL := hblk.lt; have s0 := hblk.cell 0; have s1 := hblk.cell 1; have s2 := hblk.cell 2; simp at s0 s1 s2; have HB := Lib.hid hblk; have HPRE := Lib.hid hpre; clear hblk hpre; by_cases hlt : q < S.made.length
  · obtain ⟨z, hz⟩ : ∃ z, S.made[q]? = some z := ⟨_, List.getElem?_eq_getElem hlt⟩
    obtain ⟨b, off, rfl, iG0, iG, hc⟩ := HM.out wq hb q (intCells z) (by rw [List.getElem?_map, hz]; rfl); have c0 := hc 0 _ rfl; rw [Nat.mul_one, Nat.add_zero] at c0; have hltI : (q : Int) < S.made.length := by omega
    by_cases z0 : z < 0
    · obtain rfl : M = false := by rw [← HMM.out]; exact mayR_no4 hz (by omega)
      clear hc hz; go_wp2_with fail; exact bodyPost_ret (v := .bool false) (by simp [results, Tryz.results30, go_sem]) rfl ⟨rfl, bel _ _⟩
    by_cases z1 : 32 < z
    · obtain rfl : M = false := by rw [← HMM.out]; exact mayR_no4 hz (by omega)
      clear hc hz; go_wp2_with fail; exact bodyPost_ret (v := .bool false) (by simp [results, Tryz.results30, go_sem]) rfl ⟨rfl, bel _ _⟩
    have HZ := Lib.hid hz; have HZZ := Lib.hid (show 0 ≤ z ∧ z ≤ 32 by omega); clear hc hz; go_wp2_with fail
    go_roundw
    case rel =>
     refine ⟨q + 1, by go_num, by omega, fun j m hj hm => ?_, bel _ _, HB.out⟩; by_cases e : j = q
     · subst e; rw [HZ.out] at hm; cases hm; exact HZZ.out
     · exact HPRE.out j m (by omega) hm
    case measure => simp [intOf]; omega
  · have hltI : ¬ (q : Int) < S.made.length := by omega
    by_cases a4 : 257 < S.ins.length
    · obtain rfl : M = false := by rw [← HMM.out]; exact mayR_no1 (by omega)
      have g4 : (257 : Int) < S.ins.length := by omega
      go_wp2_with fail; exact bodyPost_ret (v := .bool false) (by simp [results, Tryz.results30, go_sem]) rfl ⟨rfl, bel _ _⟩
    have g4 : ¬ (257 : Int) < S.ins.length := by omega
    have HMADE := Lib.hid (show ∀ (j : Nat) (m : Int), S.made[j]? = some m → 0 ≤ m ∧ m ≤ 32 from fun j m hm => HPRE.out j m (by obtain ⟨h, _⟩ := List.getElem?_eq_some_iff.1 hm; omega) hm); clear HPRE; go_wp2_with (go_at_call 59; with_reducible refine (h28 (by omega) _ (bel _ _)).mono ?_; rintro e w8 ⟨F, rfl, hb8, hF⟩; have i8 : Bel w w8 := ⟨(bel w _).trans (hb8.mono (bel w _).size)⟩; have hB8 := (Keep.of_below hb8 (fun _ => False)).blk HB.out (fun h => h); have HF := Lib.hid (And.intro hF (And.intro hB8 i8.below)); clear hF hB8 hb8)
    go_loopw [5] (fun i wr => ∃ (q : Nat), i = .int .i64 q ∧ q ≤ S.ins.length ∧ (∀ (j : Nat) (x : PIn), j < q → S.ins[j]? = some x → inR S j x = true) ∧ Below w.heap.size w wr ∧ Blk wr w.heap.size #[.slice (some ⟨bi, oi, none⟩) S.ins.length ci, .slice ao no co, .slice am S.made.length cm] 26 ∧ RowAt wr 1 (.slice (some ⟨F, 0, none⟩) S.ins.length S.ins.length) ((reachR S).map boolCells)) (fun i _ => (S.ins.length - intOf i).toNat)
    case atStart => exact ⟨0, rfl, by omega, fun j m hj => by omega, HF.out.2.2, HF.out.2.1, HF.out.1⟩
    case round =>
     clear s0 s1 s2 iB iL; obtain ⟨q, rfl, hq, hpre, hb, hblk, hF⟩ := hrel; have iB : Bel w wr := ⟨hb⟩
     have iL := hblk.lt; have s0 := hblk.cell 0; have s1 := hblk.cell 1; have s2 := hblk.cell 2; simp at s0 s1 s2; have HB := Lib.hid (And.intro hblk hF); have HPRE := Lib.hid hpre; clear hblk hpre; by_cases hlt : q < S.ins.length
     · obtain ⟨x, hx⟩ : ∃ x, S.ins[q]? = some x := ⟨_, List.getElem?_eq_getElem hlt⟩
       have hno : inR S q x = false → M = false := fun hi => by rw [← HMM.out]; exact mayR_no5 hx hi
       have hroot : q = 0 → x.num = 1 ∧ x.dir = true := fun e => by
        subst e; have := HX0.out.1; rw [hx] at this; cases this; exact HX0.out.2
       have hstep : inR S q x = true → ∀ (j : Nat) (y : PIn), j < q + 1 → S.ins[j]? = some y → inR S j y = true := fun hi j y hj hy => by
        by_cases e : j = q
        · subst e; rw [hx] at hy; cases hy; exact hi
        · exact HPRE.out j y (by omega) hy
       clear HPRE; unfold inR at hno; unfold inR at hstep; obtain ⟨bi', oi', ev, he, -, hoi, her, hci⟩ := HI.out q x hx; cases he; obtain ⟨iI, x0, x1, x2, x3⟩ := hci wr hb; obtain ⟨aF, cF, eF, hatF⟩ := hF.at_; simp only [Value.slice.injEq] at eF; obtain ⟨rfl, -, rfl⟩ := eF; have hrl : (reachR S).length = S.ins.length := by unfold reachR; rw [reachF_lenq]; simp
       obtain ⟨f, hre⟩ : ∃ f, (reachR S)[q]? = some f := ⟨_, List.getElem?_eq_getElem (by omega)⟩
       have hgd : (reachR S).getD q false = f := by rw [List.getD_eq_getElem?_getD, hre]; rfl
       rw [hgd] at hno; obtain ⟨bF, oF, hf, -, iF, hcf⟩ := hatF wr (Below.refl _ _) q (boolCells f) (by rw [List.getElem?_map, hre]; rfl); cases hf; have f0 := hcf 0 _ rfl; rw [Nat.mul_one, Nat.add_zero, Nat.zero_add] at f0; have hWx := HWF.out.2.2.2.1 x (List.mem_of_getElem? hx); have h30x : ∀ ww, Below w.heap.size w ww → Calls Tryz.prog 61 #[.agg #[.slice (some ⟨bi, oi, none⟩) S.ins.length ci, .slice ao no co, .slice am S.made.length cm], .agg #[.int .i64 x.num, .bool x.dir, ev, .string x.data]] ww fun e w' => e = .returned (.bool (entsR S x.ents)) ∧ Below ww.heap.size ww w' := fun ww hb => h30 x.num x.dir x.data ev x.ents ww hb her hWx.2.1
       have h29x := fun ww hb => h29 x.num ww hWx.1 hb
       have h31x := fun ww hb => h31 x.num ww hb
       have h32x := fun ww hb => h32 x.num ww hb
       obtain ⟨ae, ce, rfl, -⟩ := her.at_; rw [List.length_map] at x2 h30x; have hltI : (q : Int) < S.ins.length := by omega
       have hxl := hWx.2.1; have hprev : ∀ k, q = k + 1 → ∃ m, wr.cell? ⟨bi, oi + k * 4, none⟩ = some (.int .i64 m) ∧ m = numAt S k := by
        intro k hk; obtain ⟨y, hy⟩ : ∃ y, S.ins[k]? = some y := ⟨_, List.getElem?_eq_getElem (by omega)⟩
        obtain ⟨_, _, _, he2, -, _, _, hci2⟩ := HI.out k y hy; cases he2; exact ⟨y.num, (hci2 wr hb).2.1, by simp [numAt, hy]⟩
       obtain ⟨xn, xd, xe, xs⟩ := x; simp only at x0 x1 x2 x3 h30x h29x h31x h32x hxl hno hroot; have hstep2 : (∀ (j : Nat) (y : PIn), j < q + 1 → S.ins[j]? = some y → inR S j y = true) ∨ True := .inr trivial; rw [hgd] at hstep; simp only at hstep; generalize linksR S xn = ln at h31x hno hstep; generalize isOpenQ S xn = io at h32x hno hstep; generalize givenR S xn = gv at h29x hno hstep; generalize entsR S xe = en at h30x hno hstep; clear hcf hatF her hoi hci hx hre hF hWx h29 h30 h31 h32 h27 h28 hgd hstep2 hrl; have hsz : (256 < xs.size ∧ decide (xs.size ≤ 256) = false) ∨ (xs.size ≤ 256 ∧ decide (xs.size ≤ 256) = true) := by
        by_cases e : xs.size ≤ 256
        · exact .inr ⟨e, decide_eq_true e⟩
        · exact .inl ⟨by omega, decide_eq_false e⟩
       have hda : (xs = { data := #[] } ∧ (xs.size == 0) = true) ∨ (xs.toList ≠ [] ∧ (xs.size == 0) = false) := by
        obtain ⟨dd⟩ := xs; by_cases e : dd.size = 0
        · left; rw [Array.eq_empty_of_size_eq_zero e]; exact ⟨rfl, rfl⟩
        · right; refine ⟨fun hn => ?_, by rw [beq_eq_false_iff_ne]; exact e⟩; rw [ByteArray.toList_eq] at hn; exact e (by have := congrArg List.length hn; simpa using this)
       have hea : (xe = [] ∧ xe.isEmpty = true) ∨ (0 < xe.length ∧ xe.isEmpty = false) := by
        rcases xe with _ | ⟨e, r⟩
        · exact .inl ⟨rfl, rfl⟩
        · exact .inr ⟨by simp, rfl⟩
       have hln : (ln = 1 ∧ (ln == 1) = true) ∨ (ln ≠ 1 ∧ (ln == 1) = false) := by
        by_cases e : ln = 1
        · exact .inl ⟨e, by simpa using e⟩
        · exact .inr ⟨e, by simpa using e⟩
       rcases q with _ | k
       · obtain ⟨hr1, hr2⟩ := hroot rfl; subst hr1 hr2; clear hroot hprev; have HNO := Lib.hid hno; have HST := Lib.hid hstep; clear hno hstep; simp only [Nat.zero_mul, Nat.add_zero] at x0 x1 x2 x3 f0; rcases hsz with ⟨s1, hs⟩ | ⟨s1, hs⟩
         · have hszI : (256 : Int) < xs.size := by omega
           have hszb : decide ((256 : Int) < xs.size) = true := decide_eq_true hszI; have HE := Lib.hid (HNO.out (by simp [hs])); clear HNO HST
           as_aux_lemma =>
            go_wp2_with fail; refine wp_region_quiet_rest (by kernel_rfl) (by kernel_rfl) (WQ.out ?_)
            repeat
             refine WQ_step (fun K hK => ?_); go_simp
             first
              | (refine hK _ ?_; clear hK K)
              | (apply Exists.intro
                 refine ⟨fun _ => ?_, hK _ ?_⟩
                 focus (first | (with_reducible refine calls_in (h29x _ (bel _ _)) (fun w' hb => ?_); first | exact hb.rest | exact rest1 hb | exact rest2 hb) | (with_reducible refine calls_in (h30x _ (bel _ _)) (fun w' hb => ?_); first | exact hb.rest | exact rest1 hb | exact rest2 hb))
                 clear hK K)
            refine WQ_nil ?_; intro w1 hw1; obtain ⟨p, hw1⟩ := hw1; subst hw1; go_wp2_with fail; obtain rfl : M = false := HE.out; exact bodyPost_ret (v := .bool false) (by simp [results, Tryz.results30, go_sem]) rfl ⟨rfl, bel _ _⟩
         · have hszI : ¬ (256 : Int) < xs.size := by omega
           have hszb : decide ((256 : Int) < xs.size) = false := decide_eq_false hszI; rcases hda with ⟨rfl, hd⟩ | ⟨d1, hd⟩
           · as_aux_lemma =>
              go_wp2_with fail; refine wp_region_quiet_rest (by kernel_rfl) (by kernel_rfl) (WQ.out ?_)
              repeat
               refine WQ_step (fun K hK => ?_); go_simp
               first
                | (refine hK _ ?_; clear hK K)
                | (apply Exists.intro
                   refine ⟨fun _ => ?_, hK _ ?_⟩
                   focus (first | (with_reducible refine calls_in (h29x _ (bel _ _)) (fun w' hb => ?_); first | exact hb.rest | exact rest1 hb | exact rest2 hb) | (with_reducible refine calls_in (h30x _ (bel _ _)) (fun w' hb => ?_); first | exact hb.rest | exact rest1 hb | exact rest2 hb))
                   clear hK K)
              refine WQ_nil ?_; intro w1 hw1; obtain ⟨p, hw1⟩ := hw1; subst hw1; rcases en with _ | _
              · have HE := Lib.hid (HNO.out (by simp [hs, hd])); go_wp2_with fail; obtain rfl : M = false := HE.out; exact bodyPost_ret (v := .bool false) (by simp [results, Tryz.results30, go_sem]) rfl ⟨rfl, bel _ _⟩
              · have HE := Lib.hid (HST.out (by simp [hs, hd])); go_wp2_with (first | (go_at_call 62; with_reducible refine (h31x _ (bel _ _)).mono ?_; rintro e w' ⟨rfl, hb⟩; obtain ⟨p31, rfl⟩ := hb.rest; clear hb) | (go_at_call 63; with_reducible refine (h32x _ (bel _ _)).mono ?_; rintro e w' ⟨rfl, hb⟩; obtain ⟨p32, rfl⟩ := hb.rest; clear hb))
                go_roundw
                case rel => exact ⟨0 + 1, by go_num, by omega, HE.out, bel _ _, (Keep.of_below (bel wr _) (fun _ => False)).blk HB.out.1 (fun h => h), HB.out.2.below (bel wr _) (Nat.le_refl _)⟩
                case measure => simp [intOf]; omega
           · have dE : (xs.toList == []) = false := by simpa using d1
             have HE := Lib.hid (HNO.out (by simp [hs, hd])); clear HNO HST
             as_aux_lemma =>
              go_wp2_with fail; refine wp_region_quiet_rest (by kernel_rfl) (by kernel_rfl) (WQ.out ?_)
              repeat
               refine WQ_step (fun K hK => ?_); go_simp
               first
                | (refine hK _ ?_; clear hK K)
                | (apply Exists.intro
                   refine ⟨fun _ => ?_, hK _ ?_⟩
                   focus (first | (with_reducible refine calls_in (h29x _ (bel _ _)) (fun w' hb => ?_); first | exact hb.rest | exact rest1 hb | exact rest2 hb) | (with_reducible refine calls_in (h30x _ (bel _ _)) (fun w' hb => ?_); first | exact hb.rest | exact rest1 hb | exact rest2 hb))
                   clear hK K)
              refine WQ_nil ?_; intro w1 hw1; obtain ⟨p, hw1⟩ := hw1; subst hw1; go_wp2_with fail; obtain rfl : M = false := HE.out; exact bodyPost_ret (v := .bool false) (by simp [results, Tryz.results30, go_sem]) rfl ⟨rfl, bel _ _⟩
       · obtain ⟨m, y0, hm⟩ := hprev k rfl; clear hroot hprev; have kI : ((k + 1 : Nat) : Int) - 1 = k := by omega
         have kW : IntKind.i64.wrap (k : Int) = k := I64.wrap ⟨by omega, by omega⟩; have kl : k < S.ins.length := by omega
         have klI : (k : Int) < S.ins.length := by omega
         have k0 : (0 : Int) < ((k + 1 : Nat) : Int) := by omega
         have k0b : decide ((0 : Int) < ((k + 1 : Nat) : Int)) = true := decide_eq_true k0; rw [Nat.add_sub_cancel] at hno hstep; have HNO := Lib.hid hno; have HST := Lib.hid hstep; clear hno hstep; by_cases c1 : numAt S k < xn
         · have c1b : decide (numAt S k < xn) = true := decide_eq_true c1; have g1n : ¬ xn ≤ m := by omega
           have g1b : decide (xn ≤ m) = false := decide_eq_false g1n; clear hm c1; rcases gv with _ | _
           · have HE := Lib.hid (HNO.out (by simp [c1b])); clear HNO HST
             as_aux_lemma =>
              go_wp2_with fail; refine wp_region_quiet_rest (by kernel_rfl) (by kernel_rfl) (WQ.out ?_)
              repeat
               refine WQ_step (fun K hK => ?_); go_simp
               first
                | (refine hK _ ?_; clear hK K)
                | (apply Exists.intro
                   refine ⟨fun _ => ?_, hK _ ?_⟩
                   focus (first | (with_reducible refine calls_in (h29x _ (bel _ _)) (fun w' hb => ?_); first | exact hb.rest | exact rest1 hb | exact rest2 hb) | (with_reducible refine calls_in (h30x _ (bel _ _)) (fun w' hb => ?_); first | exact hb.rest | exact rest1 hb | exact rest2 hb))
                   clear hK K)
              refine WQ_nil ?_; intro w1 hw1; obtain ⟨p, hw1⟩ := hw1; subst hw1; go_wp2_with fail; obtain rfl : M = false := HE.out; exact bodyPost_ret (v := .bool false) (by simp [results, Tryz.results30, go_sem]) rfl ⟨rfl, bel _ _⟩
           · rcases xd with _ | _
             · rcases hsz with ⟨s1, hs⟩ | ⟨s1, hs⟩
               · have hszI : (256 : Int) < xs.size := by omega
                 have hszb : decide ((256 : Int) < xs.size) = true := decide_eq_true hszI; have HE := Lib.hid (HNO.out (by simp [c1b, hs])); clear HNO HST
                 as_aux_lemma =>
                  go_wp2_with fail; refine wp_region_quiet_rest (by kernel_rfl) (by kernel_rfl) (WQ.out ?_)
                  repeat
                   refine WQ_step (fun K hK => ?_); go_simp
                   first
                    | (refine hK _ ?_; clear hK K)
                    | (apply Exists.intro
                       refine ⟨fun _ => ?_, hK _ ?_⟩
                       focus (first | (with_reducible refine calls_in (h29x _ (bel _ _)) (fun w' hb => ?_); first | exact hb.rest | exact rest1 hb | exact rest2 hb) | (with_reducible refine calls_in (h30x _ (bel _ _)) (fun w' hb => ?_); first | exact hb.rest | exact rest1 hb | exact rest2 hb))
                       clear hK K)
                  refine WQ_nil ?_; intro w1 hw1; obtain ⟨p, hw1⟩ := hw1; subst hw1; go_wp2_with fail; obtain rfl : M = false := HE.out; exact bodyPost_ret (v := .bool false) (by simp [results, Tryz.results30, go_sem]) rfl ⟨rfl, bel _ _⟩
               · have hszI : ¬ (256 : Int) < xs.size := by omega
                 have hszb : decide ((256 : Int) < xs.size) = false := decide_eq_false hszI; rcases hea with ⟨rfl, hd⟩ | ⟨d1, hd⟩
                 · as_aux_lemma =>
                    go_wp2_with fail; refine wp_region_quiet_rest (by kernel_rfl) (by kernel_rfl) (WQ.out ?_)
                    repeat
                     refine WQ_step (fun K hK => ?_); go_simp
                     first
                      | (refine hK _ ?_; clear hK K)
                      | (apply Exists.intro
                         refine ⟨fun _ => ?_, hK _ ?_⟩
                         focus (first | (with_reducible refine calls_in (h29x _ (bel _ _)) (fun w' hb => ?_); first | exact hb.rest | exact rest1 hb | exact rest2 hb) | (with_reducible refine calls_in (h30x _ (bel _ _)) (fun w' hb => ?_); first | exact hb.rest | exact rest1 hb | exact rest2 hb))
                         clear hK K)
                    refine WQ_nil ?_; intro w1 hw1; obtain ⟨p, hw1⟩ := hw1; subst hw1; rcases en with _ | _
                    · have HE := Lib.hid (HNO.out (by simp [c1b, hs, hd])); go_wp2_with fail; obtain rfl : M = false := HE.out; exact bodyPost_ret (v := .bool false) (by simp [results, Tryz.results30, go_sem]) rfl ⟨rfl, bel _ _⟩
                    · rcases f with _ | _
                      · rcases io with _ | _
                        · have HE := Lib.hid (HNO.out (by simp [c1b, hs, hd])); go_wp2_with (first | (go_at_call 62; with_reducible refine (h31x _ (bel _ _)).mono ?_; rintro e w' ⟨rfl, hb⟩; obtain ⟨p31, rfl⟩ := hb.rest; clear hb) | (go_at_call 63; with_reducible refine (h32x _ (bel _ _)).mono ?_; rintro e w' ⟨rfl, hb⟩; obtain ⟨p32, rfl⟩ := hb.rest; clear hb))
                          obtain rfl : M = false := HE.out; exact bodyPost_ret (v := .bool false) (by simp [results, Tryz.results30, go_sem]) rfl ⟨rfl, bel _ _⟩
                        · have HE := Lib.hid (HST.out (by simp [c1b, hs, hd])); go_wp2_with (first | (go_at_call 62; with_reducible refine (h31x _ (bel _ _)).mono ?_; rintro e w' ⟨rfl, hb⟩; obtain ⟨p31, rfl⟩ := hb.rest; clear hb) | (go_at_call 63; with_reducible refine (h32x _ (bel _ _)).mono ?_; rintro e w' ⟨rfl, hb⟩; obtain ⟨p32, rfl⟩ := hb.rest; clear hb))
                          go_roundw
                          case rel => exact ⟨k + 1 + 1, by go_num, by omega, HE.out, bel _ _, (Keep.of_below (bel wr _) (fun _ => False)).blk HB.out.1 (fun h => h), HB.out.2.below (bel wr _) (Nat.le_refl _)⟩
                          case measure => simp [intOf]; omega
                      · have HE := Lib.hid (HST.out (by simp [c1b, hs, hd])); go_wp2_with (first | (go_at_call 62; with_reducible refine (h31x _ (bel _ _)).mono ?_; rintro e w' ⟨rfl, hb⟩; obtain ⟨p31, rfl⟩ := hb.rest; clear hb) | (go_at_call 63; with_reducible refine (h32x _ (bel _ _)).mono ?_; rintro e w' ⟨rfl, hb⟩; obtain ⟨p32, rfl⟩ := hb.rest; clear hb))
                        go_roundw
                        case rel => exact ⟨k + 1 + 1, by go_num, by omega, HE.out, bel _ _, (Keep.of_below (bel wr _) (fun _ => False)).blk HB.out.1 (fun h => h), HB.out.2.below (bel wr _) (Nat.le_refl _)⟩
                        case measure => simp [intOf]; omega
                 · have dI : (0 : Int) < xe.length := by omega
                   have dIb : decide ((0 : Int) < xe.length) = true := decide_eq_true dI; have HE := Lib.hid (HNO.out (by simp [c1b, hs, hd])); clear HNO HST
                   as_aux_lemma =>
                    go_wp2_with fail; refine wp_region_quiet_rest (by kernel_rfl) (by kernel_rfl) (WQ.out ?_)
                    repeat
                     refine WQ_step (fun K hK => ?_); go_simp
                     first
                      | (refine hK _ ?_; clear hK K)
                      | (apply Exists.intro
                         refine ⟨fun _ => ?_, hK _ ?_⟩
                         focus (first | (with_reducible refine calls_in (h29x _ (bel _ _)) (fun w' hb => ?_); first | exact hb.rest | exact rest1 hb | exact rest2 hb) | (with_reducible refine calls_in (h30x _ (bel _ _)) (fun w' hb => ?_); first | exact hb.rest | exact rest1 hb | exact rest2 hb))
                         clear hK K)
                    refine WQ_nil ?_; intro w1 hw1; obtain ⟨p, hw1⟩ := hw1; subst hw1; go_wp2_with fail; obtain rfl : M = false := HE.out; exact bodyPost_ret (v := .bool false) (by simp [results, Tryz.results30, go_sem]) rfl ⟨rfl, bel _ _⟩
             · rcases hsz with ⟨s1, hs⟩ | ⟨s1, hs⟩
               · have hszI : (256 : Int) < xs.size := by omega
                 have hszb : decide ((256 : Int) < xs.size) = true := decide_eq_true hszI; have HE := Lib.hid (HNO.out (by simp [c1b, hs])); clear HNO HST
                 as_aux_lemma =>
                  go_wp2_with fail; refine wp_region_quiet_rest (by kernel_rfl) (by kernel_rfl) (WQ.out ?_)
                  repeat
                   refine WQ_step (fun K hK => ?_); go_simp
                   first
                    | (refine hK _ ?_; clear hK K)
                    | (apply Exists.intro
                       refine ⟨fun _ => ?_, hK _ ?_⟩
                       focus (first | (with_reducible refine calls_in (h29x _ (bel _ _)) (fun w' hb => ?_); first | exact hb.rest | exact rest1 hb | exact rest2 hb) | (with_reducible refine calls_in (h30x _ (bel _ _)) (fun w' hb => ?_); first | exact hb.rest | exact rest1 hb | exact rest2 hb))
                       clear hK K)
                  refine WQ_nil ?_; intro w1 hw1; obtain ⟨p, hw1⟩ := hw1; subst hw1; go_wp2_with fail; obtain rfl : M = false := HE.out; exact bodyPost_ret (v := .bool false) (by simp [results, Tryz.results30, go_sem]) rfl ⟨rfl, bel _ _⟩
               · have hszI : ¬ (256 : Int) < xs.size := by omega
                 have hszb : decide ((256 : Int) < xs.size) = false := decide_eq_false hszI; rcases hda with ⟨rfl, hd⟩ | ⟨d1, hd⟩
                 · as_aux_lemma =>
                    go_wp2_with fail; refine wp_region_quiet_rest (by kernel_rfl) (by kernel_rfl) (WQ.out ?_)
                    repeat
                     refine WQ_step (fun K hK => ?_); go_simp
                     first
                      | (refine hK _ ?_; clear hK K)
                      | (apply Exists.intro
                         refine ⟨fun _ => ?_, hK _ ?_⟩
                         focus (first | (with_reducible refine calls_in (h29x _ (bel _ _)) (fun w' hb => ?_); first | exact hb.rest | exact rest1 hb | exact rest2 hb) | (with_reducible refine calls_in (h30x _ (bel _ _)) (fun w' hb => ?_); first | exact hb.rest | exact rest1 hb | exact rest2 hb))
                         clear hK K)
                    refine WQ_nil ?_; intro w1 hw1; obtain ⟨p, hw1⟩ := hw1; subst hw1; rcases en with _ | _
                    · have HE := Lib.hid (HNO.out (by simp [c1b, hs, hd])); go_wp2_with fail; obtain rfl : M = false := HE.out; exact bodyPost_ret (v := .bool false) (by simp [results, Tryz.results30, go_sem]) rfl ⟨rfl, bel _ _⟩
                    · rcases hln with ⟨rfl, l2⟩ | ⟨l1, l2⟩
                      · rcases f with _ | _
                        · have HE := Lib.hid (HNO.out (by simp [c1b, hs, hd, l2])); go_wp2_with (first | (go_at_call 62; with_reducible refine (h31x _ (bel _ _)).mono ?_; rintro e w' ⟨rfl, hb⟩; obtain ⟨p31, rfl⟩ := hb.rest; clear hb) | (go_at_call 63; with_reducible refine (h32x _ (bel _ _)).mono ?_; rintro e w' ⟨rfl, hb⟩; obtain ⟨p32, rfl⟩ := hb.rest; clear hb))
                          obtain rfl : M = false := HE.out; exact bodyPost_ret (v := .bool false) (by simp [results, Tryz.results30, go_sem]) rfl ⟨rfl, bel _ _⟩
                        · have HE := Lib.hid (HST.out (by simp [c1b, hs, hd, l2])); go_wp2_with (first | (go_at_call 62; with_reducible refine (h31x _ (bel _ _)).mono ?_; rintro e w' ⟨rfl, hb⟩; obtain ⟨p31, rfl⟩ := hb.rest; clear hb) | (go_at_call 63; with_reducible refine (h32x _ (bel _ _)).mono ?_; rintro e w' ⟨rfl, hb⟩; obtain ⟨p32, rfl⟩ := hb.rest; clear hb))
                          go_roundw
                          case rel => exact ⟨k + 1 + 1, by go_num, by omega, HE.out, bel _ _, (Keep.of_below (bel wr _) (fun _ => False)).blk HB.out.1 (fun h => h), HB.out.2.below (bel wr _) (Nat.le_refl _)⟩
                          case measure => simp [intOf]; omega
                      · have lb : (ln != 1) = true := by simpa using l1
                        have HE := Lib.hid (HNO.out (by simp [c1b, hs, hd, l2])); go_wp2_with (first | (go_at_call 62; with_reducible refine (h31x _ (bel _ _)).mono ?_; rintro e w' ⟨rfl, hb⟩; obtain ⟨p31, rfl⟩ := hb.rest; clear hb) | (go_at_call 63; with_reducible refine (h32x _ (bel _ _)).mono ?_; rintro e w' ⟨rfl, hb⟩; obtain ⟨p32, rfl⟩ := hb.rest; clear hb))
                        obtain rfl : M = false := HE.out; exact bodyPost_ret (v := .bool false) (by simp [results, Tryz.results30, go_sem]) rfl ⟨rfl, bel _ _⟩
                 · have dE : (xs.toList == []) = false := by simpa using d1
                   have HE := Lib.hid (HNO.out (by simp [c1b, hs, hd])); clear HNO HST
                   as_aux_lemma =>
                    go_wp2_with fail; refine wp_region_quiet_rest (by kernel_rfl) (by kernel_rfl) (WQ.out ?_)
                    repeat
                     refine WQ_step (fun K hK => ?_); go_simp
                     first
                      | (refine hK _ ?_; clear hK K)
                      | (apply Exists.intro
                         refine ⟨fun _ => ?_, hK _ ?_⟩
                         focus (first | (with_reducible refine calls_in (h29x _ (bel _ _)) (fun w' hb => ?_); first | exact hb.rest | exact rest1 hb | exact rest2 hb) | (with_reducible refine calls_in (h30x _ (bel _ _)) (fun w' hb => ?_); first | exact hb.rest | exact rest1 hb | exact rest2 hb))
                         clear hK K)
                    refine WQ_nil ?_; intro w1 hw1; obtain ⟨p, hw1⟩ := hw1; subst hw1; go_wp2_with fail; obtain rfl : M = false := HE.out; exact bodyPost_ret (v := .bool false) (by simp [results, Tryz.results30, go_sem]) rfl ⟨rfl, bel _ _⟩
         · have c1b : decide (numAt S k < xn) = false := decide_eq_false c1; have g1n : xn ≤ m := by omega
           have g1b : decide (xn ≤ m) = true := decide_eq_true g1n; clear hm c1; have HE := Lib.hid (HNO.out (by simp [c1b])); clear HNO HST
           as_aux_lemma =>
            go_wp2_with fail; refine wp_region_quiet_rest (by kernel_rfl) (by kernel_rfl) (WQ.out ?_)
            repeat
             refine WQ_step (fun K hK => ?_); go_simp
             first
              | (refine hK _ ?_; clear hK K)
              | (apply Exists.intro
                 refine ⟨fun _ => ?_, hK _ ?_⟩
                 focus (first | (with_reducible refine calls_in (h29x _ (bel _ _)) (fun w' hb => ?_); first | exact hb.rest | exact rest1 hb | exact rest2 hb) | (with_reducible refine calls_in (h30x _ (bel _ _)) (fun w' hb => ?_); first | exact hb.rest | exact rest1 hb | exact rest2 hb))
                 clear hK K)
            refine WQ_nil ?_; intro w1 hw1; obtain ⟨p, hw1⟩ := hw1; subst hw1; go_wp2_with fail; obtain rfl : M = false := HE.out; exact bodyPost_ret (v := .bool false) (by simp [results, Tryz.results30, go_sem]) rfl ⟨rfl, bel _ _⟩
     · have hltI : ¬ (q : Int) < S.ins.length := by omega
       have hy : M = true := by
        rw [← HMM.out]; refine mayR_yes ⟨by omega, by omega, by omega, by omega⟩ HX0.out.1 (by rw [HX0.out.2.1, HX0.out.2.2]; rfl) HOP.out HMADE.out (fun j x hx => HPRE.out j x (by obtain ⟨h, _⟩ := List.getElem?_eq_some_iff.1 hx; omega) hx)
       subst hy; go_wp2_with fail; exact bodyPost_ret (v := .bool true) (by simp [results, Tryz.results30, go_sem]) rfl ⟨rfl, bel _ _⟩
end Go.Proofs.YtmkapobnfigedaaGreatDoor
