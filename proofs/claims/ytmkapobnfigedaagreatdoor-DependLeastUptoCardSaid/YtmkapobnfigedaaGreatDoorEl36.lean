/- The reference's looks at a state: given, Links. Conditions: none. -/
import Derived.Test.YtmkapobnfigedaaGreatDoorEl35
set_option linter.unusedVariables false
set_option linter.unusedSimpArgs false
namespace Go.Proofs.YtmkapobnfigedaaGreatDoor
open Go.RowKit
def givenR (S : PSt) (n : Int) : Bool := if n < 2 then false else match S.made[((n - 2) % 8).toNat]? with | some m => decide ((n - 2) / 8 < m) | none => false
set_option maxRecDepth 100000 in
theorem given29 (S : PSt) (iv ov mv : Value) (n : Int) (hn : I64 n) (w : World) (h : StRead w iv ov mv S) (hwf : S.wf) :
 Calls Tryz.prog 60 #[.agg #[iv, ov, mv], .int .i64 n] w fun e w' => e = .returned (.bool (givenR S n)) ∧ Below w.heap.size w w' := by
 obtain ⟨ai, ni, ci, ao, no, co, am, nm, cm, rfl, rfl, rfl⟩ := h.slices
 obtain ⟨a, cap, e1, hat⟩ := h.2.1.at_
 rw [List.length_map] at e1
 cases e1
 have hml := hwf.2.2.1
 obtain ⟨R, hR⟩ : ∃ R, givenR S n = R := ⟨_, rfl⟩
 rw [hR]
 unfold givenR at hR
 clear h hwf
 by_cases h2 : n < 2
 · rw [if_pos h2] at hR; subst hR; clear hat
   go_enter Tryz.func60, Tryz.ntmps60
   go_wp2_with fail; exact bodyPost_ret (v := .bool false) (by simp [results, Tryz.results60, go_sem]) rfl ⟨rfl, bel _ _⟩
 · rw [if_neg h2] at hR; have hn2 := hn.2; have w1 : IntKind.i64.wrap (n - 2) = n - 2 := I64.wrap ⟨by omega, by omega⟩; have w2 : (n - 2).tmod 8 = (n - 2) % 8 := Int.tmod_eq_emod_of_nonneg (by omega); have w3 : (n - 2).tdiv 8 = (n - 2) / 8 := Int.tdiv_eq_ediv_of_nonneg (by omega); obtain ⟨k, hk⟩ : ∃ k : Nat, (n - 2) % 8 = k := ⟨((n - 2) % 8).toNat, by omega⟩
   obtain ⟨d, hd⟩ : ∃ d : Int, (n - 2) / 8 = d := ⟨_, rfl⟩
   have hd64 : IntKind.i64.wrap d = d := I64.wrap ⟨by omega, by omega⟩; have hk8 : k < 8 := by omega
   have hk64 : IntKind.i64.wrap (k : Int) = k := I64.wrap ⟨by omega, by omega⟩; rw [hk, hd, Int.toNat_natCast] at hR; rw [hk] at w2; rw [hd] at w3; clear hk hd; by_cases hlt : k < S.made.length
   · obtain ⟨m, hm⟩ : ∃ m, S.made[k]? = some m := ⟨_, List.getElem?_eq_getElem hlt⟩
     rw [hm] at hR; simp only at hR; obtain ⟨b, off, rfl, iG0, -, hc⟩ := hat w (bel _ _) k (intCells m) (by rw [List.getElem?_map, hm]; rfl); have c0 := hc 0 _ rfl; rw [Nat.mul_one, Nat.add_zero] at c0; subst hR; clear hc hat hm hn; have hltI : (k : Int) < S.made.length := by omega
     go_enter Tryz.func60, Tryz.ntmps60
     go_wp2_with fail; exact bodyPost_ret (v := .bool (decide (d < m))) (by simp [results, Tryz.results60, go_sem]) rfl ⟨rfl, bel _ _⟩
   · rw [List.getElem?_eq_none (by omega)] at hR; simp only at hR; subst hR; clear hat hn; have hltI : ¬ (k : Int) < S.made.length := by omega
     go_enter Tryz.func60, Tryz.ntmps60
     go_wp2_with fail; exact bodyPost_ret (v := .bool false) (by simp [results, Tryz.results60, go_sem]) rfl ⟨rfl, bel _ _⟩
def lkE (n : Int) : List PEnt → Int → Int
 | [], a => a
 | e :: r, a => lkE n r (if (e.num == n) = true then a + 1 else a)
def lkI (n : Int) : List PIn → Int → Int
 | [], a => a
 | x :: r, a => lkI n r (if x.dir = true then lkE n x.ents a else a)
def linksR (S : PSt) (n : Int) : Int := lkI n S.ins 0
set_option maxRecDepth 100000 in
set_option maxHeartbeats 1000000 in
theorem links31 (S : PSt) (iv ov mv : Value) (n : Int) (w : World) (h : StRead w iv ov mv S) (hwf : S.wf) :
 Calls Tryz.prog 62 #[.agg #[iv, ov, mv], .int .i64 n] w fun e w' => e = .returned (.int .i64 (linksR S n)) ∧ Below w.heap.size w w' := by
 obtain ⟨ai, ni, ci, ao, no, co, am, nm, cm, rfl, rfl, rfl⟩ := h.slices
 obtain ⟨a, cap, e1, hat⟩ := h.ins_at2
 cases e1
 have hlen := hwf.1
 have HWF := Lib.hid hwf
 have HAt := Lib.hid hat
 clear hat h hwf
 obtain ⟨R, hR⟩ : ∃ R, linksR S n = R := ⟨_, rfl⟩
 rw [hR]
 unfold linksR at hR
 have HR := Lib.hid hR
 clear hR
 go_enter Tryz.func62, Tryz.ntmps62
 go_wp2_with fail
 go_loopw [5, 6] (fun v i wr => ∃ (q : Nat) (m : Int), i = .int .i64 q ∧ v = .int .i64 m ∧ 0 ≤ m ∧ m ≤ 1000000000 * q ∧ q ≤ S.ins.length ∧ lkI n (S.ins.drop q) m = R ∧ Below w.heap.size w wr ∧ Blk wr w.heap.size #[.slice ai S.ins.length ci, .slice ao no co, .slice am nm cm] 26) (fun _ i _ => (S.ins.length - intOf i).toNat)
 case atStart => exact ⟨0, 0, rfl, rfl, by omega, by omega, by omega, HR.out, bel _ _, Blk.new w _ 26⟩
 case round =>
  obtain ⟨q, m, rfl, rfl, hm0, hm1, hq, hre, hb, hblk⟩ := hrel; have iB : Bel w wr := ⟨hb⟩
  have iL := hblk.lt; have s0 := hblk.cell 0; simp at s0; by_cases hlt : q < S.ins.length
  · obtain ⟨x, hx⟩ : ∃ x, S.ins[q]? = some x := ⟨_, List.getElem?_eq_getElem hlt⟩
    obtain ⟨b, off, ev, rfl, iG0, ho, her, hc⟩ := HAt.out q x hx; obtain ⟨ae, ce, rfl, hae⟩ := her.at_; rw [List.length_map] at hc; have hel := (HWF.out.2.2.2.1 x (List.mem_of_getElem? hx)).2.1; have HA := Lib.hid (And.intro hae hc); obtain ⟨iG, c0, c1, c2, c3⟩ := hc wr hb; have HB := Lib.hid hblk; rw [drop_at hx, lkI] at hre; clear her hae hc ho hblk c0 c3 c1 c2 hx; obtain ⟨xn, xd, xe, xs⟩ := x; simp only at hre HA hel; rcases xd with _ | _
    · rw [if_neg (by decide)] at hre; obtain ⟨_, _, c1, c2, _⟩ := HA.out.2 wr hb; have HRE := Lib.hid hre; clear hre; by_cases h0 : 0 < xe.length
      · have h0I : (0 : Int) < xe.length := by omega
        go_wp2_with fail
        go_loopw [5, 7] (fun v i wr' => v = .int .i64 m ∧ i = .int .i64 0 ∧ wr' = wr) (fun _ i _ => 0)
        case atStart => exact ⟨rfl, rfl, rfl⟩
        case round =>
         obtain ⟨rfl, rfl, rfl⟩ := hrel; go_wp2_with fail
         go_roundw
         case rel => exact ⟨q + 1, m, by rfl, rfl, hm0, by omega, by omega, HRE.out, bel _ _, HB.out⟩
         case measure => simp [intOf]; omega
      · have h0I : ¬ (0 : Int) < xe.length := by omega
        go_wp2_with fail
        go_loopw [5, 7] (fun v i wr' => v = .int .i64 m ∧ i = .int .i64 0 ∧ wr' = wr) (fun _ i _ => 0)
        case atStart => exact ⟨rfl, rfl, rfl⟩
        case round =>
         obtain ⟨rfl, rfl, rfl⟩ := hrel; go_wp2_with fail
         go_roundw
         case rel => exact ⟨q + 1, m, by rfl, rfl, hm0, by omega, by omega, HRE.out, bel _ _, HB.out⟩
         case measure => simp [intOf]; omega
    · rw [if_pos rfl] at hre; have HRE := Lib.hid hre; clear hre; go_wp2_with fail
      go_loopw [5, 7] (fun v i wr' => ∃ (j : Nat) (m' : Int), i = .int .i64 j ∧ v = .int .i64 m' ∧ 0 ≤ m' ∧ m' ≤ 1000000000 * q + j ∧ j ≤ xe.length ∧ lkI n (S.ins.drop (q + 1)) (lkE n (xe.drop j) m') = R ∧ Below w.heap.size w wr' ∧ Blk wr' w.heap.size #[.slice (some ⟨b, off, none⟩) S.ins.length ci, .slice ao no co, .slice am nm cm] 26) (fun _ i _ => (xe.length - intOf i).toNat)
      case atStart => exact ⟨0, m, rfl, rfl, by omega, by omega, by omega, HRE.out, bel _ _, HB.out⟩
      case round =>
       clear HRE HB iB iL s0 hb iG; obtain ⟨j, m', rfl, rfl, hm2, hm3, hj, hre, hb, hblk⟩ := hrel; have iB : Bel w wr := ⟨hb⟩
       have iL := hblk.lt; have s0 := hblk.cell 0; simp at s0; obtain ⟨iG, c0, c1, c2, c3⟩ := HA.out.2 wr hb; have HB := Lib.hid hblk; clear hblk c0 c3; by_cases hlj : j < xe.length
       · obtain ⟨z, hz⟩ : ∃ z, xe[j]? = some z := ⟨_, List.getElem?_eq_getElem hlj⟩
         obtain ⟨be, oe, rfl, iE0, iE, hce⟩ := HA.out.1 wr hb j z.cells (by rw [List.getElem?_map, hz]; rfl); have e1 := hce 1 _ rfl; rw [drop_at hz, lkE] at hre; clear hz hce; have hljI : (j : Int) < xe.length := by omega
         have w1 : IntKind.i64.wrap (m' + 1) = m' + 1 := I64.wrap ⟨by omega, by omega⟩; rcases hpz : (z.num == n) with _ | _
         · rw [hpz, if_neg (by decide)] at hre; have HZ := Lib.hid hre; clear hre; go_wp2_with fail
           go_roundw
           case rel => exact ⟨j + 1, m', by rfl, rfl, by omega, by omega, by omega, HZ.out, bel _ _, HB.out⟩
           case measure => simp [intOf]; omega
         · rw [hpz, if_pos (by decide)] at hre; have HZ := Lib.hid hre; clear hre; go_wp2_with fail
           go_roundw
           case rel => exact ⟨j + 1, m' + 1, by rfl, rfl, by omega, by omega, by omega, HZ.out, bel _ _, HB.out⟩
           case measure => simp [intOf]; omega
       · rw [show xe.drop j = [] from List.drop_of_length_le (by omega), lkE] at hre; have hljI : ¬ (j : Int) < xe.length := by omega
         have HZ := Lib.hid hre; clear hre; go_wp2_with fail
         go_roundw
         case rel => exact ⟨q + 1, m', by rfl, rfl, hm2, by omega, by omega, HZ.out, bel _ _, HB.out⟩
         case measure => simp [intOf]; omega
  · rw [List.drop_of_length_le (by omega), lkI] at hre; subst hre; go_wp2_with fail; exact bodyPost_ret (v := .int .i64 m) (by simp [results, Tryz.results62, go_sem]) rfl ⟨rfl, bel _ _⟩
end Go.Proofs.YtmkapobnfigedaaGreatDoor
