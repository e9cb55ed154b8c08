/- Part of the proof that the named pairs of calls commute. Conditions: none. -/
import Derived.Test.YtjkenolgkkknaaaGreatDoorPp20
import Derived.Test.YtjkenolgkkknaaaGreatDoorPp21
set_option linter.unusedVariables false
set_option linter.unusedSimpArgs false
set_option maxRecDepth 100000
set_option maxHeartbeats 8000000
namespace Go.Proofs.YtjkenolgkkknaaaGreatDoor
open Go.RowKit
theorem cutI_zero (b : Bool) : cutI b 0 = 0 := by cases b <;> rfl
theorem cutL_nil (b : Bool) : cutL b [] = [] := by cases b <;> rfl
theorem view_create {S S' : PSt} {c : PCall} {r : PRes} (hwf : S.wf) (hlk : linkedB S = true) (hk : c.kind = 0 ∨ c.kind = 1) (hp : (parseM c.path).1 = 0) (hnl : (parseM c.path).2.length ≤ 1000000000) (D : Did S c S' r) :
 HasView S c (r.code == 0) (vwalkF S (parseM c.path).2 (0, 0) 1 [] [1]).L (cutL (r.code == 0) [(vwalkF S (parseM c.path).2 (0, 0) 1 [] [1]).last]) (vwalkF S (parseM c.path).2 (0, 0) 1 [] [1]).M 0 0 := by
 intro ww p h
 have := of23 p S S' c r _ _ _ 0 0 0 ww h hwf D (by omega) (fun wx k fine hn hl => paths_create k p S c fine wx hn hl hwf hlk hk hp hnl)
 rw [cutI_zero] at this
 exact this
theorem view_stat {S S' : PSt} {c : PCall} {r : PRes} (hwf : S.wf) (hlk : linkedB S = true) (hpos : 0 < S.ins.length) (hk : c.kind = 13) (hp : (parseM c.path).1 = 0) (hnl : (parseM c.path).2.length ≤ 1000000000) (D : Did S c S' r) :
 HasView S c (r.code == 0) (vwalkF S (parseM c.path).2 (0, 0) 1 [] [1]).L [] (vwalkF S (parseM c.path).2 (0, 0) 1 [] [1]).M (statBy S (vwalkF S (parseM c.path).2 (0, 0) 1 [] [1]).num) 0 := by
 intro ww p h
 have := of23 p S S' c r _ _ _ _ 0 0 ww h hwf D (by omega) (fun wx k fine hn hl => paths_stat k p S c fine wx hn hl hwf hlk hpos hk hp hnl)
 rw [cutI_zero, cutL_nil] at this
 exact this
def cA : PCall := ⟨0, 0, 0, 0, 0, ⟨#[47, 97]⟩, ⟨#[]⟩, ⟨#[]⟩⟩
def cB : PCall := ⟨0, 1, 0, 0, 0, ⟨#[47, 98]⟩, ⟨#[]⟩, ⟨#[]⟩⟩
def cC : PCall := ⟨0, 1, 0, 0, 0, ⟨#[47, 97]⟩, ⟨#[]⟩, ⟨#[]⟩⟩
def crt (S : PSt) (c : PCall) : PSt × PRes := doM S c (createM S c PRes.zero)
def s2 : PSt := newSt 2
theorem did_crt {S : PSt} {c : PCall} (hg : goodB S = true) (hk : c.kind = 0 ∨ c.kind = 1) (hp : (parseM c.path).1 = 0) (hpl : (parseM c.path).2.length ≤ 1000000000) : Did S c (crt S c).1 (crt S c).2 :=
 did_create (good_wf hg).1 (good_wf hg).2.1 hk hp hpl rfl
theorem g0 : goodB s2 = true := by kernel_rfl
theorem gA : goodB (crt s2 cA).1 = true := by kernel_rfl
theorem gB : goodB (crt s2 cB).1 = true := by kernel_rfl
theorem gAB : goodB (crt (crt s2 cA).1 cB).1 = true := by kernel_rfl
theorem mAB : mayM (crt (crt s2 cA).1 cB).1 = true := by kernel_rfl
theorem eAB : (crt (crt s2 cB).1 cA).1 = (crt (crt s2 cA).1 cB).1 := by kernel_rfl
theorem wAB : wlkOk (crt (crt s2 cA).1 cB).1 3 1 = true := by kernel_rfl
theorem lAB : (shapeT (crt (crt s2 cA).1 cB).1 3).length ≤ 1000000000000 := by
 have h : (shapeT (crt (crt s2 cA).1 cB).1 3).length.ble 1000 = true := by kernel_rfl
 have := Nat.le_of_ble_eq_true h
 omega
theorem lenB {α : Type} {l : List α} (h : l.length.ble 1000 = true) : l.length ≤ 1000000000 := by
 have := Nat.le_of_ble_eq_true h
 omega
theorem gC : goodB (crt s2 cC).1 = true := by kernel_rfl
theorem k0 : linkedB s2 = true := by kernel_rfl
theorem pA : (parseM cA.path).1 = 0 := by kernel_rfl
theorem pB : (parseM cB.path).1 = 0 := by kernel_rfl
theorem pC : (parseM cC.path).1 = 0 := by kernel_rfl
theorem nA : (parseM cA.path).2.length ≤ 1000000000 := lenB (by kernel_rfl)
theorem nB : (parseM cB.path).2.length ≤ 1000000000 := lenB (by kernel_rfl)
theorem nC : (parseM cC.path).2.length ≤ 1000000000 := lenB (by kernel_rfl)
theorem cm_AB (iv ov mv : Value) (w : World) (h : StRead w iv ov mv s2) (hp : Laid w.heap.size Pow10 w) : Calls Tryz.prog 9 #[.agg #[iv, ov, mv], cA.val, cB.val] w fun e w' => e = .returned (.bool true) ∧ Below w.heap.size w w' := by
 have := commute_one iv ov mv 3 w h g0 (x := cA) (y := cB) (by kernel_rfl) (did_crt g0 (.inl rfl) pA nA) (did_crt gA (.inl rfl) pB nB) (did_crt g0 (.inl rfl) pB nB) (by have := did_crt gB (c := cA) (.inl rfl) pA nA; rw [eAB] at this; exact this) (lenB (by kernel_rfl)) (lenB (by kernel_rfl)) gAB mAB wAB lAB hp
 rw [show (sameM (crt s2 cA).2 (crt (crt s2 cB).1 cA).2 && sameM (crt (crt s2 cA).1 cB).2 (crt s2 cB).2) = true by kernel_rfl] at this
 exact this
theorem ap_AB (iv ov mv : Value) (w : World) (h : StRead w iv ov mv s2) : Calls Tryz.prog 10 #[.agg #[iv, ov, mv], cA.val, cB.val] w fun e w' => e = .returned (.bool true) ∧ Below w.heap.size w w' := by
 have := apart_yes iv ov mv s2 cA cB _ _ _ _ _ _ _ _ 0 0 0 0 w h (good_wf g0).1 (by kernel_rfl) (by decide) (by decide) (view_create (good_wf g0).1 k0 (.inl rfl) pA nA (did_crt g0 (.inl rfl) pA nA)) (view_create (good_wf g0).1 k0 (.inl rfl) pB nB (did_crt g0 (.inl rfl) pB nB)) (.inl rfl) (.inl rfl) (.inl rfl) (lenB (by kernel_rfl)) (lenB (by kernel_rfl)) (lenB (by kernel_rfl)) (lenB (by kernel_rfl))
 refine this.mono ?_
 rintro e w' ⟨rfl, hb⟩
 exact ⟨congrArg (fun b => Ending.returned (Value.bool b)) (by kernel_rfl), hb⟩
theorem cm_AC (iv ov mv : Value) (w : World) (h : StRead w iv ov mv s2) : Calls Tryz.prog 9 #[.agg #[iv, ov, mv], cA.val, cC.val] w fun e w' => e = .returned (.bool false) ∧ Below w.heap.size w w' :=
 commute_diff iv ov mv w h g0 (x := cA) (y := cC) (by kernel_rfl) (did_crt g0 (.inl rfl) pA nA) (did_crt gA (.inl rfl) pC nC) (did_crt g0 (.inl rfl) pC nC) (did_crt gC (.inl rfl) pA nA) (lenB (by kernel_rfl)) (lenB (by kernel_rfl)) (by kernel_rfl)
theorem ap_AC (iv ov mv : Value) (w : World) (h : StRead w iv ov mv s2) : Calls Tryz.prog 10 #[.agg #[iv, ov, mv], cA.val, cC.val] w fun e w' => e = .returned (.bool false) ∧ Below w.heap.size w w' := by
 have := apart_yes iv ov mv s2 cA cC _ _ _ _ _ _ _ _ 0 0 0 0 w h (good_wf g0).1 (by kernel_rfl) (by decide) (by decide) (view_create (good_wf g0).1 k0 (.inl rfl) pA nA (did_crt g0 (.inl rfl) pA nA)) (view_create (good_wf g0).1 k0 (.inl rfl) pC nC (did_crt g0 (.inl rfl) pC nC)) (.inl rfl) (.inl rfl) (.inl rfl) (lenB (by kernel_rfl)) (lenB (by kernel_rfl)) (lenB (by kernel_rfl)) (lenB (by kernel_rfl))
 refine this.mono ?_
 rintro e w' ⟨rfl, hb⟩
 exact ⟨congrArg (fun b => Ending.returned (Value.bool b)) (by kernel_rfl), hb⟩
theorem cm_AA (iv ov mv : Value) (w : World) (h : StRead w iv ov mv s2) : Calls Tryz.prog 9 #[.agg #[iv, ov, mv], cA.val, cA.val] w fun e w' => e = .returned (.bool false) ∧ Below w.heap.size w w' :=
 commute_not iv ov mv s2 cA cA w h (good_wf g0).1 (by kernel_rfl)
theorem StRead.slices {w : World} {iv ov mv : Value} {S : PSt} (h : StRead w iv ov mv S) : ∃ ai ni ci ao no co am nm cm, iv = .slice ai ni ci ∧ ov = .slice ao no co ∧ mv = .slice am nm cm := by
 obtain ⟨a1, c1, e1, _⟩ := h.1.at_
 obtain ⟨a2, c2, e2, _⟩ := h.2.1.at_
 obtain ⟨_, _, is, h3, _⟩ := h
 obtain ⟨a3, c3, e3, _⟩ := h3.at_
 exact ⟨_, _, _, _, _, _, _, _, _, e3, e1, e2⟩
theorem awake7 (w : World) (hp : Laid w.heap.size Pow10 w) : Calls Tryz.prog 7 #[] w fun e w' => e = .returned (.bool true) ∧ Below w.heap.size w w' := by
 have hnew : ∀ ww, Below w.heap.size w ww → Calls Tryz.prog 11 #[.int .i64 2] ww _ := fun ww hb => new11 2 (by omega) (by omega) ww
 go_enter Tryz.func7, Tryz.ntmps7
 go_upto_region 2 with (go_at_call 11; refine (hnew _ (bel w _)).mono ?_; rintro e w1 ⟨iv, ov, mv, rfl, hb1, hst⟩; obtain ⟨ai, ni, ci, ao, no, co, am, nm, cm, rfl, rfl, rfl⟩ := hst.slices; have HST := Lib.hid (And.intro hst (And.intro hb1 (hp.below hb1))); clear hst hb1)
 have h1 : ∀ ww, Below w1.heap.size w1 ww → Calls Tryz.prog 9 #[.agg #[.slice ai ni ci, .slice ao no co, .slice am nm cm], .agg #[.int .i64 0, .int .i64 0, .int .i64 0, .int .i64 0, .int .i64 0, .string { data := #[47, 97] }, .string { data := #[] }, .string { data := #[] }], .agg #[.int .i64 0, .int .i64 1, .int .i64 0, .int .i64 0, .int .i64 0, .string { data := #[47, 98] }, .string { data := #[] }, .string { data := #[] }]] ww fun e w' => e = .returned (.bool true) ∧ Below ww.heap.size ww w' := fun ww hb => cm_AB _ _ _ ww (HST.out.1.below hb (Nat.le_refl _)) ((HST.out.2.2.below (hb.mono HST.out.2.1.size)).up (Nat.le_trans HST.out.2.1.size hb.size))
 have h2 : ∀ ww, Below w1.heap.size w1 ww → Calls Tryz.prog 10 #[.agg #[.slice ai ni ci, .slice ao no co, .slice am nm cm], .agg #[.int .i64 0, .int .i64 0, .int .i64 0, .int .i64 0, .int .i64 0, .string { data := #[47, 97] }, .string { data := #[] }, .string { data := #[] }], .agg #[.int .i64 0, .int .i64 1, .int .i64 0, .int .i64 0, .int .i64 0, .string { data := #[47, 98] }, .string { data := #[] }, .string { data := #[] }]] ww fun e w' => e = .returned (.bool true) ∧ Below ww.heap.size ww w' := fun ww hb => ap_AB _ _ _ ww (HST.out.1.below hb (Nat.le_refl _))
 have h3 : ∀ ww, Below w1.heap.size w1 ww → Calls Tryz.prog 9 #[.agg #[.slice ai ni ci, .slice ao no co, .slice am nm cm], .agg #[.int .i64 0, .int .i64 0, .int .i64 0, .int .i64 0, .int .i64 0, .string { data := #[47, 97] }, .string { data := #[] }, .string { data := #[] }], .agg #[.int .i64 0, .int .i64 1, .int .i64 0, .int .i64 0, .int .i64 0, .string { data := #[47, 97] }, .string { data := #[] }, .string { data := #[] }]] ww fun e w' => e = .returned (.bool false) ∧ Below ww.heap.size ww w' := fun ww hb => cm_AC _ _ _ ww (HST.out.1.below hb (Nat.le_refl _))
 have h4 : ∀ ww, Below w1.heap.size w1 ww → Calls Tryz.prog 10 #[.agg #[.slice ai ni ci, .slice ao no co, .slice am nm cm], .agg #[.int .i64 0, .int .i64 0, .int .i64 0, .int .i64 0, .int .i64 0, .string { data := #[47, 97] }, .string { data := #[] }, .string { data := #[] }], .agg #[.int .i64 0, .int .i64 1, .int .i64 0, .int .i64 0, .int .i64 0, .string { data := #[47, 97] }, .string { data := #[] }, .string { data := #[] }]] ww fun e w' => e = .returned (.bool false) ∧ Below ww.heap.size ww w' := fun ww hb => ap_AC _ _ _ ww (HST.out.1.below hb (Nat.le_refl _))
 have h5 : ∀ ww, Below w1.heap.size w1 ww → Calls Tryz.prog 9 #[.agg #[.slice ai ni ci, .slice ao no co, .slice am nm cm], .agg #[.int .i64 0, .int .i64 0, .int .i64 0, .int .i64 0, .int .i64 0, .string { data := #[47, 97] }, .string { data := #[] }, .string { data := #[] }], .agg #[.int .i64 0, .int .i64 0, .int .i64 0, .int .i64 0, .int .i64 0, .string { data := #[47, 97] }, .string { data := #[] }, .string { data := #[] }]] ww fun e w' => e = .returned (.bool false) ∧ Below ww.heap.size ww w' := fun ww hb => cm_AA _ _ _ ww (HST.out.1.below hb (Nat.le_refl _))
 go_wp2_with (first | (go_at_call 9; with_reducible refine aT (h1 _ (bel w1 _)) fun p => ?_) | (go_at_call 10; with_reducible refine aT (h2 _ (bel w1 _)) fun p => ?_) | (go_at_call 9; with_reducible refine aT (h3 _ (bel w1 _)) fun p => ?_) | (go_at_call 10; with_reducible refine aT (h4 _ (bel w1 _)) fun p => ?_) | (go_at_call 9; with_reducible refine aT (h5 _ (bel w1 _)) fun p => ?_) | (go_at_call 12; refine aT (num12 0 _) fun p => ?_))
 go_ret
 exact ⟨rfl, HST.out.2.1.trans ((bel w1 _).mono HST.out.2.1.size)⟩
def atR (S : PSt) (n : Int) : Int := idxM (isNum n) S.ins
theorem atR_bounds (S : PSt) (n : Int) : atR S n = -1 ∨ (0 ≤ atR S n ∧ atR S n < S.ins.length) := idxM_bounds _ _
theorem at51 (S : PSt) (iv ov mv : Value) (n : Int) (w : World) (h : StRead w iv ov mv S) (hlen : S.ins.length ≤ 1000000000) :
 Calls Tryz.prog 51 #[.agg #[iv, ov, mv], .int .i64 n] w fun e w' => e = .returned (.int .i64 (atR S n)) ∧ Below w.heap.size w w' := by
 obtain ⟨ai, ni, ci, ao, no, co, am, nm, cm, rfl, rfl, rfl⟩ := h.slices
 obtain ⟨a, cap, e1, hat⟩ := h.ins_at
 cases e1
 have HA := Lib.hid hat
 clear hat h
 obtain ⟨R, hR⟩ : ∃ R, atR S n = R := ⟨_, rfl⟩
 rw [hR]
 unfold atR idxM at hR
 have HR := Lib.hid hR
 clear hR
 go_enter Tryz.func51, Tryz.ntmps51
 go_wp2_with fail
 go_loopw [5] (fun i wr => ∃ (q : Nat), i = .int .i64 q ∧ q ≤ S.ins.length ∧ idxFrom (isNum n) (S.ins.drop q) q = R ∧ Below w.heap.size w wr ∧ Blk wr w.heap.size #[.slice ai S.ins.length ci, .slice ao no co, .slice am nm cm] 27) (fun i _ => (S.ins.length - intOf i).toNat)
 case atStart => exact ⟨0, rfl, by omega, HR.out, bel _ _, Blk.new w _ 27⟩
 case round =>
  obtain ⟨q, rfl, hq, hre, hb, hblk⟩ := hrel; have iB : Bel w wr := ⟨hb⟩
  have iL := hblk.lt; have s0 := hblk.cell 0; simp at s0; have HB := Lib.hid hblk; clear hblk; by_cases hlt : q < S.ins.length
  · obtain ⟨z, hz⟩ : ∃ z, S.ins[q]? = some z := ⟨_, gE hlt⟩
    obtain ⟨b, off, ev, rfl, iG0, iG, -, -, c0, -, -, -⟩ := HA.out wr hb q z hz; rw [idxFrom_drop _ S.ins q z hz] at hre; have HZ := Lib.hid hre; clear hz hre; rcases hpz : (z.num == n) with _ | _
    · go_wp2_with fail
      go_roundw
      case rel => exact ⟨q + 1, by go_num, by omega, by have := HZ.out; simpa [isNum, hpz] using this, bel _ _, by first | exact HB.out | exact HB.out.alloc _ | exact HB.out.junk _⟩
      case measure => simp [intOf]; omega
    · have hv : R = q := by have := HZ.out; simpa [isNum, hpz] using this.symm
      subst hv; go_wp2_with fail; exact bodyPost_ret (v := .int .i64 q) (by simp [results, Tryz.results51, go_sem]) rfl ⟨rfl, bel _ _⟩
  · rw [idxFrom_end _ S.ins q hlt] at hre; subst hre; go_wp2_with fail; exact bodyPost_ret (v := .int .i64 (-1)) (by simp [results, Tryz.results51, go_sem]) rfl ⟨rfl, bel _ _⟩
def fdL (c f : Int) : List PDesc → Int
 | [] => 0
 | d :: r => if (d.core == c && d.fd == f) = true then d.num else fdL c f r
def fdR (S : PSt) (c f : Int) : Int := fdL c f S.op
theorem fd99 (S : PSt) (iv ov mv : Value) (c f : Int) (w : World) (h : StRead w iv ov mv S) (hlen : S.op.length ≤ 1000000000) :
 Calls Tryz.prog 99 #[.agg #[iv, ov, mv], .int .i64 c, .int .i64 f] w fun e w' => e = .returned (.int .i64 (fdR S c f)) ∧ Below w.heap.size w w' := by
 obtain ⟨ai, ni, ci, ao, no, co, am, nm, cm, rfl, rfl, rfl⟩ := h.slices
 obtain ⟨a, cap, e1, hat⟩ := h.1.at_
 rw [lM] at e1
 cases e1
 have HA := Lib.hid hat
 clear hat h
 obtain ⟨R, hR⟩ : ∃ R, fdR S c f = R := ⟨_, rfl⟩
 rw [hR]
 unfold fdR at hR
 have HR := Lib.hid hR
 clear hR
 go_enter Tryz.func99, Tryz.ntmps99
 go_wp2_with fail
 go_loopw [7] (fun i wr => ∃ (q : Nat), i = .int .i64 q ∧ q ≤ S.op.length ∧ fdL c f (S.op.drop q) = R ∧ Below w.heap.size w wr ∧ Blk wr w.heap.size #[.slice ai ni ci, .slice ao S.op.length co, .slice am nm cm] 27) (fun i _ => (S.op.length - intOf i).toNat)
 case atStart => exact ⟨0, rfl, by omega, HR.out, bel _ _, Blk.new w _ 27⟩
 case round =>
  obtain ⟨q, rfl, hq, hre, hb, hblk⟩ := hrel; have iB : Bel w wr := ⟨hb⟩
  have iL := hblk.lt; have s1 := hblk.cell 1; simp at s1; have HB := Lib.hid hblk; clear hblk; by_cases hlt : q < S.op.length
  · obtain ⟨z, hz⟩ : ∃ z, S.op[q]? = some z := ⟨_, gE hlt⟩
    obtain ⟨b, off, rfl, iG0, iG, hc⟩ := HA.out wr hb q z.cells (by rw [gM, hz]; rfl); have c0 := hc 0 _ rfl; have c1 := hc 1 _ rfl; have c2 := hc 2 _ rfl; rw [Nat.add_zero] at c0; rw [drop_at hz, fdL] at hre; clear hz hc; rcases hpz : (z.core == c) with _ | _
    · rw [hpz, Bool.false_and, if_neg (by decide)] at hre; have HZ := Lib.hid hre; clear hre; go_wp2_with fail
      go_roundw
      case rel => exact ⟨q + 1, by go_num, by omega, HZ.out, bel _ _, HB.out⟩
      case measure => simp [intOf]; omega
    · rcases hpf : (z.fd == f) with _ | _
      · rw [hpf, Bool.and_false, if_neg (by decide)] at hre; have HZ := Lib.hid hre; clear hre; go_wp2_with fail
        go_roundw
        case rel => exact ⟨q + 1, by go_num, by omega, HZ.out, bel _ _, HB.out⟩
        case measure => simp [intOf]; omega
      · rw [hpz, hpf, if_pos (by decide)] at hre; subst hre; go_wp2_with fail; exact bodyPost_ret (v := .int .i64 z.num) (by simp [results, Tryz.results99, go_sem]) rfl ⟨rfl, bel _ _⟩
  · rw [List.drop_of_length_le (by omega)] at hre; obtain rfl : R = 0 := by rw [← hre]; rfl
    go_wp2_with fail; exact bodyPost_ret (v := .int .i64 0) (by simp [results, Tryz.results99, go_sem]) rfl ⟨rfl, bel _ _⟩
def entL (name : ByteArray) : List PEnt → Int
 | [] => 0
 | e :: r => if (e.name.toList == name.toList) = true then e.num else entL name r
def entryR (S : PSt) (dir : Int) (name : ByteArray) : Int := if atR S dir < 0 then 0 else match S.ins[(atR S dir).toNat]? with | some x => entL name x.ents | none => 0
theorem entry95 (S : PSt) (iv ov mv : Value) (dir : Int) (name : ByteArray) (w : World) (h : StRead w iv ov mv S) (hwf : S.wf) :
 Calls Tryz.prog 95 #[.agg #[iv, ov, mv], .int .i64 dir, .string name] w fun e w' => e = .returned (.int .i64 (entryR S dir name)) ∧ Below w.heap.size w w' := by
 have hA : ∀ ww, Below w.heap.size w ww → Calls Tryz.prog 51 #[.agg #[iv, ov, mv], .int .i64 dir] ww fun e w' => e = .returned (.int .i64 (atR S dir)) ∧ Below ww.heap.size ww w' := fun ww hb => at51 S iv ov mv dir ww (h.below hb (Nat.le_refl _)) hwf.1
 obtain ⟨ai, ni, ci, ao, no, co, am, nm, cm, rfl, rfl, rfl⟩ := h.slices
 obtain ⟨a, cap, e1, hat⟩ := h.ins_at2
 cases e1
 have hbd := atR_bounds S dir
 obtain ⟨R, hR⟩ : ∃ R, entryR S dir name = R := ⟨_, rfl⟩
 rw [hR]
 unfold entryR at hR
 generalize atR S dir = K at hA hbd hR
 by_cases hK : K < 0
 · rw [if_pos hK] at hR; subst hR; clear hat h hbd hwf
   go_enter Tryz.func95, Tryz.ntmps95
   go_wp2_with ((go_at_call 51; refine aT (hA _ (bel _ _)) fun p => ?_))
   exact bodyPost_ret (v := .int .i64 0) (by simp [results, Tryz.results95, go_sem]) rfl ⟨rfl, bel _ _⟩
 · rw [if_neg hK] at hR; obtain ⟨k, rfl⟩ : ∃ k : Nat, K = k := ⟨K.toNat, by omega⟩
   have hk : k < S.ins.length := by omega
   obtain ⟨x, hx⟩ : ∃ x, S.ins[k]? = some x := ⟨_, gE hk⟩
   rw [Int.toNat_natCast, hx] at hR; simp only at hR; obtain ⟨b, off, ev, rfl, iG0, ho, her, hc⟩ := hat k x hx; obtain ⟨ae, ce, rfl, hae⟩ := her.at_; rw [lM] at hc; have hel := (hwf.2.2.2.1 x (mG hx)).2.1; have HA := Lib.hid (And.intro hae hc); have HR := Lib.hid hR; clear hat h hbd hwf her hae hc ho hR hx
   go_enter Tryz.func95, Tryz.ntmps95
   go_wp2_with ((go_at_call 51; refine aT (hA _ (bel _ _)) fun p => ?_))
   go_loopw [8] (fun i wr => ∃ (q : Nat), i = .int .i64 q ∧ q ≤ x.ents.length ∧ entL name (x.ents.drop q) = R ∧ Below w.heap.size w wr ∧ Blk wr w.heap.size #[.slice (some ⟨b, off, none⟩) S.ins.length ci, .slice ao no co, .slice am nm cm] 27) (fun i _ => (x.ents.length - intOf i).toNat)
   case atStart => exact ⟨0, rfl, by omega, HR.out, bel _ _, (Blk.new w _ 27).junk _⟩
   case round =>
    obtain ⟨q, rfl, hq, hre, hb, hblk⟩ := hrel; have iB : Bel w wr := ⟨hb⟩
    have iL := hblk.lt; have s0 := hblk.cell 0; simp at s0; obtain ⟨iG, c0, c1, c2, c3⟩ := HA.out.2 wr hb; clear c0 c1 c3; have HB := Lib.hid hblk; clear hblk; by_cases hlt : q < x.ents.length
    · obtain ⟨z, hz⟩ : ∃ z, x.ents[q]? = some z := ⟨_, gE hlt⟩
      obtain ⟨be, oe, rfl, iE0, iE, hce⟩ := HA.out.1 wr hb q z.cells (by rw [gM, hz]; rfl); have e0 := hce 0 _ rfl; have e1 := hce 1 _ rfl; rw [Nat.add_zero] at e0; rw [drop_at hz, entL] at hre; clear hz hce; rcases hpz : (z.name.toList == name.toList) with _ | _
      · rw [hpz, if_neg (by decide)] at hre; have HZ := Lib.hid hre; clear hre; go_wp2_with fail
        go_roundw
        case rel => exact ⟨q + 1, by go_num, by omega, HZ.out, bel _ _, HB.out⟩
        case measure => simp [intOf]; omega
      · rw [hpz, if_pos (by decide)] at hre; subst hre; go_wp2_with fail; exact bodyPost_ret (v := .int .i64 z.num) (by simp [results, Tryz.results95, go_sem]) rfl ⟨rfl, bel _ _⟩
    · rw [List.drop_of_length_le (by omega)] at hre; obtain rfl : R = 0 := by rw [← hre]; rfl
      go_wp2_with fail; exact bodyPost_ret (v := .int .i64 0) (by simp [results, Tryz.results95, go_sem]) rfl ⟨rfl, bel _ _⟩
def givenR (S : PSt) (n : Int) : Bool := if n < 2 then false else match S.made[((n - 2) % 8).toNat]? with | some m => decide ((n - 2) / 8 < m) | none => false
theorem given29 (S : PSt) (iv ov mv : Value) (n : Int) (hn : I64 n) (w : World) (h : StRead w iv ov mv S) (hwf : S.wf) :
 Calls Tryz.prog 29 #[.agg #[iv, ov, mv], .int .i64 n] w fun e w' => e = .returned (.bool (givenR S n)) ∧ Below w.heap.size w w' := by
 obtain ⟨ai, ni, ci, ao, no, co, am, nm, cm, rfl, rfl, rfl⟩ := h.slices
 obtain ⟨a, cap, e1, hat⟩ := h.2.1.at_
 rw [lM] at e1
 cases e1
 have hml := hwf.2.2.1
 obtain ⟨R, hR⟩ : ∃ R, givenR S n = R := ⟨_, rfl⟩
 rw [hR]
 unfold givenR at hR
 clear h hwf
 by_cases h2 : n < 2
 · rw [if_pos h2] at hR; subst hR; clear hat
   go_enter Tryz.func29, Tryz.ntmps29
   go_wp2_with fail; exact bodyPost_ret (v := .bool false) (by simp [results, Tryz.results29, go_sem]) rfl ⟨rfl, bel _ _⟩
 · rw [if_neg h2] at hR; have hn2 := hn.2; have w1 : IntKind.i64.wrap (n - 2) = n - 2 := I64.wrap ⟨by omega, by omega⟩; have w2 : (n - 2).tmod 8 = (n - 2) % 8 := Int.tmod_eq_emod_of_nonneg (by omega); have w3 : (n - 2).tdiv 8 = (n - 2) / 8 := Int.tdiv_eq_ediv_of_nonneg (by omega); obtain ⟨k, hk⟩ : ∃ k : Nat, (n - 2) % 8 = k := ⟨((n - 2) % 8).toNat, by omega⟩
   obtain ⟨d, hd⟩ : ∃ d : Int, (n - 2) / 8 = d := ⟨_, rfl⟩
   have hd64 : IntKind.i64.wrap d = d := I64.wrap ⟨by omega, by omega⟩; have hk8 : k < 8 := by omega
   have hk64 : IntKind.i64.wrap (k : Int) = k := I64.wrap ⟨by omega, by omega⟩; rw [hk, hd, Int.toNat_natCast] at hR; rw [hk] at w2; rw [hd] at w3; clear hk hd; by_cases hlt : k < S.made.length
   · obtain ⟨m, hm⟩ : ∃ m, S.made[k]? = some m := ⟨_, gE hlt⟩
     rw [hm] at hR; simp only at hR; obtain ⟨b, off, rfl, iG0, -, hc⟩ := hat w (bel _ _) k (intCells m) (by rw [gM, hm]; rfl); have c0 := hc 0 _ rfl; rw [Nat.mul_one, Nat.add_zero] at c0; subst hR; clear hc hat hm hn; have hltI : (k : Int) < S.made.length := by omega
     go_enter Tryz.func29, Tryz.ntmps29
     go_wp2_with fail; exact bodyPost_ret (v := .bool (decide (d < m))) (by simp [results, Tryz.results29, go_sem]) rfl ⟨rfl, bel _ _⟩
   · rw [List.getElem?_eq_none (by omega)] at hR; simp only at hR; subst hR; clear hat hn; have hltI : ¬ (k : Int) < S.made.length := by omega
     go_enter Tryz.func29, Tryz.ntmps29
     go_wp2_with fail; exact bodyPost_ret (v := .bool false) (by simp [results, Tryz.results29, go_sem]) rfl ⟨rfl, bel _ _⟩
def lkE (n : Int) : List PEnt → Int → Int
 | [], a => a
 | e :: r, a => lkE n r (if (e.num == n) = true then a + 1 else a)
def lkI (n : Int) : List PIn → Int → Int
 | [], a => a
 | x :: r, a => lkI n r (if x.dir = true then lkE n x.ents a else a)
def linksR (S : PSt) (n : Int) : Int := lkI n S.ins 0
theorem links31 (S : PSt) (iv ov mv : Value) (n : Int) (w : World) (h : StRead w iv ov mv S) (hwf : S.wf) :
 Calls Tryz.prog 31 #[.agg #[iv, ov, mv], .int .i64 n] w fun e w' => e = .returned (.int .i64 (linksR S n)) ∧ Below w.heap.size w w' := by
 obtain ⟨ai, ni, ci, ao, no, co, am, nm, cm, rfl, rfl, rfl⟩ := h.slices
 obtain ⟨a, cap, e1, hat⟩ := h.ins_at2
 cases e1
 have hlen := hwf.1
 have HWF := Lib.hid hwf
 have HAt := Lib.hid hat
 clear hat h hwf
 obtain ⟨R, hR⟩ : ∃ R, linksR S n = R := ⟨_, rfl⟩
 rw [hR]
 unfold linksR at hR
 have HR := Lib.hid hR
 clear hR
 go_enter Tryz.func31, Tryz.ntmps31
 go_wp2_with fail
 go_loopw [5, 6] (fun v i wr => ∃ (q : Nat) (m : Int), i = .int .i64 q ∧ v = .int .i64 m ∧ 0 ≤ m ∧ m ≤ 1000000000 * q ∧ q ≤ S.ins.length ∧ lkI n (S.ins.drop q) m = R ∧ Below w.heap.size w wr ∧ Blk wr w.heap.size #[.slice ai S.ins.length ci, .slice ao no co, .slice am nm cm] 27) (fun _ i _ => (S.ins.length - intOf i).toNat)
 case atStart => exact ⟨0, 0, rfl, rfl, by omega, by omega, by omega, HR.out, bel _ _, Blk.new w _ 27⟩
 case round =>
  obtain ⟨q, m, rfl, rfl, hm0, hm1, hq, hre, hb, hblk⟩ := hrel; have iB : Bel w wr := ⟨hb⟩
  have iL := hblk.lt; have s0 := hblk.cell 0; simp at s0; by_cases hlt : q < S.ins.length
  · obtain ⟨x, hx⟩ : ∃ x, S.ins[q]? = some x := ⟨_, gE hlt⟩
    obtain ⟨b, off, ev, rfl, iG0, ho, her, hc⟩ := HAt.out q x hx; obtain ⟨ae, ce, rfl, hae⟩ := her.at_; rw [lM] at hc; have hel := (HWF.out.2.2.2.1 x (mG hx)).2.1; have HA := Lib.hid (And.intro hae hc); obtain ⟨iG, c0, c1, c2, c3⟩ := hc wr hb; have HB := Lib.hid hblk; rw [drop_at hx, lkI] at hre; clear her hae hc ho hblk c0 c3 c1 c2 hx; obtain ⟨xn, xd, xe, xs⟩ := x; simp only at hre HA hel; rcases xd with _ | _
    · rw [if_neg (by decide)] at hre; obtain ⟨_, _, c1, c2, _⟩ := HA.out.2 wr hb; have HRE := Lib.hid hre; clear hre; by_cases h0 : 0 < xe.length
      · have h0I : (0 : Int) < xe.length := by omega
        go_wp2_with fail
        go_loopw [5, 7] (fun v i wr' => v = .int .i64 m ∧ i = .int .i64 0 ∧ wr' = wr) (fun _ i _ => 0)
        case atStart => exact ⟨rfl, rfl, rfl⟩
        case round =>
         obtain ⟨rfl, rfl, rfl⟩ := hrel; go_wp2_with fail
         go_roundw
         case rel => exact ⟨q + 1, m, by rfl, rfl, hm0, by omega, by omega, HRE.out, bel _ _, HB.out⟩
         case measure => simp [intOf]; omega
      · have h0I : ¬ (0 : Int) < xe.length := by omega
        go_wp2_with fail
        go_loopw [5, 7] (fun v i wr' => v = .int .i64 m ∧ i = .int .i64 0 ∧ wr' = wr) (fun _ i _ => 0)
        case atStart => exact ⟨rfl, rfl, rfl⟩
        case round =>
         obtain ⟨rfl, rfl, rfl⟩ := hrel; go_wp2_with fail
         go_roundw
         case rel => exact ⟨q + 1, m, by rfl, rfl, hm0, by omega, by omega, HRE.out, bel _ _, HB.out⟩
         case measure => simp [intOf]; omega
    · rw [if_pos rfl] at hre; have HRE := Lib.hid hre; clear hre; go_wp2_with fail
      go_loopw [5, 7] (fun v i wr' => ∃ (j : Nat) (m' : Int), i = .int .i64 j ∧ v = .int .i64 m' ∧ 0 ≤ m' ∧ m' ≤ 1000000000 * q + j ∧ j ≤ xe.length ∧ lkI n (S.ins.drop (q + 1)) (lkE n (xe.drop j) m') = R ∧ Below w.heap.size w wr' ∧ Blk wr' w.heap.size #[.slice (some ⟨b, off, none⟩) S.ins.length ci, .slice ao no co, .slice am nm cm] 27) (fun _ i _ => (xe.length - intOf i).toNat)
      case atStart => exact ⟨0, m, rfl, rfl, by omega, by omega, by omega, HRE.out, bel _ _, HB.out⟩
      case round =>
       clear HRE HB iB iL s0 hb iG; obtain ⟨j, m', rfl, rfl, hm2, hm3, hj, hre, hb, hblk⟩ := hrel; have iB : Bel w wr := ⟨hb⟩
       have iL := hblk.lt; have s0 := hblk.cell 0; simp at s0; obtain ⟨iG, c0, c1, c2, c3⟩ := HA.out.2 wr hb; have HB := Lib.hid hblk; clear hblk c0 c3; by_cases hlj : j < xe.length
       · obtain ⟨z, hz⟩ : ∃ z, xe[j]? = some z := ⟨_, gE hlj⟩
         obtain ⟨be, oe, rfl, iE0, iE, hce⟩ := HA.out.1 wr hb j z.cells (by rw [gM, hz]; rfl); have e1 := hce 1 _ rfl; rw [drop_at hz, lkE] at hre; clear hz hce; have hljI : (j : Int) < xe.length := by omega
         have w1 : IntKind.i64.wrap (m' + 1) = m' + 1 := I64.wrap ⟨by omega, by omega⟩; rcases hpz : (z.num == n) with _ | _
         · rw [hpz, if_neg (by decide)] at hre; have HZ := Lib.hid hre; clear hre; go_wp2_with fail
           go_roundw
           case rel => exact ⟨j + 1, m', by rfl, rfl, by omega, by omega, by omega, HZ.out, bel _ _, HB.out⟩
           case measure => simp [intOf]; omega
         · rw [hpz, if_pos (by decide)] at hre; have HZ := Lib.hid hre; clear hre; go_wp2_with fail
           go_roundw
           case rel => exact ⟨j + 1, m' + 1, by rfl, rfl, by omega, by omega, by omega, HZ.out, bel _ _, HB.out⟩
           case measure => simp [intOf]; omega
       · rw [show xe.drop j = [] from List.drop_of_length_le (by omega), lkE] at hre; have hljI : ¬ (j : Int) < xe.length := by omega
         have HZ := Lib.hid hre; clear hre; go_wp2_with fail
         go_roundw
         case rel => exact ⟨q + 1, m', by rfl, rfl, hm2, by omega, by omega, HZ.out, bel _ _, HB.out⟩
         case measure => simp [intOf]; omega
  · rw [List.drop_of_length_le (by omega), lkI] at hre; subst hre; go_wp2_with fail; exact bodyPost_ret (v := .int .i64 m) (by simp [results, Tryz.results31, go_sem]) rfl ⟨rfl, bel _ _⟩
end Go.Proofs.YtjkenolgkkknaaaGreatDoor
