/- What awake's calls come to. Conditions: none. awake of the laws. Conditions: none. CommuteCores. Conditions: none. -/
import Derived.Test.YtjkenolgkkknaaaGreatDoorVwC
import Derived.Test.YtjkenolgkkknaaaGreatDoorRnw
set_option linter.unusedVariables false
set_option linter.unusedSimpArgs false
namespace Go.Proofs.YtjkenolgkkknaaaGreatDoor
open Go.RowKit
theorem cutI_zero (b : Bool) : cutI b 0 = 0 := by cases b <;> rfl
theorem cutL_nil (b : Bool) : cutL b [] = [] := by cases b <;> rfl
theorem view_create {S S' : PSt} {c : PCall} {r : PRes} (hwf : S.wf) (hlk : linkedB S = true) (hk : c.kind = 0 ∨ c.kind = 1) (hp : (parseM c.path).1 = 0) (hnl : (parseM c.path).2.length ≤ 1000000000) (D : Did S c S' r) :
    HasView S c (r.code == 0) (vwalkF S (parseM c.path).2 (0, 0) 1 [] [1]).L (cutL (r.code == 0) [(vwalkF S (parseM c.path).2 (0, 0) 1 [] [1]).last]) (vwalkF S (parseM c.path).2 (0, 0) 1 [] [1]).M 0 0 := by
  intro ww p h
  have := of23 p S S' c r _ _ _ 0 0 0 ww h hwf D (by omega) (fun wx k fine hn hl => paths_create k p S c fine wx hn hl hwf hlk hk hp hnl)
  rw [cutI_zero] at this
  exact this
theorem view_stat {S S' : PSt} {c : PCall} {r : PRes} (hwf : S.wf) (hlk : linkedB S = true) (hpos : 0 < S.ins.length) (hk : c.kind = 13) (hp : (parseM c.path).1 = 0) (hnl : (parseM c.path).2.length ≤ 1000000000) (D : Did S c S' r) :
    HasView S c (r.code == 0) (vwalkF S (parseM c.path).2 (0, 0) 1 [] [1]).L [] (vwalkF S (parseM c.path).2 (0, 0) 1 [] [1]).M (statBy S (vwalkF S (parseM c.path).2 (0, 0) 1 [] [1]).num) 0 := by
  intro ww p h
  have := of23 p S S' c r _ _ _ _ 0 0 ww h hwf D (by omega) (fun wx k fine hn hl => paths_stat k p S c fine wx hn hl hwf hlk hpos hk hp hnl)
  rw [cutI_zero, cutL_nil] at this
  exact this
def cA : PCall := ⟨0, 0, 0, 0, 0, ⟨#[47, 97]⟩, ⟨#[]⟩, ⟨#[]⟩⟩
def cB : PCall := ⟨0, 1, 0, 0, 0, ⟨#[47, 98]⟩, ⟨#[]⟩, ⟨#[]⟩⟩
def cC : PCall := ⟨0, 1, 0, 0, 0, ⟨#[47, 97]⟩, ⟨#[]⟩, ⟨#[]⟩⟩
def crt (S : PSt) (c : PCall) : PSt × PRes := doM S c (createM S c PRes.zero)
def s2 : PSt := newSt 2
theorem did_crt {S : PSt} {c : PCall} (hg : goodB S = true) (hk : c.kind = 0 ∨ c.kind = 1) (hp : (parseM c.path).1 = 0) (hpl : (parseM c.path).2.length ≤ 1000000000) : Did S c (crt S c).1 (crt S c).2 :=
  did_create (good_wf hg).1 (good_wf hg).2.1 hk hp hpl rfl
set_option maxRecDepth 100000
theorem g0 : goodB s2 = true := by kernel_rfl
theorem gA : goodB (crt s2 cA).1 = true := by kernel_rfl
theorem gB : goodB (crt s2 cB).1 = true := by kernel_rfl
theorem gAB : goodB (crt (crt s2 cA).1 cB).1 = true := by kernel_rfl
theorem mAB : mayM (crt (crt s2 cA).1 cB).1 = true := by kernel_rfl
theorem eAB : (crt (crt s2 cB).1 cA).1 = (crt (crt s2 cA).1 cB).1 := by kernel_rfl
theorem wAB : wlkOk (crt (crt s2 cA).1 cB).1 3 1 = true := by kernel_rfl
theorem lAB : (shapeT (crt (crt s2 cA).1 cB).1 3).length ≤ 1000000000000 := by
  have h : (shapeT (crt (crt s2 cA).1 cB).1 3).length.ble 1000 = true := by kernel_rfl
  have := Nat.le_of_ble_eq_true h
  omega
theorem lenB {α : Type} {l : List α} (h : l.length.ble 1000 = true) : l.length ≤ 1000000000 := by
  have := Nat.le_of_ble_eq_true h
  omega
theorem gC : goodB (crt s2 cC).1 = true := by kernel_rfl
theorem k0 : linkedB s2 = true := by kernel_rfl
theorem pA : (parseM cA.path).1 = 0 := by kernel_rfl
theorem pB : (parseM cB.path).1 = 0 := by kernel_rfl
theorem pC : (parseM cC.path).1 = 0 := by kernel_rfl
theorem nA : (parseM cA.path).2.length ≤ 1000000000 := lenB (by kernel_rfl)
theorem nB : (parseM cB.path).2.length ≤ 1000000000 := lenB (by kernel_rfl)
theorem nC : (parseM cC.path).2.length ≤ 1000000000 := lenB (by kernel_rfl)
theorem cm_AB (iv ov mv : Value) (w : World) (h : StRead w iv ov mv s2) (hp : Laid w.heap.size Pow10 w) : Calls Tryz.prog 9 #[.agg #[iv, ov, mv], cA.val, cB.val] w fun e w' => e = .returned (.bool true) ∧ Below w.heap.size w w' := by
  have := commute_one iv ov mv 3 w h g0 (x := cA) (y := cB) (by kernel_rfl) (did_crt g0 (.inl rfl) pA nA) (did_crt gA (.inl rfl) pB nB) (did_crt g0 (.inl rfl) pB nB) (by have := did_crt gB (c := cA) (.inl rfl) pA nA; rw [eAB] at this; exact this) (lenB (by kernel_rfl)) (lenB (by kernel_rfl)) gAB mAB wAB lAB hp
  rw [show (sameM (crt s2 cA).2 (crt (crt s2 cB).1 cA).2 && sameM (crt (crt s2 cA).1 cB).2 (crt s2 cB).2) = true by kernel_rfl] at this
  exact this
theorem ap_AB (iv ov mv : Value) (w : World) (h : StRead w iv ov mv s2) : Calls Tryz.prog 10 #[.agg #[iv, ov, mv], cA.val, cB.val] w fun e w' => e = .returned (.bool true) ∧ Below w.heap.size w w' := by
  have := apart_yes iv ov mv s2 cA cB _ _ _ _ _ _ _ _ 0 0 0 0 w h (good_wf g0).1 (by kernel_rfl) (by decide) (by decide) (view_create (good_wf g0).1 k0 (.inl rfl) pA nA (did_crt g0 (.inl rfl) pA nA)) (view_create (good_wf g0).1 k0 (.inl rfl) pB nB (did_crt g0 (.inl rfl) pB nB)) (.inl rfl) (.inl rfl) (.inl rfl) (lenB (by kernel_rfl)) (lenB (by kernel_rfl)) (lenB (by kernel_rfl)) (lenB (by kernel_rfl))
  refine this.mono ?_
  rintro e w' ⟨rfl, hb⟩
  exact ⟨congrArg (fun b => Ending.returned (Value.bool b)) (by kernel_rfl), hb⟩
theorem cm_AC (iv ov mv : Value) (w : World) (h : StRead w iv ov mv s2) : Calls Tryz.prog 9 #[.agg #[iv, ov, mv], cA.val, cC.val] w fun e w' => e = .returned (.bool false) ∧ Below w.heap.size w w' :=
  commute_diff iv ov mv w h g0 (x := cA) (y := cC) (by kernel_rfl) (did_crt g0 (.inl rfl) pA nA) (did_crt gA (.inl rfl) pC nC) (did_crt g0 (.inl rfl) pC nC) (did_crt gC (.inl rfl) pA nA) (lenB (by kernel_rfl)) (lenB (by kernel_rfl)) (by kernel_rfl)
theorem ap_AC (iv ov mv : Value) (w : World) (h : StRead w iv ov mv s2) : Calls Tryz.prog 10 #[.agg #[iv, ov, mv], cA.val, cC.val] w fun e w' => e = .returned (.bool false) ∧ Below w.heap.size w w' := by
  have := apart_yes iv ov mv s2 cA cC _ _ _ _ _ _ _ _ 0 0 0 0 w h (good_wf g0).1 (by kernel_rfl) (by decide) (by decide) (view_create (good_wf g0).1 k0 (.inl rfl) pA nA (did_crt g0 (.inl rfl) pA nA)) (view_create (good_wf g0).1 k0 (.inl rfl) pC nC (did_crt g0 (.inl rfl) pC nC)) (.inl rfl) (.inl rfl) (.inl rfl) (lenB (by kernel_rfl)) (lenB (by kernel_rfl)) (lenB (by kernel_rfl)) (lenB (by kernel_rfl))
  refine this.mono ?_
  rintro e w' ⟨rfl, hb⟩
  exact ⟨congrArg (fun b => Ending.returned (Value.bool b)) (by kernel_rfl), hb⟩
theorem cm_AA (iv ov mv : Value) (w : World) (h : StRead w iv ov mv s2) : Calls Tryz.prog 9 #[.agg #[iv, ov, mv], cA.val, cA.val] w fun e w' => e = .returned (.bool false) ∧ Below w.heap.size w w' :=
  commute_not iv ov mv s2 cA cA w h (good_wf g0).1 (by kernel_rfl)
end Go.Proofs.YtjkenolgkkknaaaGreatDoor
namespace Go.Proofs.YtjkenolgkkknaaaGreatDoor
open Go.RowKit
theorem StRead.slices {w : World} {iv ov mv : Value} {S : PSt} (h : StRead w iv ov mv S) : ∃ ai ni ci ao no co am nm cm, iv = .slice ai ni ci ∧ ov = .slice ao no co ∧ mv = .slice am nm cm := by
  obtain ⟨a1, c1, e1, _⟩ := h.1.at_
  obtain ⟨a2, c2, e2, _⟩ := h.2.1.at_
  obtain ⟨_, _, is, h3, _⟩ := h
  obtain ⟨a3, c3, e3, _⟩ := h3.at_
  exact ⟨_, _, _, _, _, _, _, _, _, e3, e1, e2⟩
set_option maxRecDepth 100000 in
set_option maxHeartbeats 8000000 in
theorem awake7 (w : World) (hp : Laid w.heap.size Pow10 w) : Calls Tryz.prog 7 #[] w fun e w' => e = .returned (.bool true) ∧ Below w.heap.size w w' := by
  have hnew : ∀ ww, Below w.heap.size w ww → Calls Tryz.prog 11 #[.int .i64 2] ww _ := fun ww hb => new11 2 (by omega) (by omega) ww
  go_enter Tryz.func7, Tryz.ntmps7
  go_upto_region 2 with (go_at_call 11; refine (hnew _ (bel w _)).mono ?_; rintro e w1 ⟨iv, ov, mv, rfl, hb1, hst⟩; obtain ⟨ai, ni, ci, ao, no, co, am, nm, cm, rfl, rfl, rfl⟩ := hst.slices; have HST := Lib.hid (And.intro hst (And.intro hb1 (hp.below hb1))); clear hst hb1)
  have h1 : ∀ ww, Below w1.heap.size w1 ww → Calls Tryz.prog 9 #[.agg #[.slice ai ni ci, .slice ao no co, .slice am nm cm], .agg #[.int .i64 0, .int .i64 0, .int .i64 0, .int .i64 0, .int .i64 0, .string { data := #[47, 97] }, .string { data := #[] }, .string { data := #[] }], .agg #[.int .i64 0, .int .i64 1, .int .i64 0, .int .i64 0, .int .i64 0, .string { data := #[47, 98] }, .string { data := #[] }, .string { data := #[] }]] ww fun e w' => e = .returned (.bool true) ∧ Below ww.heap.size ww w' := fun ww hb => cm_AB _ _ _ ww (HST.out.1.below hb (Nat.le_refl _)) ((HST.out.2.2.below (hb.mono HST.out.2.1.size)).up (Nat.le_trans HST.out.2.1.size hb.size))
  have h2 : ∀ ww, Below w1.heap.size w1 ww → Calls Tryz.prog 10 #[.agg #[.slice ai ni ci, .slice ao no co, .slice am nm cm], .agg #[.int .i64 0, .int .i64 0, .int .i64 0, .int .i64 0, .int .i64 0, .string { data := #[47, 97] }, .string { data := #[] }, .string { data := #[] }], .agg #[.int .i64 0, .int .i64 1, .int .i64 0, .int .i64 0, .int .i64 0, .string { data := #[47, 98] }, .string { data := #[] }, .string { data := #[] }]] ww fun e w' => e = .returned (.bool true) ∧ Below ww.heap.size ww w' := fun ww hb => ap_AB _ _ _ ww (HST.out.1.below hb (Nat.le_refl _))
  have h3 : ∀ ww, Below w1.heap.size w1 ww → Calls Tryz.prog 9 #[.agg #[.slice ai ni ci, .slice ao no co, .slice am nm cm], .agg #[.int .i64 0, .int .i64 0, .int .i64 0, .int .i64 0, .int .i64 0, .string { data := #[47, 97] }, .string { data := #[] }, .string { data := #[] }], .agg #[.int .i64 0, .int .i64 1, .int .i64 0, .int .i64 0, .int .i64 0, .string { data := #[47, 97] }, .string { data := #[] }, .string { data := #[] }]] ww fun e w' => e = .returned (.bool false) ∧ Below ww.heap.size ww w' := fun ww hb => cm_AC _ _ _ ww (HST.out.1.below hb (Nat.le_refl _))
  have h4 : ∀ ww, Below w1.heap.size w1 ww → Calls Tryz.prog 10 #[.agg #[.slice ai ni ci, .slice ao no co, .slice am nm cm], .agg #[.int .i64 0, .int .i64 0, .int .i64 0, .int .i64 0, .int .i64 0, .string { data := #[47, 97] }, .string { data := #[] }, .string { data := #[] }], .agg #[.int .i64 0, .int .i64 1, .int .i64 0, .int .i64 0, .int .i64 0, .string { data := #[47, 97] }, .string { data := #[] }, .string { data := #[] }]] ww fun e w' => e = .returned (.bool false) ∧ Below ww.heap.size ww w' := fun ww hb => ap_AC _ _ _ ww (HST.out.1.below hb (Nat.le_refl _))
  have h5 : ∀ ww, Below w1.heap.size w1 ww → Calls Tryz.prog 9 #[.agg #[.slice ai ni ci, .slice ao no co, .slice am nm cm], .agg #[.int .i64 0, .int .i64 0, .int .i64 0, .int .i64 0, .int .i64 0, .string { data := #[47, 97] }, .string { data := #[] }, .string { data := #[] }], .agg #[.int .i64 0, .int .i64 0, .int .i64 0, .int .i64 0, .int .i64 0, .string { data := #[47, 97] }, .string { data := #[] }, .string { data := #[] }]] ww fun e w' => e = .returned (.bool false) ∧ Below ww.heap.size ww w' := fun ww hb => cm_AA _ _ _ ww (HST.out.1.below hb (Nat.le_refl _))
  go_wp2_with (first | (go_at_call 9; with_reducible refine (h1 _ (bel w1 _)).mono ?_; rintro e w' ⟨rfl, hb⟩; obtain ⟨p, rfl⟩ := hb.rest; clear hb) | (go_at_call 10; with_reducible refine (h2 _ (bel w1 _)).mono ?_; rintro e w' ⟨rfl, hb⟩; obtain ⟨p, rfl⟩ := hb.rest; clear hb) | (go_at_call 9; with_reducible refine (h3 _ (bel w1 _)).mono ?_; rintro e w' ⟨rfl, hb⟩; obtain ⟨p, rfl⟩ := hb.rest; clear hb) | (go_at_call 10; with_reducible refine (h4 _ (bel w1 _)).mono ?_; rintro e w' ⟨rfl, hb⟩; obtain ⟨p, rfl⟩ := hb.rest; clear hb) | (go_at_call 9; with_reducible refine (h5 _ (bel w1 _)).mono ?_; rintro e w' ⟨rfl, hb⟩; obtain ⟨p, rfl⟩ := hb.rest; clear hb) | (go_at_call 12; refine (num12 0 _).mono ?_; rintro e w' ⟨rfl, hb⟩; obtain ⟨p, rfl⟩ := hb.rest; clear hb))
  go_ret
  exact ⟨rfl, HST.out.2.1.trans ((bel w1 _).mono HST.out.2.1.size)⟩
end Go.Proofs.YtjkenolgkkknaaaGreatDoor
namespace Go.Proofs.YtjkenolgkkknaaaGreatDoor
open Go.RowKit
set_option maxRecDepth 100000
/-- A call at the root. -/
def aP (k v : Int) : PCall := ⟨k, v, 0, 0, 0, ⟨#[47]⟩, ⟨#[]⟩, ⟨#[]⟩⟩
theorem pP (k v : Int) : (parseM (aP k v).path).1 = 0 := (show (parseM (⟨#[47]⟩ : ByteArray)).1 = 0 by kernel_rfl)
theorem nP (k v : Int) : (parseM (aP k v).path).2.length ≤ 1000000000 := (show (parseM (⟨#[47]⟩ : ByteArray)).2.length ≤ 1000000000 from lenB (by kernel_rfl))
def stt (S : PSt) (c : PCall) : PSt × PRes := doM S c (statM S c PRes.zero)
theorem did_stt {S : PSt} (v : Int) (hg : goodB S = true) : Did S (aP 13 v) (stt S (aP 13 v)).1 (stt S (aP 13 v)).2 := did_stat (good_wf hg).1 rfl (pP 13 v) (nP 13 v) rfl
theorem m0 : mayM s2 = true := by kernel_rfl
theorem w0k : wlkOk s2 3 1 = true := by kernel_rfl
theorem l0 : (shapeT s2 3).length ≤ 1000000000000 := by
  have h : (shapeT s2 3).length.ble 1000 = true := by kernel_rfl
  have := Nat.le_of_ble_eq_true h
  omega
theorem st0 : (stt s2 (aP 13 0)).1 = s2 := by kernel_rfl
theorem st1 : (stt s2 (aP 13 1)).1 = s2 := by kernel_rfl
theorem did_st (v : Int) (hv : v = 0 ∨ v = 1) : Did s2 (aP 13 v) s2 (stt s2 (aP 13 v)).2 := by
  have := did_stt v g0
  rcases hv with rfl | rfl
  · rw [st0] at this; exact this
  · rw [st1] at this; exact this
theorem st_cm (v : Int) (hv : v = 0 ∨ v = 1) (iv ov mv : Value) (w : World) (h : StRead w iv ov mv s2) (hp : Laid w.heap.size Pow10 w) : Calls Tryz.prog 9 #[.agg #[iv, ov, mv], (aP 13 v).val, (aP 13 (1 - v)).val] w fun e w' => e = .returned (.bool true) ∧ Below w.heap.size w w' := by
  have hv' : 1 - v = 0 ∨ 1 - v = 1 := by omega
  have := commute_one iv ov mv 3 w h g0 (x := aP 13 v) (y := aP 13 (1 - v)) (by rcases hv with rfl | rfl <;> kernel_rfl) (did_st v hv) (did_st (1 - v) hv') (did_st (1 - v) hv') (did_st v hv) (lenB (by rcases hv with rfl | rfl <;> kernel_rfl)) (lenB (by rcases hv with rfl | rfl <;> kernel_rfl)) g0 m0 w0k l0 hp
  rw [show (sameM (stt s2 (aP 13 v)).2 (stt s2 (aP 13 v)).2 && sameM (stt s2 (aP 13 (1 - v))).2 (stt s2 (aP 13 (1 - v))).2) = true by rcases hv with rfl | rfl <;> kernel_rfl] at this
  exact this
theorem st_ap (v : Int) (hv : v = 0 ∨ v = 1) (iv ov mv : Value) (w : World) (h : StRead w iv ov mv s2) : Calls Tryz.prog 10 #[.agg #[iv, ov, mv], (aP 13 v).val, (aP 13 (1 - v)).val] w fun e w' => e = .returned (.bool true) ∧ Below w.heap.size w w' := by
  have hv' : 1 - v = 0 ∨ 1 - v = 1 := by omega
  have := apart_yes iv ov mv s2 (aP 13 v) (aP 13 (1 - v)) _ _ _ _ _ _ _ _ _ _ _ _ w h (good_wf g0).1 (by rcases hv with rfl | rfl <;> kernel_rfl) (by show (13 : Int) < 15; omega) (by show (13 : Int) < 15; omega) (view_stat (good_wf g0).1 k0 (by decide) rfl (pP 13 v) (nP 13 v) (did_st v hv)) (view_stat (good_wf g0).1 k0 (by decide) rfl (pP 13 _) (nP 13 _) (did_st (1 - v) hv')) (.inl (show statBy s2 (vwalkF s2 (parseM (⟨#[47]⟩ : ByteArray)).2 (0, 0) 1 [] [1]).num = 0 by kernel_rfl)) (.inl rfl) (.inl rfl) (lenB (show _ from (by kernel_rfl : (vwalkF s2 (parseM (⟨#[47]⟩ : ByteArray)).2 (0, 0) 1 [] [1]).L.length.ble 1000 = true))) (lenB (show _ from (by kernel_rfl : (vwalkF s2 (parseM (⟨#[47]⟩ : ByteArray)).2 (0, 0) 1 [] [1]).L.length.ble 1000 = true))) (by simp) (by simp)
  exact this
theorem st_aa (v : Int) (iv ov mv : Value) (w : World) (h : StRead w iv ov mv s2) : Calls Tryz.prog 9 #[.agg #[iv, ov, mv], (aP 13 v).val, (aP 13 v).val] w fun e w' => e = .returned (.bool false) ∧ Below w.heap.size w w' :=
  commute_not iv ov mv s2 _ _ w h (good_wf g0).1 (by unfold askedM; simp [aP])
theorem st_paa (v : Int) (iv ov mv : Value) (w : World) (h : StRead w iv ov mv s2) : Calls Tryz.prog 10 #[.agg #[iv, ov, mv], (aP 13 v).val, (aP 13 v).val] w fun e w' => e = .returned (.bool false) ∧ Below w.heap.size w w' :=
  apart_not iv ov mv s2 _ _ false w h (good_wf g0).1 (by unfold askedM; simp [aP]) (.inl rfl)
theorem ask_bad (k v u : Int) (hk : 17 ≤ k) : askedM s2 (aP k v) (aP 13 u) = false := by
  have h1 : decide (k ≤ 16) = false := decide_eq_false (by omega)
  unfold askedM kindB aP
  simp only [h1, Bool.and_false, Bool.false_and]
theorem ask_far (f u : Int) (hf : 2 ≤ f) : askedM s2 (aP 13 f) (aP 13 u) = false := by
  have h1 : decide (f < (s2.made.length : Int)) = false := decide_eq_false (by show ¬ f < ((2 : Nat) : Int); omega)
  unfold askedM kindB aP
  simp only [h1, Bool.and_false, Bool.false_and]
theorem ask_far2 (f u : Int) (hf : 2 ≤ f) : askedM s2 (aP 13 u) (aP 13 f) = false := by
  have h1 : decide (f < (s2.made.length : Int)) = false := decide_eq_false (by show ¬ f < ((2 : Nat) : Int); omega)
  unfold askedM kindB aP
  simp only [h1, Bool.and_false, Bool.false_and]
theorem sync_did (k v : Int) (hk : k = 15 ∨ k = 16) (hv : v = 0 ∨ v = 1) : ∃ r : PRes, r.names.length ≤ 1000000000 ∧ sameM r r = true ∧ Did s2 (aP k v) s2 r := by
  rcases hk with rfl | rfl
  · refine ⟨(doM s2 (aP 15 v) (fsyncM s2 (aP 15 v) PRes.zero)).2, lenB (by rcases hv with rfl | rfl <;> kernel_rfl), by rcases hv with rfl | rfl <;> kernel_rfl, did_fsync (good_wf g0).1 rfl ?_⟩
    rcases hv with rfl | rfl <;> kernel_rfl
  · refine ⟨(doM s2 (aP 16 v) (.ok (s2, PRes.zero))).2, lenB (by rcases hv with rfl | rfl <;> kernel_rfl), by rcases hv with rfl | rfl <;> kernel_rfl, did_sync (good_wf g0).1 rfl ?_⟩
    rcases hv with rfl | rfl <;> kernel_rfl
theorem sync_cm (k v : Int) (hk : k = 15 ∨ k = 16) (hv : v = 0 ∨ v = 1) (iv ov mv : Value) (w : World) (h : StRead w iv ov mv s2) (hp : Laid w.heap.size Pow10 w) : Calls Tryz.prog 9 #[.agg #[iv, ov, mv], (aP k v).val, (aP 13 (1 - v)).val] w fun e w' => e = .returned (.bool true) ∧ Below w.heap.size w w' := by
  have hv' : 1 - v = 0 ∨ 1 - v = 1 := by omega
  obtain ⟨r, hr, hs, hd⟩ := sync_did k v hk hv
  have := commute_one iv ov mv 3 w h g0 (x := aP k v) (y := aP 13 (1 - v)) (by rcases hk with rfl | rfl <;> rcases hv with rfl | rfl <;> kernel_rfl) hd (did_st (1 - v) hv') (did_st (1 - v) hv') hd hr (lenB (by rcases hv with rfl | rfl <;> kernel_rfl)) g0 m0 w0k l0 hp
  rw [hs, show (sameM (stt s2 (aP 13 (1 - v))).2 (stt s2 (aP 13 (1 - v))).2) = true by rcases hv with rfl | rfl <;> kernel_rfl] at this
  exact this
set_option maxRecDepth 100000 in
set_option maxHeartbeats 8000000 in
theorem cores4 (kind core : Int) (w : World) (hp : Laid w.heap.size Pow10 w) : Calls Tryz.prog 4 #[.int .i64 kind, .int .i64 core] w fun e w' => e = .returned (.bool true) ∧ Below w.heap.size w w' := by
  have haw : ∀ ww, Below w.heap.size w ww → Calls Tryz.prog 7 #[] ww _ := fun ww hb => awake7 ww ((hp.below hb).up hb.size)
  have hnew : ∀ ww, Below w.heap.size w ww → Calls Tryz.prog 11 #[.int .i64 2] ww _ := fun ww hb => new11 2 (by omega) (by omega) ww
  go_enter Tryz.func4, Tryz.ntmps4
  go_upto_region 4 with (first | (go_at_call 7; refine (haw _ (bel w _)).mono ?_; rintro e w' ⟨rfl, hb⟩; obtain ⟨p, rfl⟩ := hb.rest; clear hb) | (go_at_call 11; refine (hnew _ (bel w _)).mono ?_; rintro e w1 ⟨iv, ov, mv, rfl, hb1, hst⟩; obtain ⟨ai, ni, ci, ao, no, co, am, nm, cm, rfl, rfl, rfl⟩ := hst.slices; have hbw := ((bel w _).trans (hb1.mono (bel w _).size)); have HST := Lib.hid (And.intro hst (And.intro hbw (hp.below hbw))); clear hst hb1 hbw))
  have hv : core % 2 = 0 ∨ core % 2 = 1 := by omega
  have a1 : ∀ ww, Below w1.heap.size w1 ww → Calls Tryz.prog 9 #[.agg #[.slice ai ni ci, .slice ao no co, .slice am nm cm], .agg #[.int .i64 13, .int .i64 (core % 2), .int .i64 0, .int .i64 0, .int .i64 0, .string { data := #[47] }, .string { data := #[] }, .string { data := #[] }], .agg #[.int .i64 13, .int .i64 (1 - core % 2), .int .i64 0, .int .i64 0, .int .i64 0, .string { data := #[47] }, .string { data := #[] }, .string { data := #[] }]] ww fun e w' => e = .returned (.bool true) ∧ Below ww.heap.size ww w' := fun ww hb => st_cm (core % 2) hv _ _ _ ww (HST.out.1.below hb (Nat.le_refl _)) ((HST.out.2.2.below (hb.mono HST.out.2.1.size)).up (Nat.le_trans HST.out.2.1.size hb.size))
  have a2 : ∀ ww, Below w1.heap.size w1 ww → Calls Tryz.prog 10 #[.agg #[.slice ai ni ci, .slice ao no co, .slice am nm cm], .agg #[.int .i64 13, .int .i64 (core % 2), .int .i64 0, .int .i64 0, .int .i64 0, .string { data := #[47] }, .string { data := #[] }, .string { data := #[] }], .agg #[.int .i64 13, .int .i64 (1 - core % 2), .int .i64 0, .int .i64 0, .int .i64 0, .string { data := #[47] }, .string { data := #[] }, .string { data := #[] }]] ww fun e w' => e = .returned (.bool true) ∧ Below ww.heap.size ww w' := fun ww hb => st_ap (core % 2) hv _ _ _ ww (HST.out.1.below hb (Nat.le_refl _))
  have a3 : ∀ ww, Below w1.heap.size w1 ww → Calls Tryz.prog 9 #[.agg #[.slice ai ni ci, .slice ao no co, .slice am nm cm], .agg #[.int .i64 13, .int .i64 (core % 2), .int .i64 0, .int .i64 0, .int .i64 0, .string { data := #[47] }, .string { data := #[] }, .string { data := #[] }], .agg #[.int .i64 13, .int .i64 (core % 2), .int .i64 0, .int .i64 0, .int .i64 0, .string { data := #[47] }, .string { data := #[] }, .string { data := #[] }]] ww fun e w' => e = .returned (.bool false) ∧ Below ww.heap.size ww w' := fun ww hb => st_aa (core % 2) _ _ _ ww (HST.out.1.below hb (Nat.le_refl _))
  have a4 : ∀ ww, Below w1.heap.size w1 ww → Calls Tryz.prog 10 #[.agg #[.slice ai ni ci, .slice ao no co, .slice am nm cm], .agg #[.int .i64 13, .int .i64 (core % 2), .int .i64 0, .int .i64 0, .int .i64 0, .string { data := #[47] }, .string { data := #[] }, .string { data := #[] }], .agg #[.int .i64 13, .int .i64 (core % 2), .int .i64 0, .int .i64 0, .int .i64 0, .string { data := #[47] }, .string { data := #[] }, .string { data := #[] }]] ww fun e w' => e = .returned (.bool false) ∧ Below ww.heap.size ww w' := fun ww hb => st_paa (core % 2) _ _ _ ww (HST.out.1.below hb (Nat.le_refl _))
  have a5 : ∀ ww, Below w1.heap.size w1 ww → Calls Tryz.prog 9 #[.agg #[.slice ai ni ci, .slice ao no co, .slice am nm cm], .agg #[.int .i64 (17 + kind % 8), .int .i64 (core % 2), .int .i64 0, .int .i64 0, .int .i64 0, .string { data := #[47] }, .string { data := #[] }, .string { data := #[] }], .agg #[.int .i64 13, .int .i64 (1 - core % 2), .int .i64 0, .int .i64 0, .int .i64 0, .string { data := #[47] }, .string { data := #[] }, .string { data := #[] }]] ww fun e w' => e = .returned (.bool false) ∧ Below ww.heap.size ww w' := fun ww hb => commute_not _ _ _ s2 (aP (17 + kind % 8) (core % 2)) (aP 13 (1 - core % 2)) ww (HST.out.1.below hb (Nat.le_refl _)) (good_wf g0).1 (ask_bad _ _ _ (by omega))
  have a6 : ∀ ww, Below w1.heap.size w1 ww → Calls Tryz.prog 10 #[.agg #[.slice ai ni ci, .slice ao no co, .slice am nm cm], .agg #[.int .i64 (17 + kind % 8), .int .i64 (core % 2), .int .i64 0, .int .i64 0, .int .i64 0, .string { data := #[47] }, .string { data := #[] }, .string { data := #[] }], .agg #[.int .i64 13, .int .i64 (1 - core % 2), .int .i64 0, .int .i64 0, .int .i64 0, .string { data := #[47] }, .string { data := #[] }, .string { data := #[] }]] ww fun e w' => e = .returned (.bool false) ∧ Below ww.heap.size ww w' := fun ww hb => apart_not _ _ _ s2 (aP (17 + kind % 8) (core % 2)) (aP 13 (1 - core % 2)) false ww (HST.out.1.below hb (Nat.le_refl _)) (good_wf g0).1 (ask_bad _ _ _ (by omega)) (.inl rfl)
  have a7 : ∀ ww, Below w1.heap.size w1 ww → Calls Tryz.prog 9 #[.agg #[.slice ai ni ci, .slice ao no co, .slice am nm cm], .agg #[.int .i64 13, .int .i64 (2 + core % 8), .int .i64 0, .int .i64 0, .int .i64 0, .string { data := #[47] }, .string { data := #[] }, .string { data := #[] }], .agg #[.int .i64 13, .int .i64 (1 - core % 2), .int .i64 0, .int .i64 0, .int .i64 0, .string { data := #[47] }, .string { data := #[] }, .string { data := #[] }]] ww fun e w' => e = .returned (.bool false) ∧ Below ww.heap.size ww w' := fun ww hb => commute_not _ _ _ s2 (aP 13 (2 + core % 8)) (aP 13 (1 - core % 2)) ww (HST.out.1.below hb (Nat.le_refl _)) (good_wf g0).1 (ask_far _ _ (by omega))
  have a8 : ∀ ww, Below w1.heap.size w1 ww → Calls Tryz.prog 10 #[.agg #[.slice ai ni ci, .slice ao no co, .slice am nm cm], .agg #[.int .i64 13, .int .i64 (1 - core % 2), .int .i64 0, .int .i64 0, .int .i64 0, .string { data := #[47] }, .string { data := #[] }, .string { data := #[] }], .agg #[.int .i64 13, .int .i64 (2 + core % 8), .int .i64 0, .int .i64 0, .int .i64 0, .string { data := #[47] }, .string { data := #[] }, .string { data := #[] }]] ww fun e w' => e = .returned (.bool false) ∧ Below ww.heap.size ww w' := fun ww hb => apart_not _ _ _ s2 (aP 13 (1 - core % 2)) (aP 13 (2 + core % 8)) false ww (HST.out.1.below hb (Nat.le_refl _)) (good_wf g0).1 (ask_far2 _ _ (by omega)) (.inl rfl)
  have a9 : ∀ ww, Below w1.heap.size w1 ww → Calls Tryz.prog 9 #[.agg #[.slice ai ni ci, .slice ao no co, .slice am nm cm], .agg #[.int .i64 (16 - kind % 2), .int .i64 (core % 2), .int .i64 0, .int .i64 0, .int .i64 0, .string { data := #[47] }, .string { data := #[] }, .string { data := #[] }], .agg #[.int .i64 13, .int .i64 (1 - core % 2), .int .i64 0, .int .i64 0, .int .i64 0, .string { data := #[47] }, .string { data := #[] }, .string { data := #[] }]] ww fun e w' => e = .returned (.bool true) ∧ Below ww.heap.size ww w' := fun ww hb => sync_cm (16 - kind % 2) (core % 2) (by omega) hv _ _ _ ww (HST.out.1.below hb (Nat.le_refl _)) ((HST.out.2.2.below (hb.mono HST.out.2.1.size)).up (Nat.le_trans HST.out.2.1.size hb.size))
  have a10 : ∀ ww, Below w1.heap.size w1 ww → Calls Tryz.prog 10 #[.agg #[.slice ai ni ci, .slice ao no co, .slice am nm cm], .agg #[.int .i64 (16 - kind % 2), .int .i64 (core % 2), .int .i64 0, .int .i64 0, .int .i64 0, .string { data := #[47] }, .string { data := #[] }, .string { data := #[] }], .agg #[.int .i64 13, .int .i64 (1 - core % 2), .int .i64 0, .int .i64 0, .int .i64 0, .string { data := #[47] }, .string { data := #[] }, .string { data := #[] }]] ww fun e w' => e = .returned (.bool false) ∧ Below ww.heap.size ww w' := fun ww hb => apart_not _ _ _ s2 (aP (16 - kind % 2) (core % 2)) (aP 13 (1 - core % 2)) _ ww (HST.out.1.below hb (Nat.le_refl _)) (good_wf g0).1 rfl (.inr (.inl (by show 15 ≤ 16 - kind % 2; omega)))
  clear hv
  go_wp2_with (first | (go_at_call 9; with_reducible refine (a1 _ (bel w1 _)).mono ?_; rintro e w' ⟨rfl, hb⟩; obtain ⟨p, rfl⟩ := hb.rest; clear hb) | (go_at_call 10; with_reducible refine (a2 _ (bel w1 _)).mono ?_; rintro e w' ⟨rfl, hb⟩; obtain ⟨p, rfl⟩ := hb.rest; clear hb) | (go_at_call 9; with_reducible refine (a3 _ (bel w1 _)).mono ?_; rintro e w' ⟨rfl, hb⟩; obtain ⟨p, rfl⟩ := hb.rest; clear hb) | (go_at_call 10; with_reducible refine (a4 _ (bel w1 _)).mono ?_; rintro e w' ⟨rfl, hb⟩; obtain ⟨p, rfl⟩ := hb.rest; clear hb) | (go_at_call 9; with_reducible refine (a5 _ (bel w1 _)).mono ?_; rintro e w' ⟨rfl, hb⟩; obtain ⟨p, rfl⟩ := hb.rest; clear hb) | (go_at_call 10; with_reducible refine (a6 _ (bel w1 _)).mono ?_; rintro e w' ⟨rfl, hb⟩; obtain ⟨p, rfl⟩ := hb.rest; clear hb) | (go_at_call 9; with_reducible refine (a7 _ (bel w1 _)).mono ?_; rintro e w' ⟨rfl, hb⟩; obtain ⟨p, rfl⟩ := hb.rest; clear hb) | (go_at_call 10; with_reducible refine (a8 _ (bel w1 _)).mono ?_; rintro e w' ⟨rfl, hb⟩; obtain ⟨p, rfl⟩ := hb.rest; clear hb) | (go_at_call 9; with_reducible refine (a9 _ (bel w1 _)).mono ?_; rintro e w' ⟨rfl, hb⟩; obtain ⟨p, rfl⟩ := hb.rest; clear hb) | (go_at_call 10; with_reducible refine (a10 _ (bel w1 _)).mono ?_; rintro e w' ⟨rfl, hb⟩; obtain ⟨p, rfl⟩ := hb.rest; clear hb) | (go_at_call 12; refine (num12 0 _).mono ?_; rintro e w' ⟨rfl, hb⟩; obtain ⟨p, rfl⟩ := hb.rest; clear hb))
  go_ret
  exact ⟨rfl, HST.out.2.1.trans ((bel w1 _).mono HST.out.2.1.size)⟩
end Go.Proofs.YtjkenolgkkknaaaGreatDoor
