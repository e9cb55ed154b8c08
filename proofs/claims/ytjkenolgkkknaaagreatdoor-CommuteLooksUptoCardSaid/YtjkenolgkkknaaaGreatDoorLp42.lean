/- Part of the proof that the calls that look alone commute. Conditions: none. -/
import Derived.Test.YtjkenolgkkknaaaGreatDoorLp41
import Derived.Test.YtjkenolgkkknaaaGreatDoorLp40
set_option linter.unusedVariables false
set_option linter.unusedSimpArgs false
set_option maxRecDepth 100000
set_option maxHeartbeats 8000000
/- What awake's calls come to. Conditions: none. -/
set_option linter.unusedVariables false
set_option linter.unusedSimpArgs false
namespace Go.Proofs.YtjkenolgkkknaaaGreatDoor
open Go.RowKit
theorem cutI_zero (b : Bool) : cutI b 0 = 0 := by cases b <;> rfl
theorem view_create {S S' : PSt} {c : PCall} {r : PRes} (hwf : S.wf) (hlk : linkedB S = true) (hk : c.kind = 0 ∨ c.kind = 1) (hp : (parseM c.path).1 = 0) (hnl : (parseM c.path).2.length ≤ 1000000000) (D : Did S c S' r) :
    HasView S c (r.code == 0) (vwalkF S (parseM c.path).2 (0, 0) 1 [] [1]).L (cutL (r.code == 0) [(vwalkF S (parseM c.path).2 (0, 0) 1 [] [1]).last]) (vwalkF S (parseM c.path).2 (0, 0) 1 [] [1]).M 0 0 := by
  intro ww p h
  have := of23 p S S' c r _ _ _ 0 0 0 ww h hwf D (by omega) (fun wx k fine hn hl => paths_create k p S c fine wx hn hl hwf hlk hk hp hnl)
  rw [cutI_zero] at this
  exact this
def cA : PCall := ⟨0, 0, 0, 0, 0, ⟨#[47, 97]⟩, ⟨#[]⟩, ⟨#[]⟩⟩
def cB : PCall := ⟨0, 1, 0, 0, 0, ⟨#[47, 98]⟩, ⟨#[]⟩, ⟨#[]⟩⟩
def cC : PCall := ⟨0, 1, 0, 0, 0, ⟨#[47, 97]⟩, ⟨#[]⟩, ⟨#[]⟩⟩
def crt (S : PSt) (c : PCall) : PSt × PRes := doM S c (createM S c PRes.zero)
def s2 : PSt := newSt 2
theorem did_crt {S : PSt} {c : PCall} (hg : goodB S = true) (hk : c.kind = 0 ∨ c.kind = 1) (hp : (parseM c.path).1 = 0) (hpl : (parseM c.path).2.length ≤ 1000000000) : Did S c (crt S c).1 (crt S c).2 :=
  did_create (good_wf hg).1 (good_wf hg).2.1 hk hp hpl rfl
set_option maxRecDepth 100000
theorem g0 : goodB s2 = true := by kernel_rfl
theorem gA : goodB (crt s2 cA).1 = true := by kernel_rfl
theorem gB : goodB (crt s2 cB).1 = true := by kernel_rfl
theorem gAB : goodB (crt (crt s2 cA).1 cB).1 = true := by kernel_rfl
theorem mAB : mayM (crt (crt s2 cA).1 cB).1 = true := by kernel_rfl
theorem eAB : (crt (crt s2 cB).1 cA).1 = (crt (crt s2 cA).1 cB).1 := by kernel_rfl
theorem wAB : wlkOk (crt (crt s2 cA).1 cB).1 3 1 = true := by kernel_rfl
theorem lAB : (shapeT (crt (crt s2 cA).1 cB).1 3).length ≤ 1000000000000 := by
  have h : (shapeT (crt (crt s2 cA).1 cB).1 3).length.ble 1000 = true := by kernel_rfl
  have := Nat.le_of_ble_eq_true h
  omega
theorem lenB {α : Type} {l : List α} (h : l.length.ble 1000 = true) : l.length ≤ 1000000000 := by
  have := Nat.le_of_ble_eq_true h
  omega
theorem gC : goodB (crt s2 cC).1 = true := by kernel_rfl
theorem k0 : linkedB s2 = true := by kernel_rfl
theorem pA : (parseM cA.path).1 = 0 := by kernel_rfl
theorem pB : (parseM cB.path).1 = 0 := by kernel_rfl
theorem pC : (parseM cC.path).1 = 0 := by kernel_rfl
theorem nA : (parseM cA.path).2.length ≤ 1000000000 := lenB (by kernel_rfl)
theorem nB : (parseM cB.path).2.length ≤ 1000000000 := lenB (by kernel_rfl)
theorem nC : (parseM cC.path).2.length ≤ 1000000000 := lenB (by kernel_rfl)
theorem cm_AB (iv ov mv : Value) (w : World) (h : StRead w iv ov mv s2) (hp : Laid w.heap.size Pow10 w) : Calls Tryz.prog 9 #[.agg #[iv, ov, mv], cA.val, cB.val] w fun e w' => e = .returned (.bool true) ∧ Below w.heap.size w w' := by
  have := commute_one iv ov mv 3 w h g0 (x := cA) (y := cB) (by kernel_rfl) (did_crt g0 (.inl rfl) pA nA) (did_crt gA (.inl rfl) pB nB) (did_crt g0 (.inl rfl) pB nB) (by have := did_crt gB (c := cA) (.inl rfl) pA nA; rw [eAB] at this; exact this) (lenB (by kernel_rfl)) (lenB (by kernel_rfl)) gAB mAB wAB lAB hp
  rw [show (sameM (crt s2 cA).2 (crt (crt s2 cB).1 cA).2 && sameM (crt (crt s2 cA).1 cB).2 (crt s2 cB).2) = true by kernel_rfl] at this
  exact this
theorem ap_AB (iv ov mv : Value) (w : World) (h : StRead w iv ov mv s2) : Calls Tryz.prog 10 #[.agg #[iv, ov, mv], cA.val, cB.val] w fun e w' => e = .returned (.bool true) ∧ Below w.heap.size w w' := by
  have := apart_yes iv ov mv s2 cA cB _ _ _ _ _ _ _ _ 0 0 0 0 w h (good_wf g0).1 (by kernel_rfl) (by decide) (by decide) (view_create (good_wf g0).1 k0 (.inl rfl) pA nA (did_crt g0 (.inl rfl) pA nA)) (view_create (good_wf g0).1 k0 (.inl rfl) pB nB (did_crt g0 (.inl rfl) pB nB)) (.inl rfl) (.inl rfl) (.inl rfl) (lenB (by kernel_rfl)) (lenB (by kernel_rfl)) (lenB (by kernel_rfl)) (lenB (by kernel_rfl))
  refine this.mono ?_
  rintro e w' ⟨rfl, hb⟩
  exact ⟨congrArg (fun b => Ending.returned (Value.bool b)) (by kernel_rfl), hb⟩
theorem cm_AC (iv ov mv : Value) (w : World) (h : StRead w iv ov mv s2) : Calls Tryz.prog 9 #[.agg #[iv, ov, mv], cA.val, cC.val] w fun e w' => e = .returned (.bool false) ∧ Below w.heap.size w w' :=
  commute_diff iv ov mv w h g0 (x := cA) (y := cC) (by kernel_rfl) (did_crt g0 (.inl rfl) pA nA) (did_crt gA (.inl rfl) pC nC) (did_crt g0 (.inl rfl) pC nC) (did_crt gC (.inl rfl) pA nA) (lenB (by kernel_rfl)) (lenB (by kernel_rfl)) (by kernel_rfl)
theorem ap_AC (iv ov mv : Value) (w : World) (h : StRead w iv ov mv s2) : Calls Tryz.prog 10 #[.agg #[iv, ov, mv], cA.val, cC.val] w fun e w' => e = .returned (.bool false) ∧ Below w.heap.size w w' := by
  have := apart_yes iv ov mv s2 cA cC _ _ _ _ _ _ _ _ 0 0 0 0 w h (good_wf g0).1 (by kernel_rfl) (by decide) (by decide) (view_create (good_wf g0).1 k0 (.inl rfl) pA nA (did_crt g0 (.inl rfl) pA nA)) (view_create (good_wf g0).1 k0 (.inl rfl) pC nC (did_crt g0 (.inl rfl) pC nC)) (.inl rfl) (.inl rfl) (.inl rfl) (lenB (by kernel_rfl)) (lenB (by kernel_rfl)) (lenB (by kernel_rfl)) (lenB (by kernel_rfl))
  refine this.mono ?_
  rintro e w' ⟨rfl, hb⟩
  exact ⟨congrArg (fun b => Ending.returned (Value.bool b)) (by kernel_rfl), hb⟩
theorem cm_AA (iv ov mv : Value) (w : World) (h : StRead w iv ov mv s2) : Calls Tryz.prog 9 #[.agg #[iv, ov, mv], cA.val, cA.val] w fun e w' => e = .returned (.bool false) ∧ Below w.heap.size w w' :=
  commute_not iv ov mv s2 cA cA w h (good_wf g0).1 (by kernel_rfl)
end Go.Proofs.YtjkenolgkkknaaaGreatDoor
