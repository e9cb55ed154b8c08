/- Part of the proof that the calls that look alone commute. Conditions: none. -/
import Derived.Test.YtjkenolgkkknaaaGreatDoorLp30
import Derived.Test.YtjkenolgkkknaaaGreatDoorLp31
import Derived.Test.YtjkenolgkkknaaaGreatDoorLp20
set_option linter.unusedVariables false
set_option linter.unusedSimpArgs false
set_option maxRecDepth 100000
set_option maxHeartbeats 8000000
/- Calls that are done, at states that are given. Conditions: none. -/
set_option linter.unusedVariables false
set_option linter.unusedSimpArgs false
namespace Go.Proofs.YtjkenolgkkknaaaGreatDoor
open Go.RowKit
set_option maxRecDepth 100000 in
set_option maxHeartbeats 2000000 in
theorem run_create (B d b : Nat) (S : PSt) (c : PCall) (r : PRes) (w : World) (h : DoAt B w d b S c r) (hB : B ≤ w.heap.size) (hf : Fine S) (hs : Small S) (hk : c.kind = 0 ∨ c.kind = 1) (hp : (parseM c.path).1 = 0) (hpl : (parseM c.path).2.length ≤ 1000000000) (hc0 : 0 ≤ c.core) (hc1 : c.core < S.made.length) :
    Calls Tryz.prog 41 #[.pointer (some ⟨d, 0, none⟩)] w (RunOut B w d b c (createM S c r)) := by
  have ht := create71 B d b S c r w h hB hf hs hp hpl hc0 hc1
  obtain ⟨iD, d1⟩ := h.kind
  generalize hR : createM S c r = R at ht ⊢
  clear h hf hp hpl hR
  rcases hk with hk | hk <;> rw [hk] at d1 <;> rcases R with k | ⟨S', r'⟩
  all_goals (go_enter Tryz.func41, Tryz.ntmps41)
  · go_wp2_with (go_at_call 71; refine ht.mono ?_; rintro e w1 ⟨hb1, hr1⟩; obtain rfl : e = thrown k := hr1)
    exact ⟨rfl, hb1, rfl⟩
  · go_wp2_with (go_at_call 71; refine ht.mono ?_; rintro e w1 ⟨hb1, hr1⟩; have hr2 : e = .returned (.tuple #[]) ∧ DoAt B w1 d b S' c r' := hr1; clear hr1; obtain ⟨rfl, hd1⟩ := hr2; have HD := Lib.hid hd1; clear hd1)
    exact bodyPost_end (v := .tuple #[]) (by simp [results, go_sem]) rfl ⟨hb1, rfl, HD.out⟩
  · go_wp2_with (go_at_call 71; refine ht.mono ?_; rintro e w1 ⟨hb1, hr1⟩; obtain rfl : e = thrown k := hr1)
    exact ⟨rfl, hb1, rfl⟩
  · go_wp2_with (go_at_call 71; refine ht.mono ?_; rintro e w1 ⟨hb1, hr1⟩; have hr2 : e = .returned (.tuple #[]) ∧ DoAt B w1 d b S' c r' := hr1; clear hr1; obtain ⟨rfl, hd1⟩ := hr2; have HD := Lib.hid hd1; clear hd1)
    exact bodyPost_end (v := .tuple #[]) (by simp [results, go_sem]) rfl ⟨hb1, rfl, HD.out⟩
theorem mayc_may {S : PSt} {c : PCall} (h : maycM S c = true) : mayM S = true ∧ 0 ≤ c.core ∧ c.core < S.made.length := by
  unfold maycM at h
  simp only [Bool.and_eq_true, decide_eq_true_eq] at h
  exact ⟨h.2, h.1.1.2, h.1.2⟩
theorem did_of {S : PSt} {c : PCall} (R : Except Int (PSt × PRes)) {S' : PSt} {r' : PRes} (hwf : S.wf) (he : doM S c R = (S', r'))
    (hrun : maycM S c = true → ∀ B ww d b, DoAt B ww d b S c PRes.zero → B ≤ ww.heap.size → Calls Tryz.prog 41 #[.pointer (some ⟨d, 0, none⟩)] ww (RunOut B ww d b c R)) : Did S c S' r' := by
  intro w iv ov mv h
  have := do20 iv ov mv S c R w h hwf hrun
  rw [he] at this
  exact this
theorem did_create {S : PSt} {c : PCall} {S' : PSt} {r' : PRes} (hwf : S.wf) (hs : Small S) (hk : c.kind = 0 ∨ c.kind = 1) (hp : (parseM c.path).1 = 0) (hpl : (parseM c.path).2.length ≤ 1000000000) (he : doM S c (createM S c PRes.zero) = (S', r')) : Did S c S' r' :=
  did_of _ hwf he fun hm B ww d b hd hB => run_create B d b S c PRes.zero ww hd hB (fine_of_may hwf (mayc_may hm).1) hs hk hp hpl (mayc_may hm).2.1 (mayc_may hm).2.2
instance (n : Int) : Decidable (I64 n) := by unfold I64; exact inferInstance
/-- Sizes and ranges, told. -/
def smallIn (x : PIn) : Bool := decide (I64 x.num ∧ x.ents.length ≤ 100000 ∧ x.data.size ≤ 1000000) && x.ents.all fun e => decide (I64 e.num)
def goodB (S : PSt) : Bool := decide (S.ins.length ≤ 257) && decide (S.op.length ≤ 1000000000) && decide (S.made.length ≤ 8) && S.ins.all smallIn && (S.op.all fun d => decide (I64 d.core ∧ I64 d.fd ∧ I64 d.num)) && S.made.all fun m => decide (0 ≤ m ∧ m ≤ 32)
theorem good_wf {S : PSt} (h : goodB S = true) : S.wf ∧ Small S ∧ ∀ x ∈ S.ins, x.data.size ≤ 1000000 := by
  unfold goodB smallIn at h
  simp only [Bool.and_eq_true, decide_eq_true_eq, List.all_eq_true] at h
  obtain ⟨⟨⟨⟨⟨h1, h2⟩, h3⟩, h4⟩, h5⟩, h6⟩ := h
  refine ⟨⟨by omega, h2, by omega, fun x hx => ?_, fun d hd => h5 d hd, fun m hm => ?_⟩, ⟨h1, fun x hx => (h4 x hx).1.2.1, h3, fun m hm => h6 m hm⟩, fun x hx => (h4 x hx).1.2.2⟩
  · obtain ⟨⟨a1, a2, a3⟩, a4⟩ := h4 x hx
    exact ⟨a1, by omega, fun e he => a4 e he⟩
  · have := h6 m hm
    unfold I64
    omega
theorem commute_one (iv ov mv : Value) {S S1 S2 S3 : PSt} {x y : PCall} {r t u v : PRes} (f : Nat) (w : World) (h : StRead w iv ov mv S) (hg : goodB S = true) (hyes : askedM S x y = true)
    (D1 : Did S x S1 r) (D2 : Did S1 y S2 t) (D3 : Did S y S3 u) (D4 : Did S3 x S2 v) (hr : r.names.length ≤ 1000000000) (ht : t.names.length ≤ 1000000000)
    (hg2 : goodB S2 = true) (hm2 : mayM S2 = true) (hok : wlkOk S2 f 1 = true) (hlen : (shapeT S2 f).length ≤ 1000000000000) (hp : Laid w.heap.size Pow10 w) :
    Calls Tryz.prog 9 #[.agg #[iv, ov, mv], x.val, y.val] w fun e w' => e = .returned (.bool (sameM r v && sameM t u)) ∧ Below w.heap.size w w' := by
  have := commute_yes iv ov mv S S1 S2 S3 S2 x y r t u v true w h (good_wf hg).1 hyes D1 D2 D3 D4 hr ht (fun _ _ ww iv ov mv iv' ov' mv' hb h1 h2 => same22 iv ov mv iv' ov' mv' S2 f ww h1 h2 (good_wf hg2).1 hm2 (good_wf hg2).2.2 hok hlen ((hp.below hb).up hb.size))
  simpa using this
theorem commute_diff (iv ov mv : Value) {S S1 S2 S3 S4 : PSt} {x y : PCall} {r t u v : PRes} (w : World) (h : StRead w iv ov mv S) (hg : goodB S = true) (hyes : askedM S x y = true)
    (D1 : Did S x S1 r) (D2 : Did S1 y S2 t) (D3 : Did S y S3 u) (D4 : Did S3 x S4 v) (hr : r.names.length ≤ 1000000000) (ht : t.names.length ≤ 1000000000) (hne : (sameM r v && sameM t u) = false) :
    Calls Tryz.prog 9 #[.agg #[iv, ov, mv], x.val, y.val] w fun e w' => e = .returned (.bool false) ∧ Below w.heap.size w w' := by
  have := commute_yes iv ov mv S S1 S2 S3 S4 x y r t u v false w h (good_wf hg).1 hyes D1 D2 D3 D4 hr ht (fun h1 h2 => by rw [h1, h2] at hne; cases hne)
  simpa using this
end Go.Proofs.YtjkenolgkkknaaaGreatDoor
