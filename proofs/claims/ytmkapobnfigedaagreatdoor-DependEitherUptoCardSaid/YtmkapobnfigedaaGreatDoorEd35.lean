/- The state behind a call is of a fit size. Conditions: none. -/
import Derived.Test.YtmkapobnfigedaaGreatDoorEd34
set_option linter.unusedVariables false
set_option linter.unusedSimpArgs false
namespace Go.Proofs.YtmkapobnfigedaaGreatDoor
open Go.RowKit
/-- Sizes and ranges, with room for one more. -/
def PSt.wfn (n : Nat) (S : PSt) : Prop :=
  S.ins.length ≤ n ∧ S.op.length ≤ n ∧ S.made.length ≤ n ∧ (∀ x ∈ S.ins, I64 x.num ∧ x.ents.length ≤ n ∧ ∀ e ∈ x.ents, I64 e.num) ∧ (∀ d ∈ S.op, I64 d.core ∧ I64 d.fd ∧ I64 d.num) ∧ ∀ m ∈ S.made, I64 m
theorem PSt.wfn.wf {n : Nat} {S : PSt} (h : S.wfn n) (hn : n ≤ 1000000000) : S.wf := by
  obtain ⟨h1, h2, h3, h4, h5, h6⟩ := h
  exact ⟨by omega, by omega, by omega, fun x hx => ⟨(h4 x hx).1, by have := (h4 x hx).2.1; omega, (h4 x hx).2.2⟩, h5, h6⟩
theorem PSt.wfn.mono {n m : Nat} {S : PSt} (h : S.wfn n) (hn : n ≤ m) : S.wfn m := by
  obtain ⟨h1, h2, h3, h4, h5, h6⟩ := h
  exact ⟨by omega, by omega, by omega, fun x hx => ⟨(h4 x hx).1, by have := (h4 x hx).2.1; omega, (h4 x hx).2.2⟩, h5, h6⟩
theorem insAt_mem {α : Type} {l : List α} {i : Nat} {x y : α} (h : y ∈ insAt l i x) : y = x ∨ y ∈ l := by
  unfold insAt at h
  rcases List.mem_append.1 h with h | h
  · exact .inr (List.mem_of_mem_take h)
  · rcases List.mem_cons.1 h with h | h
    · exact .inl h
    · exact .inr (List.mem_of_mem_drop h)
theorem delAt_mem {α : Type} {l : List α} {i : Nat} {y : α} (h : y ∈ delAt l i) : y ∈ l := by
  unfold delAt at h
  rcases List.mem_append.1 h with h | h
  · exact List.mem_of_mem_take h
  · exact List.mem_of_mem_drop h
theorem insAt_len2 {α : Type} (l : List α) (i : Nat) (x : α) : (insAt l i x).length = l.length + 1 := by
  unfold insAt
  rw [List.length_append, List.length_cons, List.length_take, List.length_drop]
  omega
theorem delAt_le {α : Type} (l : List α) (i : Nat) : (delAt l i).length ≤ l.length := by
  unfold delAt
  rw [List.length_append, List.length_take, List.length_drop]
  omega
theorem wfn_ents {n : Nat} {S : PSt} (h : S.wfn n) {K : Nat} {x : PIn} (hx : S.ins[K]? = some x) {es : List PEnt} (hl : es.length ≤ n) (he : ∀ e ∈ es, I64 e.num) : (S.ents K x es).wfn n := by
  obtain ⟨h1, h2, h3, h4, h5, h6⟩ := h
  refine ⟨by unfold PSt.ents; rw [List.length_set]; exact h1, h2, h3, fun y hy => ?_, h5, h6⟩
  unfold PSt.ents at hy
  rcases List.mem_or_eq_of_mem_set hy with hy | rfl
  · exact h4 y hy
  · exact ⟨(h4 x (List.mem_of_getElem? hx)).1, hl, he⟩
theorem wfn_ins {n : Nat} {S : PSt} (h : S.wfn n) {es : List PIn} (hl : es.length ≤ n) (he : ∀ x ∈ es, x ∈ S.ins) : ({ S with ins := es } : PSt).wfn n := by
  obtain ⟨h1, h2, h3, h4, h5, h6⟩ := h
  exact ⟨hl, h2, h3, fun y hy => h4 y (he y hy), h5, h6⟩
theorem wfn_op {n : Nat} {S : PSt} (h : S.wfn n) {es : List PDesc} (hl : es.length ≤ n) (he : ∀ d ∈ es, I64 d.core ∧ I64 d.fd ∧ I64 d.num) : ({ S with op := es } : PSt).wfn n := by
  obtain ⟨h1, h2, h3, h4, h5, h6⟩ := h
  exact ⟨h1, hl, h3, h4, he, h6⟩
theorem wfn_tidy {n : Nat} {S : PSt} (h : S.wfn n) (num : Int) : (tidyM S num).wfn n := by
  unfold tidyM
  split
  · exact h
  split
  · exact wfn_ins h (Nat.le_trans (delAt_le _ _) h.1) (fun x hx => delAt_mem hx)
  · exact h
theorem wfn_data {n : Nat} {S : PSt} (h : S.wfn n) {K : Nat} {x : PIn} (hx : x ∈ S.ins) (d : ByteArray) : ({ S with ins := S.ins.set K { x with data := d } } : PSt).wfn n := by
  obtain ⟨h1, h2, h3, h4, h5, h6⟩ := h
  refine ⟨by rw [List.length_set]; exact h1, h2, h3, fun y hy => ?_, h5, h6⟩
  rcases List.mem_or_eq_of_mem_set hy with hy | rfl
  · exact h4 y hy
  · exact h4 x hx
theorem look_same {S S' : PSt} {c : PCall} {r : PRes} (h : lookM S c = .ok (S', r)) : S' = S := by
  unfold lookM readM sizeM listM statM countM at h
  repeat' (split at h)
  all_goals first | (cases h; rfl) | cases h | skip
theorem fsync_same {S S' : PSt} {c : PCall} {r r' : PRes} (h : fsyncM S c r = .ok (S', r')) : S' = S := by
  unfold fsyncM at h
  split at h
  · cases h
  · cases h; rfl
theorem may_wfn {S : PSt} (hwf : S.wf) (hm : mayM S = true) : S.wfn 300 ∧ S.made.length ≤ 8 ∧ (∀ m ∈ S.made, 0 ≤ m ∧ m ≤ 32) := by
  have T := tree_of_may hwf hm
  have B := may_bounds hwf hm
  have hm' := hm
  unfold mayM at hm'
  split at hm'
  · rename_i h1
    simp only [Bool.and_eq_true] at h1
    obtain ⟨⟨hmd, _⟩, hop⟩ := h1
    unfold mayMadeM at hmd
    simp only [Bool.and_eq_true, Bool.not_eq_true', Bool.or_eq_false_iff, decide_eq_false_iff_not] at hmd
    obtain ⟨⟨m1, m8⟩, hall⟩ := hmd
    have hmm : ∀ m ∈ S.made, 0 ≤ m ∧ m ≤ 32 := fun m hm => by
      have := List.any_eq_false.1 hall m hm
      unfold badMade at this
      simp at this
      omega
    have hop := B.op
    have hsm := T.small
    refine ⟨⟨by omega, by omega, by omega, fun x hx => ⟨(hwf.2.2.2.1 x hx).1, by have := T.many x hx; omega, (hwf.2.2.2.1 x hx).2.2⟩, hwf.2.2.2.2.1, hwf.2.2.2.2.2⟩, by omega, hmm⟩
  · cases hm'
set_option maxHeartbeats 2000000 in
theorem run_wfn {S S' : PSt} {c : PCall} {r : PRes} (hwf : S.wf) (hm : maycM S c = true) (h : runX S c = .ok (S', r)) : S'.wfn 303 := by
  obtain ⟨hmay, hc0, hc1⟩ := mayc_may hm
  obtain ⟨hw, hm8, hmm⟩ := may_wfn hwf hmay
  have hwk := hw.mono (show 300 ≤ 303 by omega)
  have hent := hw.2.2.2.1
  unfold runX at h
  by_cases k1 : c.kind = 0 ∨ c.kind = 1
  · rw [if_pos k1] at h
    unfold createX at h
    split at h
    · cases h
    unfold createM at h
    rcases hp : parentM S (parseM c.path).2 with k | ⟨K, l⟩
    · rw [hp] at h; cases h
    rw [hp] at h
    simp only at h
    rcases hx : S.ins[K]? with _ | x
    · rw [hx] at h; cases h
    rw [hx] at h
    simp only at h
    split at h
    · cases h
    rcases hmd : S.made[c.core.toNat]? with _ | m
    · rw [hmd] at h; cases h
    rw [hmd] at h
    simp only at h
    split at h
    · cases h
    cases h
    have hmr := hmm m (List.mem_of_getElem? hmd)
    have hxl := hent x (List.mem_of_getElem? hx)
    have hnum : I64 (2 + c.core + 8 * m) := by unfold I64; omega
    have h1 : (S.ents K x (insAt x.ents (bsE x.ents l) ⟨l, 2 + c.core + 8 * m⟩)).wfn 303 := wfn_ents hwk hx (Nat.le_trans (Nat.le_of_eq (insAt_len2 _ _ _)) (by have := hxl.2.1; omega)) (fun e he => by
      rcases insAt_mem he with rfl | he
      · exact hnum
      · exact hxl.2.2 e he)
    obtain ⟨a1, a2, a3, a4, a5, a6⟩ := h1
    refine ⟨?_, a2, ?_, ?_, a5, ?_⟩
    · show (insAt _ _ _).length ≤ 303
      rw [insAt_len2]
      show (S.ins.set _ _).length + 1 ≤ 303
      rw [List.length_set]
      have := hw.1
      omega
    · show (S.made.set _ _).length ≤ 303
      rw [List.length_set]; omega
    · intro y hy
      rcases insAt_mem hy with rfl | hy
      · exact ⟨hnum, by simp, by simp⟩
      · exact a4 y hy
    · intro y hy
      rcases List.mem_or_eq_of_mem_set hy with hy | rfl
      · exact a6 y hy
      · unfold I64; omega
  rw [if_neg k1] at h
  by_cases k2 : c.kind = 2
  · rw [if_pos k2] at h
    unfold openX openDo at h
    repeat' (split at h)
    all_goals first | (cases h; done) | skip
    · cases h; exact hwk
    · rename_i x hx _ hfd
      cases h
      have hxl := hent x (List.mem_of_getElem? hx)
      refine wfn_op hwk ?_ fun d hd => ?_
      · show (insD S.op _ _).length ≤ 303
        unfold insD
        rw [List.length_append, List.length_cons, List.length_take, List.length_drop]
        have := (may_bounds hwf hmay).op
        omega
      · have hd' : d ∈ insAt S.op (openF c.core S.op 0 0 0).2 ⟨c.core, (openF c.core S.op 0 0 0).1, x.num⟩ := hd
        rcases insAt_mem hd' with rfl | hd
        · exact ⟨by show I64 c.core; unfold I64; omega, by show I64 ((openF c.core S.op 0 0 0).1 : Int); unfold I64; omega, hxl.1⟩
        · exact hwk.2.2.2.2.1 d hd
  rw [if_neg k2] at h
  by_cases k3 : c.kind = 3
  · rw [if_pos k3] at h
    unfold closeA at h
    split at h
    · cases h
    · cases h
      exact wfn_tidy (wfn_op hwk (Nat.le_trans (delAt_le _ _) hwk.2.1) fun d hd => hwk.2.2.2.2.1 d (delAt_mem hd)) _
  rw [if_neg k3] at h
  by_cases k5 : c.kind = 5
  · rw [if_pos k5] at h
    unfold writeX at h
    repeat' (split at h)
    all_goals first | (cases h; done) | skip
    rename_i y hy _ _
    cases h
    exact wfn_data hwk (List.mem_of_getElem? (fileX_at (K := y.1) (x := y.2) hy).1) _
  rw [if_neg k5] at h
  by_cases k6 : c.kind = 6
  · rw [if_pos k6] at h
    unfold truncM at h
    repeat' (split at h)
    all_goals first | (cases h; done) | skip
    rename_i y hy _
    cases h
    exact wfn_data hwk (List.mem_of_getElem? (fileX_at (K := y.1) (x := y.2) hy).1) _
  rw [if_neg k6] at h
  by_cases k8 : c.kind = 8
  · rw [if_pos k8] at h
    unfold linkX at h
    rcases hp : atX S c.path with k | K
    · rw [hp] at h; cases h
    rw [hp] at h
    simp only at h
    rcases hx : S.ins[K]? with _ | x
    · rw [hx] at h; cases h
    rw [hx] at h
    simp only at h
    split at h
    · cases h
    rcases hp2 : parX S c.path2 with k | ⟨K2, l⟩
    · rw [hp2] at h; cases h
    rw [hp2] at h
    simp only at h
    unfold linkM2 at h
    rcases hy : S.ins[K2]? with _ | y
    · rw [hy] at h; cases h
    rw [hy] at h
    simp only at h
    split at h
    · cases h
    split at h
    · cases h
    cases h
    have hxl := hent x (List.mem_of_getElem? hx)
    have hyl := hent y (List.mem_of_getElem? hy)
    exact wfn_ents hwk hy (Nat.le_trans (Nat.le_of_eq (insAt_len2 _ _ _)) (by have := hyl.2.1; omega)) (fun e he => by
      rcases insAt_mem he with rfl | he
      · exact hxl.1
      · exact hyl.2.2 e he)
  rw [if_neg k8] at h
  by_cases k9 : c.kind = 9 ∨ c.kind = 10
  · rw [if_pos k9] at h
    unfold removeM at h
    rcases hp : parX S c.path with k | ⟨K, l⟩
    · rw [hp] at h; cases h
    rw [hp] at h
    simp only at h
    rcases hx : S.ins[K]? with _ | x
    · rw [hx] at h; cases h
    rw [hx] at h
    simp only at h
    split at h
    · cases h
    rcases he : x.ents[bsE x.ents l]? with _ | e
    · rw [he] at h; cases h
    rw [he] at h
    simp only at h
    have hxl := hent x (List.mem_of_getElem? hx)
    have h1 : (S.ents K x (delAt x.ents (bsE x.ents l))).wfn 303 := wfn_ents hwk hx (Nat.le_trans (delAt_le _ _) (by have := hxl.2.1; omega)) fun e he => hxl.2.2 e (delAt_mem he)
    unfold rem1 at h
    repeat' (split at h)
    all_goals first | (cases h; done) | skip
    · cases h; exact wfn_tidy h1 _
    · cases h; exact wfn_ins h1 (Nat.le_trans (delAt_le _ _) h1.1) (fun x hx => delAt_mem hx)
  rw [if_neg k9] at h
  by_cases k11 : c.kind = 11
  · rw [if_pos k11] at h
    unfold renameX at h
    split at h
    · cases h
    split at h
    rotate_left
    · cases h
    unfold renameM at h
    rcases hp : parentM S (parseM c.path).2 with k | ⟨K1, l⟩
    · rw [hp] at h; cases h
    rw [hp] at h
    simp only at h
    rcases hx : S.ins[K1]? with _ | x
    · rw [hx] at h; cases h
    rw [hx] at h
    simp only at h
    unfold renFrom at h
    split at h
    · cases h
    rcases he : x.ents[bsE x.ents l]? with _ | e
    · rw [he] at h; cases h
    rw [he] at h
    simp only at h
    rcases hp2 : parentM S (parseM c.path2).2 with k | ⟨K2, t⟩
    · rw [hp2] at h; cases h
    rw [hp2] at h
    simp only at h
    split at h
    · cases h
    unfold renTo at h
    rcases hx2 : S.ins[K2]? with _ | x2
    · rw [hx2] at h; cases h
    rw [hx2] at h
    simp only at h
    split at h
    · cases h
    generalize fullM x2.ents t (if x.num = x2.num then l else { data := #[] }) = fb at h
    rcases fb with _ | _
    rotate_left
    · cases h
    simp only [Bool.false_eq_true, if_false] at h
    unfold renEnd at h
    have hxl := hent x (List.mem_of_getElem? hx)
    have hw1 : (S.ents K1 x (delAt x.ents (bsE x.ents l))).wfn 300 := wfn_ents hw hx (Nat.le_trans (delAt_le _ _) hxl.2.1) fun e he => hxl.2.2 e (delAt_mem he)
    rcases hy : (S.ents K1 x (delAt x.ents (bsE x.ents l))).ins[K2]? with _ | y
    · rw [hy] at h; cases h
    rw [hy] at h
    cases h
    have hyl := hw1.2.2.2.1 y (List.mem_of_getElem? hy)
    have hel := hxl.2.2 e (List.mem_of_getElem? he)
    exact wfn_ents (hw1.mono (by omega)) hy (by rw [insAt_len2]; have := hyl.2.1; omega) (fun e' he' => by
      rcases insAt_mem he' with rfl | he'
      · exact hel
      · exact hyl.2.2 e' he')
  rw [if_neg k11] at h
  by_cases k15 : c.kind = 15
  · rw [if_pos k15] at h
    rw [fsync_same h]; exact hwk
  rw [if_neg k15] at h
  by_cases k16 : c.kind = 16
  · rw [if_pos k16] at h
    cases h; exact hwk
  rw [if_neg k16] at h
  rw [look_same h]
  exact hwk
theorem doX_wf {S : PSt} {c : PCall} (hwf : S.wf) : (doX S c).1.wf := by
  unfold doX doM
  split
  · rename_i hm
    split
    · rename_i y e
      exact (run_wfn (S' := y.1) (r := y.2) hwf hm e).wf (by omega)
    · exact hwf
  · exact hwf
end Go.Proofs.YtmkapobnfigedaaGreatDoor
