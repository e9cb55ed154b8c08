/- Part of the proof of a law of chapter 15. Conditions: none. -/
import Derived.Test.YtmkapobnfigedaaGreatDoorDp30
set_option linter.unusedVariables false
set_option linter.unusedSimpArgs false
set_option maxRecDepth 100000
set_option maxHeartbeats 8000000
namespace Go.Proofs.YtmkapobnfigedaaGreatDoor
open Go.RowKit
def PathOk (p : ByteArray) : Prop := (parseM p).1 = 0 ∧ (parseM p).2 ≠ []
structure GatherOk (S : PSt) (c : PCall) : Prop where
 may : mayM S = true
 core : 0 ≤ c.core ∧ c.core < S.made.length
 kind : 0 ≤ c.kind ∧ c.kind ≤ 16
 path : (c.kind = 0 ∨ c.kind = 1 ∨ c.kind = 2 ∨ c.kind = 8 ∨ c.kind = 9 ∨ c.kind = 10 ∨ c.kind = 11) → PathOk c.path
 path2 : (c.kind = 8 ∨ c.kind = 11) → PathOk c.path2
 fd : (c.kind = 3 ∨ c.kind = 5 ∨ c.kind = 6) → 0 ≤ idxM (isFd c) S.op
theorem codeM_ne {c : Int} (h : c ≠ 0) : codeM c ≠ 0 := by
 unfold codeM
 rw [if_neg h]
 split <;> decide
theorem parentM_ne {S : PSt} {ns : List ByteArray} {k : Int} (h : parentM S ns = .error k) : k ≠ 0 := by
 unfold parentM at h
 split at h
 · cases h; decide
 split at h
 · rename_i hc; cases h; exact hc
 split at h
 · split at h
   · cases h
   · cases h; decide
 · cases h; decide
theorem parentM_cons {S : PSt} {ns : List ByteArray} {x : Nat × ByteArray} (h : parentM S ns = .ok x) : ns ≠ [] := by
 intro e
 subst e
 cases h
theorem parentM_some {S : PSt} {ns : List ByteArray} {K : Nat} {l : ByteArray} (h : parentM S ns = .ok (K, l)) : ∃ x, S.ins[K]? = some x ∧ x.dir = true := by
 unfold parentM at h
 split at h
 · cases h
 split at h
 · cases h
 split at h
 · rename_i x hx
   split at h
   · rename_i hd
     simp only [Except.ok.injEq, Prod.mk.injEq] at h; rw [← h.1]; exact ⟨x, hx, hd⟩
   · cases h
 · cases h
theorem parX_path {S : PSt} {s : ByteArray} {x : Nat × ByteArray} (h : parX S s = .ok x) : PathOk s := by
 unfold parX at h
 split at h
 · cases h
 · rename_i hp
   exact ⟨Decidable.of_not_not hp, parentM_cons h⟩
theorem parX_ne {S : PSt} {s : ByteArray} {k : Int} (h : parX S s = .error k) : k ≠ 0 := by
 unfold parX at h
 split at h
 · rename_i hp
   cases h; exact codeM_ne hp
 · exact parentM_ne h
theorem atX_ne {S : PSt} {s : ByteArray} {k : Int} (h : atX S s = .error k) : k ≠ 0 := by
 unfold atX at h
 split at h
 · rename_i hp
   cases h; exact codeM_ne hp
 split at h
 · rename_i hp
   cases h; exact hp
 · cases h
theorem root_dir {S : PSt} (hm : mayM S = true) : ∃ x, S.ins[0]? = some x ∧ x.num = 1 ∧ x.dir = true := by
 unfold mayM at hm
 split at hm
 rotate_left
 · cases hm
 rename_i h1
 simp only [Bool.and_eq_true] at h1
 obtain ⟨⟨-, hins⟩, -⟩ := h1
 unfold mayInsM at hins
 rcases e : S.ins with _ | ⟨x0, r⟩
 · rw [e] at hins; cases hins
 rw [e] at hins
 simp only at hins
 split at hins
 rotate_left
 · cases hins
 rename_i h2
 refine ⟨x0, rfl, ?_, ?_⟩
 · simp_all
 · simp_all
theorem fileX_fd {S : PSt} {c : PCall} {y : Nat × PIn} (h : fileX S c = some y) : 0 ≤ idxM (isFd c) S.op := by
 unfold fileX at h
 split at h
 · cases h
 · omega
theorem doX_ok {S : PSt} {c : PCall} (h : (doX S c).2.code = 0) : maycM S c = true ∧ ((∃ y, runX S c = .ok y ∧ doX S c = y) ∨ (runX S c = .error 0 ∧ (doX S c).1 = S)) := by
 unfold doX doM at h ⊢
 split at h
 rotate_left
 · cases h
 rename_i hm
 refine ⟨hm, ?_⟩
 rw [if_pos hm]
 split at h
 · rename_i y e
   exact .inl ⟨y, e, rfl⟩
 · rename_i k e
   have hk : k = 0 := h; subst hk; exact .inr ⟨e, rfl⟩
theorem hit_some {es : List PEnt} {s : ByteArray} (h : hitE es s = true) : ∃ e, es[bsE es s]? = some e := ⟨_, gE (hitE_lt h)⟩
theorem run_path {S : PSt} {c : PCall} (hm : mayM S = true) (h : runX S c ≠ .error 0 → ∀ k, runX S c ≠ .error k) (hk : c.kind = 0 ∨ c.kind = 1 ∨ c.kind = 2 ∨ c.kind = 8 ∨ c.kind = 9 ∨ c.kind = 10 ∨ c.kind = 11) : PathOk c.path := by
 have key : ∀ k, k ≠ 0 → runX S c = .error k → False := fun k h0 e => by
  refine h ?_ k e; rw [e]; intro e2; cases e2; exact h0 rfl
 unfold runX at key
 by_cases k1 : c.kind = 0 ∨ c.kind = 1
 · rw [if_pos k1] at key; unfold createX createM at key; by_cases hp : (parseM c.path).1 = 0
   · refine ⟨hp, fun e => ?_⟩; rw [if_neg (by simpa using hp), e] at key; exact key 9 (by decide) rfl
   · rw [if_pos hp] at key; exact (key _ (codeM_ne hp) rfl).elim
 rw [if_neg k1] at key
 by_cases k2 : c.kind = 2
 · rw [if_pos k2] at key; unfold openX openDo at key; by_cases hp : (parseM c.path).1 = 0
   · refine ⟨hp, fun e => ?_⟩; rw [if_neg (by simpa using hp), e] at key; obtain ⟨x0, h0, -, h2⟩ := root_dir hm; rw [if_neg (by unfold walkM; simp)] at key; have h3 : S.ins[(walkM S 0 []).1]? = some x0 := h0; rw [h3] at key; simp only [h2, if_true] at key; exact key 8 (by decide) rfl
   · rw [if_pos hp] at key; exact (key _ (codeM_ne hp) rfl).elim
 rw [if_neg k2, if_neg (by omega), if_neg (by omega), if_neg (by omega)] at key
 by_cases k8 : c.kind = 8
 · rw [if_pos k8] at key; unfold linkX at key; rcases ha : atX S c.path with k | K
   · rw [ha] at key; exact (key k (atX_ne ha) rfl).elim
   rw [ha] at key; simp only at key; have hp : (parseM c.path).1 = 0 := by
    unfold atX at ha
    split at ha
    · cases ha
    · rename_i hp; exact Decidable.of_not_not hp
   refine ⟨hp, fun e => ?_⟩; unfold atX at ha; rw [e, if_neg (by simpa using hp), if_neg (by unfold walkM; simp)] at ha; obtain ⟨x0, h0, -, h2⟩ := root_dir hm; cases ha; have h3 : S.ins[(walkM S 0 []).1]? = some x0 := h0; rw [h3] at key; simp only [h2, if_true] at key; exact key 8 (by decide) rfl
 rw [if_neg k8] at key
 by_cases k9 : c.kind = 9 ∨ c.kind = 10
 · rw [if_pos k9] at key; unfold removeM at key; rcases ha : parX S c.path with k | y
   · rw [ha] at key; exact (key k (parX_ne ha) rfl).elim
   · exact parX_path ha
 rw [if_neg k9, if_pos (by omega)] at key
 unfold renameX renameM at key
 by_cases hp : (parseM c.path).1 = 0
 · refine ⟨hp, fun e => ?_⟩; rw [if_neg (by simpa using hp), e] at key; by_cases hp2 : (parseM c.path2).1 = 0
   · rw [if_pos hp2] at key; exact key 9 (by decide) rfl
   · rw [if_neg hp2] at key; unfold renBad at key; rw [e] at key; exact key 9 (by decide) rfl
 · rw [if_pos hp] at key; exact (key _ (codeM_ne hp) rfl).elim
theorem run_path2 {S : PSt} {c : PCall} (hwf : S.wf) (hm : mayM S = true) (h : runX S c ≠ .error 0 → ∀ k, runX S c ≠ .error k) (hk : c.kind = 8 ∨ c.kind = 11) (hpo : PathOk c.path) : PathOk c.path2 := by
 have key : ∀ k, k ≠ 0 → runX S c = .error k → False := fun k h0 e => by
  refine h ?_ k e; rw [e]; intro e2; cases e2; exact h0 rfl
 unfold runX at key
 rw [if_neg (by omega), if_neg (by omega), if_neg (by omega), if_neg (by omega), if_neg (by omega)] at key
 by_cases k8 : c.kind = 8
 · rw [if_pos k8] at key; unfold linkX at key; rcases ha : atX S c.path with k | K
   · rw [ha] at key; exact (key k (atX_ne ha) rfl).elim
   rw [ha] at key; simp only at key; rcases hx : S.ins[K]? with _ | x
   · exfalso; obtain ⟨x, hx2⟩ := atX_ok (fine_of_may hwf hm) ha; rw [hx] at hx2; cases hx2
   rw [hx] at key; simp only at key; by_cases hd : x.dir = true
   · rw [if_pos hd] at key; exact (key 8 (by decide) rfl).elim
   rw [if_neg hd] at key; rcases hq : parX S c.path2 with k | y
   · rw [hq] at key; exact (key k (parX_ne hq) rfl).elim
   · exact parX_path hq
 rw [if_neg k8, if_neg (by omega), if_pos (by omega)] at key
 unfold renameX renameM at key
 rw [if_neg (by simpa using hpo.1)] at key
 rcases ha : parentM S (parseM c.path).2 with k | ⟨K, s⟩
 · rw [ha] at key; by_cases hp2 : (parseM c.path2).1 = 0
   · rw [if_pos hp2] at key; exact (key k (parentM_ne ha) rfl).elim
   · rw [if_neg hp2] at key; unfold renBad at key; rw [ha] at key; exact (key k (parentM_ne ha) rfl).elim
 obtain ⟨x, hx, hxd⟩ := parentM_some ha
 unfold renBad at key
 rw [ha] at key
 simp only [hx] at key
 by_cases hp2 : (parseM c.path2).1 = 0
 · refine ⟨hp2, fun e => ?_⟩; rw [if_pos hp2, e] at key; unfold renFrom at key; rcases hh : hitE x.ents s with _ | _
   · rw [if_pos hh] at key; exact key 1 (by decide) rfl
   rw [if_neg (by rw [hh]; decide)] at key; obtain ⟨en, hen⟩ := hit_some hh; rw [hen] at key; exact key 9 (by decide) rfl
 · rw [if_neg hp2] at key; exfalso; rcases hh : hitE x.ents s with _ | _
   · rw [hh] at key; exact key 1 (by decide) rfl
   · rw [if_neg (by rw [hh]; decide)] at key; exact key _ (codeM_ne hp2) rfl
theorem run_fd {S : PSt} {c : PCall} (h : runX S c ≠ .error 0 → ∀ k, runX S c ≠ .error k) (hk : c.kind = 3 ∨ c.kind = 5 ∨ c.kind = 6) : 0 ≤ idxM (isFd c) S.op := by
 have key : ∀ k, k ≠ 0 → runX S c = .error k → False := fun k h0 e => by
  refine h ?_ k e; rw [e]; intro e2; cases e2; exact h0 rfl
 unfold runX at key
 rw [if_neg (by omega), if_neg (by omega)] at key
 rcases hf : fileX S c with _ | y
 · exfalso; rcases hk with hk | hk | hk
   · rw [if_pos hk] at key; unfold closeA at key; rw [hf] at key; exact key 4 (by decide) rfl
   · rw [if_neg (by omega), if_pos hk] at key; unfold writeX at key; rw [hf] at key; exact key 4 (by decide) rfl
   · rw [if_neg (by omega), if_neg (by omega), if_pos hk] at key; unfold truncM at key; rw [hf] at key; exact key 4 (by decide) rfl
 · exact fileX_fd hf
theorem gather_ok {S : PSt} {c : PCall} (hwf : S.wf) (h : (doX S c).2.code = 0) : GatherOk S c := by
 obtain ⟨hm, hr⟩ := doX_ok h
 obtain ⟨hmay, h0, h1⟩ := mayc_may hm
 have hk : 0 ≤ c.kind ∧ c.kind ≤ 16 := by
  unfold maycM at hm; simp only [Bool.and_eq_true, decide_eq_true_eq] at hm; exact ⟨hm.1.1.1.1, hm.1.1.1.2⟩
 have hq : runX S c ≠ .error 0 → ∀ k, runX S c ≠ .error k := fun h0 k e => by
  rcases hr with ⟨y, e2, -⟩ | ⟨e2, -⟩
  · rw [e2] at e; cases e
  · exact h0 e2
 exact ⟨hmay, ⟨h0, h1⟩, hk, fun k => run_path hmay hq k, fun k => run_path2 hwf hmay hq k (run_path hmay hq (by omega)), fun k => run_fd hq k⟩
end Go.Proofs.YtmkapobnfigedaaGreatDoor
