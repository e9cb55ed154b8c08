/- Two logs in one world, each in its own blocks; one call of Add, of Drop, to both. Conditions: none. -/
import Derived.Test.YtpndplbomnjioaaMerged
import Derived.Test.YtpndplbomnjioaaRefAdd
import Derived.Test.YtpndplbomnjioaaRefForm
import Derived.Test.YtpndplbomnjioaaRefNew
import Derived.Test.YtpndplbomnjioaaRefDrop
set_option linter.unusedVariables false
namespace Go.Proofs.Ytpndplbomnjioaa
open Go.RowKit
theorem RRef.mores {B : Nat} {ex : List Nat} {w : World} {L n : Nat} {rs : Nat → List Rec} {lc : Nat → Int} (h : RRef B ex w L n rs lc) : ∀ ys : List Nat, (∀ y ∈ ys, w.heap.size ≤ y) → RRef B (ys ++ ex) w L n rs lc
  | [], _ => h
  | y :: ys, hy => (RRef.mores h ys (fun z hz => hy z (List.mem_cons_of_mem _ hz))).more (hy y List.mem_cons_self)
theorem RLog.mores' {B : Nat} {ex : List Nat} {w : World} {L n : Nat} {rs : Nat → List Rec} {lc : Nat → Int} (h : RLog B ex w L n rs lc) : ∀ ys : List Nat, (∀ y ∈ ys, w.heap.size ≤ y) → RLog B (ys ++ ex) w L n rs lc
  | [], _ => h
  | y :: ys, hy => (RLog.mores' h ys (fun z hz => hy z (List.mem_cons_of_mem _ hz))).more (hy y List.mem_cons_self)
/-- The blocks that came between two worlds. -/
def fresh (w w' : World) : List Nat := List.range' w.heap.size (w'.heap.size - w.heap.size)
theorem mem_fresh {w w' : World} {b : Nat} : b ∈ fresh w w' ↔ w.heap.size ≤ b ∧ b < w'.heap.size := by
  unfold fresh
  rw [List.mem_range'_1]
  omega
structure Two (B B2 : Nat) (w : World) (L L2 n : Nat) (rs rs2 : Nat → List Rec) (lc lc2 : Nat → Int) (C1 C2 : List Nat) : Prop where
  log : RLog B C1 w L n rs lc
  ref : RRef B2 C2 w L2 n rs2 lc2
  in1 : ∀ x ∈ C1, x < w.heap.size
  in2 : ∀ x ∈ C2, x < w.heap.size
  cover : ∀ b, B ≤ b → b < w.heap.size → b ∈ C1 ∨ b ∈ C2
  b12 : B ≤ B2
  b1 : B ≤ w.heap.size
  b2 : B2 ≤ w.heap.size
namespace Two
variable {B B2 : Nat} {w w' : World} {L L2 n : Nat} {rs rs2 rs' : Nat → List Rec} {lc lc2 lc' : Nat → Int} {C1 C2 : List Nat}
theorem grow (h : Two B B2 w L L2 n rs rs2 lc lc2 C1 C2) (hb : Below w.heap.size w w') : Two B B2 w' L L2 n rs rs2 lc lc2 (fresh w w' ++ C1) (fresh w w' ++ C2) := by
  have hs := hb.size
  refine ⟨(h.log.mores' _ (fun y hy => (mem_fresh.1 hy).1)).below hb, (h.ref.mores _ (fun y hy => (mem_fresh.1 hy).1)).below hb, fun x hx => ?_, fun x hx => ?_, fun b hB' hb' => ?_, h.b12, by have := h.b1; omega, by have := h.b2; omega⟩
  · rcases List.mem_append.1 hx with hx | hx
    · exact (mem_fresh.1 hx).2
    · have := h.in1 x hx; omega
  · rcases List.mem_append.1 hx with hx | hx
    · exact (mem_fresh.1 hx).2
    · have := h.in2 x hx; omega
  · by_cases e : b < w.heap.size
    · rcases h.cover b hB' e with h1 | h1
      · exact .inl (List.mem_append_right _ h1)
      · exact .inr (List.mem_append_right _ h1)
    · exact .inl (List.mem_append_left _ (mem_fresh.2 ⟨by omega, hb'⟩))
theorem afterLog (h : Two B B2 w L L2 n rs rs2 lc lc2 C1 C2) (hk : Keep (Out B C1) w w') (hl : RLog B C1 w' L n rs' lc') : Two B B2 w' L L2 n rs' rs2 lc' lc2 C1 (fresh w w' ++ C2) := by
  have hs := hk.size
  refine ⟨hl, (h.ref.mores _ (fun y hy => (mem_fresh.1 hy).1)).keep (hk.mono (fun i hi ho => ?_)), fun x hx => by have := h.in1 x hx; omega, fun x hx => ?_, fun b hB' hb' => ?_, h.b12, by have := h.b1; omega, by have := h.b2; omega⟩
  · rcases h.cover i ho.1 hi with h1 | h1
    · exact absurd h1 ho.2
    · exact List.mem_append_right _ h1
  · rcases List.mem_append.1 hx with hx | hx
    · exact (mem_fresh.1 hx).2
    · have := h.in2 x hx; omega
  · by_cases e : b < w.heap.size
    · rcases h.cover b hB' e with h1 | h1
      · exact .inl h1
      · exact .inr (List.mem_append_right _ h1)
    · exact .inr (List.mem_append_left _ (mem_fresh.2 ⟨by omega, hb'⟩))
theorem afterRef (h : Two B B2 w L L2 n rs rs2 lc lc2 C1 C2) (hk : Keep (Out B2 C2) w w') (hl : RRef B2 C2 w' L2 n rs' lc') : Two B B2 w' L L2 n rs rs' lc lc' (fresh w w' ++ C1) C2 := by
  have hs := hk.size
  refine ⟨(h.log.mores' _ (fun y hy => (mem_fresh.1 hy).1)).keep (hk.mono (fun i hi ho => ?_)), hl, fun x hx => ?_, fun x hx => by have := h.in2 x hx; omega, fun b hB' hb' => ?_, h.b12, by have := h.b1; omega, by have := h.b2; omega⟩
  · rcases h.cover i (Nat.le_trans h.b12 ho.1) hi with h1 | h1
    · exact List.mem_append_right _ h1
    · exact absurd h1 ho.2
  · rcases List.mem_append.1 hx with hx | hx
    · exact (mem_fresh.1 hx).2
    · have := h.in1 x hx; omega
  · by_cases e : b < w.heap.size
    · rcases h.cover b hB' e with h1 | h1
      · exact .inl (List.mem_append_right _ h1)
      · exact .inr h1
    · exact .inl (List.mem_append_left _ (mem_fresh.2 ⟨by omega, hb'⟩))
end Two
/-- Two logs that were just made. -/
theorem Two.new {w w1 w2 : World} {L L2 n : Nat} {rs : Nat → List Rec} {lc : Nat → Int} (hb1 : Below w.heap.size w w1) (hb2 : Below w1.heap.size w1 w2) (h1 : RLog w.heap.size [] w1 L n rs lc) (h2 : RRef w1.heap.size [] w2 L2 n rs lc) : Two w.heap.size w1.heap.size w2 L L2 n rs rs lc lc (fresh w1 w2) (fresh w w1) := by
  have s1 := hb1.size
  have s2 := hb2.size
  obtain ⟨A, T, tc, rv, tv, h, _⟩ := h2
  refine ⟨by simpa using (h1.mores' (fresh w1 w2) (fun y hy => (mem_fresh.1 hy).1)).below hb2, ⟨A, T, tc, rv, tv, h, ?_, ?_, ?_, fun j v b hv hb => ?_⟩, fun x hx => (mem_fresh.1 hx).2, fun x hx => by have := (mem_fresh.1 hx).2; omega, fun b hB hb => ?_, s1, by omega, s2⟩
  · intro e; have := (mem_fresh.1 e).2; have := h.bL; omega
  · intro e; have := (mem_fresh.1 e).2; have := h.bA; omega
  · intro e; have := (mem_fresh.1 e).2; have := h.bT; omega
  · intro e; have := (mem_fresh.1 e).2; have := (RRef.row_lt h hv hb).2; omega
  · by_cases e : b < w1.heap.size
    · exact .inr (mem_fresh.2 ⟨hB, e⟩)
    · exact .inl (mem_fresh.2 ⟨by omega, hb⟩)
/-- The document's Add to a core that has room. -/
theorem RRef.add {B : Nat} {ex : List Nat} {w : World} {L n : Nat} {rs : Nat → List Rec} {lc : Nat → Int} (h : RRef B ex w L n rs lc) (hB : B ≤ w.heap.size) (hex : ∀ x ∈ ex, x < w.heap.size) (j : Nat) (kind fd off num : Int) (path path2 data : ByteArray) (sc sk : Int)
    (hj : j < n) (hm : (rs j).length < 256) (hk0 : 0 ≤ kind) (hk1 : kind ≤ 16) (hs : mayB sc sk = true) :
    Calls Try.prog 27 #[.pointer (some ⟨L, 0, none⟩), .agg #[.int .i64 kind, .int .i64 j, .int .i64 fd, .int .i64 off, .int .i64 num, .string path, .string path2, .string data], .agg #[.int .i64 sc, .int .i64 sk]] w fun e w' =>
      e = .returned (.tuple #[.agg #[.int .i64 (nextC (lc j) j sc sk), .int .i64 j], .int .i64 0]) ∧ Keep (Out B ex) w w' ∧
      RRef B ex w' L n (upd rs j (rs j ++ [⟨nextC (lc j) j sc sk, j, kind, j, fd, off, num, path, path2, data⟩])) (upd lc j (nextC (lc j) j sc sk)) := by
  obtain ⟨A, T, tc, rv, tv, h, x1, x2, x3, x4⟩ := h
  obtain ⟨a, cp, h1, h2, h3⟩ := h.row j hj
  refine (refadd_ok L A T n tc j kind fd off num path path2 data sc sk (lc j) j (lenOf rs j) rv tv a cp w h.hL h.hA h.hT h1 (h.t0 j hj) (h.t1 j hj) (recs (rs j)) h2 hj h.n8 hm hk0 hk1 hs).mono ?_
  rintro e w' ⟨rfl, v', g⟩
  have hT2 := g.hT
  obtain ⟨rv', tv', g1, g2⟩ := h.added hj h1 h3 hB g
  refine ⟨rfl, g.keep.mono ?_, A, T, tc, rv', tv', ?_, x1, x2, x3, ?_⟩
  · rintro i hi (rfl | rfl | e)
    · exact ⟨h.bT, x3⟩
    · exact ⟨h.bA, x2⟩
    · exact ⟨h3 i e, x4 j _ i h1 e⟩
  · have e1 : lenOf (upd rs j (rs j ++ [⟨nextC (lc j) j sc sk, j, kind, j, fd, off, num, path, path2, data⟩])) = upd (lenOf rs) j (lenOf rs j + 1) := by
      funext i
      unfold lenOf upd
      split <;> simp
    have e2 : (fun i => recs (upd rs j (rs j ++ [⟨nextC (lc j) j sc sk, j, kind, j, fd, off, num, path, path2, data⟩]) i)) = upd (fun i => recs (rs i)) j (recs (rs j) ++ [.int .i64 (nextC (lc j) j sc sk), .int .i64 j, .int .i64 kind, .int .i64 j, .int .i64 fd, .int .i64 off, .int .i64 num, .string path, .string path2, .string data]) := by
      funext i
      unfold upd
      split
      · rw [recs_add]; rfl
      · rfl
    rw [e1, e2]
    exact g1
  · intro i v b hv hb
    have hA1 := g1.hA.inj g.hA
    rw [hA1] at hv
    by_cases e : j = i
    · subst e
      rw [Array.getElem?_setIfInBounds_self_of_lt (by have := h.szA; omega)] at hv
      injection hv with hv
      subst hv
      rcases g.loc with e | ⟨k, e, hk⟩
      · exact x4 j _ b h1 (e.symm.trans hb)
      · rw [hb] at e; injection e with e
        intro hx
        have := hex b hx
        omega
    · rw [Array.getElem?_setIfInBounds_ne e] at hv
      exact x4 i v b hv hb
/-- Rows and last counts as the calls leave them. -/
structure RowsInv (rs : Nat → List Rec) (lc : Nat → Int) (n : Nat) : Prop where
  ok : RowsOk rs n
  len : ∀ j, j < n → (rs j).length ≤ 256
  last : ∀ j, j < n → ∀ (q : Nat) (r : Rec), (rs j)[q]? = some r → r.c ≤ lc j
theorem nextC_ge (c k c' k' : Int) : c ≤ nextC c k c' k' := by
  unfold nextC
  split <;> omega
theorem RowsInv.add {rs : Nat → List Rec} {lc : Nat → Int} {n j : Nat} {r0 : Rec} (H : RowsInv rs lc n) (hj : j < n) (hk : r0.k = j) (hc : lc j ≤ r0.c) (hl : (rs j).length < 256) : RowsInv (upd rs j (rs j ++ [r0])) (upd lc j r0.c) n := by
  have key : ∀ (i q : Nat) (r : Rec), i < n → (upd rs j (rs j ++ [r0]) i)[q]? = some r → (rs i)[q]? = some r ∨ (i = j ∧ q = (rs j).length ∧ r = r0) := by
    intro i q r hi hq
    unfold upd at hq
    by_cases e : i = j
    · subst e
      rw [if_pos rfl] at hq
      by_cases e2 : q < (rs i).length
      · rw [List.getElem?_append_left e2] at hq
        exact .inl hq
      · rw [List.getElem?_append_right (by omega)] at hq
        have e0 : q - (rs i).length = 0 := by
          rcases Nat.eq_zero_or_pos (q - (rs i).length) with h | h
          · exact h
          · rw [List.getElem?_eq_none (by simp; omega)] at hq
            cases hq
        rw [e0] at hq
        injection hq with hq
        exact .inr ⟨rfl, by omega, hq.symm⟩
    · rw [if_neg e] at hq
      exact .inl hq
  refine ⟨⟨fun i hi q r hq => ?_, fun i hi q q' r r' hqq hq hq' => ?_⟩, fun i hi => ?_, fun i hi q r hq => ?_⟩
  · rcases key i q r hi hq with h | ⟨rfl, _, rfl⟩
    · exact H.ok.core i hi q r h
    · exact hk
  · rcases key i q' r' hi hq' with h' | ⟨rfl, e', rfl⟩
    · rcases key i q r hi hq with h | ⟨rfl, e, rfl⟩
      · exact H.ok.mono i hi q q' r r' hqq h h'
      · have := (List.getElem?_eq_some_iff.1 h').1
        omega
    · rcases key i q r hi hq with h | ⟨_, _, rfl⟩
      · have := H.last i hi q r h
        omega
      · exact Int.le_refl _
  · unfold upd
    by_cases e : i = j
    · subst e; rw [if_pos rfl]; simp; omega
    · rw [if_neg e]; exact H.len i hi
  · rcases key i q r hi hq with h | ⟨rfl, _, rfl⟩
    · have := H.last i hi q r h
      unfold upd
      by_cases e : i = j
      · subst e; rw [if_pos rfl]; omega
      · rw [if_neg e]; exact this
    · simp [upd]
theorem rowsInv_kept {rs : Nat → List Rec} {lc : Nat → Int} {n : Nat} {uc uk : Int} (H : RowsInv rs lc n) : RowsInv (kept uc uk rs) lc n := by
  have hd : ∀ j, j < n → ∃ d, kept uc uk rs j = (rs j).drop d := fun j hj => by
    obtain ⟨d, _, h, _⟩ := drop_of_sorted (gone uc uk) (rs j) (fun q q' r r' hqq hq hq' hg => by
      have h1 := H.ok.mono j hj q q' r r' (by omega) hq hq'
      have k1 := H.ok.core j hj q r hq
      have k2 := H.ok.core j hj q' r' hq'
      unfold gone at hg ⊢
      have g1 : lessB uc uk r'.c r'.k = false := by simpa using hg
      rw [not_less] at g1
      have g2 : lessB uc uk r.c r.k = false := by rw [not_less]; omega
      simp [g2])
    exact ⟨d, h⟩
  refine ⟨⟨fun j hj q r hq => ?_, fun j hj q q' r r' hqq hq hq' => ?_⟩, fun j hj => Nat.le_trans (List.length_filter_le _ _) (H.len j hj), fun j hj q r hq => ?_⟩
  · obtain ⟨d, e⟩ := hd j hj
    rw [e, List.getElem?_drop] at hq
    exact H.ok.core j hj _ r hq
  · obtain ⟨d, e⟩ := hd j hj
    rw [e, List.getElem?_drop] at hq hq'
    exact H.ok.mono j hj _ _ r r' (by omega) hq hq'
  · obtain ⟨d, e⟩ := hd j hj
    rw [e, List.getElem?_drop] at hq
    exact H.last j hj _ r hq
/-- Add, with any arguments, answers alike of both. -/
theorem add_two {rs : Nat → List Rec} {lc : Nat → Int} {n : Nat} (H : RowsInv rs lc n) (kind core fd off num : Int) (path path2 data : ByteArray) (sc sk : Int) :
    ∃ (c k code : Int) (rs' : Nat → List Rec) (lc' : Nat → Int), RowsInv rs' lc' n ∧
      (∀ (B : Nat) (ex : List Nat) (w : World) (L : Nat), RLog B ex w L n rs lc → B ≤ w.heap.size → (∀ x ∈ ex, x < w.heap.size) →
        Calls Try.prog 21 #[.pointer (some ⟨L, 0, none⟩), .agg #[.int .i64 kind, .int .i64 core, .int .i64 fd, .int .i64 off, .int .i64 num, .string path, .string path2, .string data], .agg #[.int .i64 sc, .int .i64 sk]] w fun e w' => e = .returned (.tuple #[.agg #[.int .i64 c, .int .i64 k], .int .i64 code]) ∧ Keep (Out B ex) w w' ∧ RLog B ex w' L n rs' lc') ∧
      (∀ (B : Nat) (ex : List Nat) (w : World) (L : Nat), RRef B ex w L n rs lc → B ≤ w.heap.size → (∀ x ∈ ex, x < w.heap.size) →
        Calls Try.prog 27 #[.pointer (some ⟨L, 0, none⟩), .agg #[.int .i64 kind, .int .i64 core, .int .i64 fd, .int .i64 off, .int .i64 num, .string path, .string path2, .string data], .agg #[.int .i64 sc, .int .i64 sk]] w fun e w' => e = .returned (.tuple #[.agg #[.int .i64 c, .int .i64 k], .int .i64 code]) ∧ Keep (Out B ex) w w' ∧ RRef B ex w' L n rs' lc') := by
  by_cases hf : kind < 0 ∨ 16 < kind ∨ ¬ (0 ≤ core ∧ core < n) ∨ mayB sc sk = false
  · refine ⟨0, 0, 1700, rs, lc, H, fun B ex w L h hB hex => ?_, fun B ex w L h hB hex => ?_⟩
    · exact (h.refused kind core fd off num path path2 data sc sk hf).mono fun e w' ⟨he, hb⟩ => ⟨he, Keep.of_below hb _, h.below hb⟩
    · obtain ⟨A, T, tc, rv, tv, h', _⟩ := id h
      exact (refadd_form L A n kind core fd off num path path2 data sc sk w (by have := h'.hL.cell 0; simpa using this) h'.hL.lt hf).mono fun e w' ⟨he, hb⟩ => ⟨he, Keep.of_below hb _, h.below hb⟩
  · have hk0 : 0 ≤ kind := by
      rcases Int.lt_or_le kind 0 with h | h
      · exact absurd (.inl h) hf
      · exact h
    have hk1 : kind ≤ 16 := by
      rcases Int.lt_or_le 16 kind with h | h
      · exact absurd (.inr (.inl h)) hf
      · exact h
    have hc : 0 ≤ core ∧ core < n := by
      rcases Decidable.em (0 ≤ core ∧ core < n) with h | h
      · exact h
      · exact absurd (.inr (.inr (.inl h))) hf
    have hs : mayB sc sk = true := by
      rcases h : mayB sc sk with _ | _
      · exact absurd (.inr (.inr (.inr h))) hf
      · rfl
    obtain ⟨j, rfl⟩ : ∃ j : Nat, core = j := ⟨core.toNat, by omega⟩
    have hj : j < n := by omega
    by_cases hm : 256 ≤ (rs j).length
    · refine ⟨0, 0, 1701, rs, lc, H, fun B ex w L h hB hex => ?_, fun B ex w L h hB hex => ?_⟩
      · exact (h.full j kind fd off num path path2 data sc sk hj hm hk0 hk1 hs).mono fun e w' ⟨he, hb⟩ => ⟨he, Keep.of_below hb _, h.below hb⟩
      · obtain ⟨A, T, tc, rv, tv, h', _⟩ := id h
        obtain ⟨a, cp, h1, _, _⟩ := h'.row j hj
        exact (refadd_full L A n j kind fd off num path path2 data sc sk a _ cp w (by have := h'.hL.cell 0; simpa using this) h'.hL.lt (by rw [h'.hA.cell j]; exact h1) h'.hA.lt hj h'.n8 hm hk0 hk1 hs).mono fun e w' ⟨he, hb⟩ => ⟨he, Keep.of_below hb _, h.below hb⟩
    · exact ⟨_, _, _, _, _, H.add (r0 := ⟨nextC (lc j) j sc sk, j, kind, j, fd, off, num, path, path2, data⟩) hj rfl (nextC_ge _ _ _ _) (by omega), fun B ex w L h hB hex => h.add hB hex j kind fd off num path path2 data sc sk hj (by omega) hk0 hk1 hs, fun B ex w L h hB hex => h.add hB hex j kind fd off num path path2 data sc sk hj (by omega) hk0 hk1 hs⟩
end Go.Proofs.Ytpndplbomnjioaa
