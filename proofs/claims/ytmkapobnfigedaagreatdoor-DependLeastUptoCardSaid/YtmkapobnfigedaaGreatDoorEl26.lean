/- What create does to a state of the call's own. Conditions: none. -/
import Derived.Test.YtmkapobnfigedaaGreatDoorEl24
import Derived.Test.YtmkapobnfigedaaGreatDoorEl13
set_option linter.unusedVariables false
set_option linter.unusedSimpArgs false
namespace Go.Proofs.YtmkapobnfigedaaGreatDoor
open Go.RowKit
theorem insAt_get {α : Type} (l : List α) (i : Nat) (x : α) (hi : i ≤ l.length) (q : Nat) : (insAt l i x)[q]? = if q < i then l[q]? else if q = i then some x else l[q - 1]? := by
 unfold insAt
 have htl : (l.take i).length = i := by rw [List.length_take]; omega
 by_cases h1 : q < i
 · rw [if_pos h1, List.getElem?_append_left (by omega), List.getElem?_take, if_pos h1]
 · rw [if_neg h1, List.getElem?_append_right (by omega), htl]; by_cases h2 : q = i
   · rw [if_pos h2, h2, Nat.sub_self]; rfl
   · rw [if_neg h2, show q - i = (q - i - 1) + 1 by omega, List.getElem?_cons_succ, List.getElem?_drop]
     congr 1
     omega
theorem insAt_len {α : Type} (l : List α) (i : Nat) (x : α) (hi : i ≤ l.length) : (insAt l i x).length = l.length + 1 := by
 unfold insAt
 rw [List.length_append, List.length_take, List.length_cons, List.length_drop]
 omega
theorem RowsIn.set1 {arr : Array Value} {xs : List Int} (h : RowsIn arr 1 (xs.map intCells)) {k : Nat} (hk : k < xs.length) (hs : k < arr.size) (v : Int) : RowsIn (arr.setIfInBounds k (.int .i64 v)) 1 ((xs.set k v).map intCells) := by
 have := h.set (int_len xs) (q := k) (t := 0) (cs := intCells xs[k]) (by rw [List.getElem?_map, List.getElem?_eq_getElem hk]; rfl) (by decide) (by omega) (.int .i64 v)
 rw [Nat.mul_one, Nat.add_zero] at this
 rw [List.map_set]
 exact this
theorem StOwn.setMade {B : Nat} {w : World} {iv ov : Value} {S : PSt} {gm cap : Nat} (h : StOwn B w iv ov (.slice (some ⟨gm, 0, none⟩) S.made.length cap) S) {k : Nat} (hk : k < S.made.length) (v : Int) :
 StOwn B (w.setCell ⟨gm, k, none⟩ (.int .i64 v)) iv ov (.slice (some ⟨gm, 0, none⟩) S.made.length cap) { S with made := S.made.set k v } ∧ B ≤ gm ∧ ∃ c, Blk w gm c 3 := by
 obtain ⟨h1, h2, is, h3, h4, h5, h6⟩ := h
 rcases h2 with ⟨h0, _⟩ | ⟨g, cap', arr, heq, hgB, hgb, hnc, hcm, hsz, hri⟩
 · simp at h0
 simp only [Value.slice.injEq, Option.some.injEq, Addr.mk.injEq] at heq
 obtain ⟨⟨rfl, -, -⟩, -, rfl⟩ := heq
 have hK : Keep (fun x => x = gm) w (w.setCell ⟨gm, k, none⟩ (.int .i64 v)) := Keep.setCell (S := fun x => x = gm) (p := ⟨gm, k, none⟩) (Keep.refl _ _) (.inl rfl) _
 have key : ∀ {e : TypeId} {n : Nat} {u : Value} {rows : List (List Value)}, OwnP B w e n u rows → e ≠ 3 → OwnP B (w.setCell ⟨gm, k, none⟩ (.int .i64 v)) e n u rows := by
  intro e n u rows ho he; exact ho.keep hK (fun g hg hx => ho.ne_blk hgb he hg hx)
 rw [List.length_map] at hnc
 refine ⟨⟨key h1 (by decide), .inr ⟨gm, cap, arr.setIfInBounds k (.int .i64 v), ?_, hgB, hgb.set_ _ _, ?_, hcm, by rw [Array.size_setIfInBounds]; exact hsz, hri.set1 hk (by omega) v⟩, is, key h3 (by decide), h4, fun q r x hr hx => ?_, h6⟩, hgB, _, hgb⟩
 · show Value.slice (some ⟨gm, 0, none⟩) S.made.length cap = .slice (some ⟨gm, 0, none⟩) ((S.made.set k v).map intCells).length cap; rw [List.length_map, List.length_set]
 · show ((S.made.set k v).map intCells).length ≤ cap; rw [List.length_map, List.length_set]; exact hnc
 · obtain ⟨a1, a2, a3, a4⟩ := h5 q r x hr hx; exact ⟨a1, a2, a3, key a4 (by decide)⟩
theorem bsND_le (ns : List Int) (n : Int) : bsND ns n ≤ ns.length := bsFrom_le _ _ _ _ (Nat.zero_le _)
theorem nums_ents (S : PSt) (K : Nat) (x : PIn) (es : List PEnt) (hx : S.ins[K]? = some x) : (S.ents K x es).nums = S.nums := by
 unfold PSt.nums PSt.ents
 apply List.ext_getElem?
 intro q
 rw [List.getElem?_map, List.getElem?_map]
 by_cases e : K = q
 · subst e; obtain ⟨hl, _⟩ := List.getElem?_eq_some_iff.1 hx; rw [List.getElem?_set_self hl, hx]; rfl
 · rw [List.getElem?_set_ne e]
end Go.Proofs.YtmkapobnfigedaaGreatDoor
