/- A state that a call owns, each row in a block of its own. Conditions: none. -/
import Derived.Test.YtjkenolgkkknaaaGreatDoorCln
set_option linter.unusedVariables false
set_option linter.unusedSimpArgs false
namespace Go.Proofs.YtjkenolgkkknaaaGreatDoor
open Go.RowKit
def RowsIn (arr : Array Value) (k : Nat) (rows : List (List Value)) : Prop := ∀ (q : Nat) (cs : List Value), rows[q]? = some cs → ∀ (t : Nat) (u : Value), cs[t]? = some u → arr[q * k + t]? = some u
/-- A slice of the call's own, from its block's first cell on. -/
def OwnP (B : Nat) (w : World) (e : TypeId) (k : Nat) (v : Value) (rows : List (List Value)) : Prop :=
  (v = .slice none 0 0 ∧ rows = []) ∨ ∃ g cap arr, v = .slice (some ⟨g, 0, none⟩) rows.length cap ∧ B ≤ g ∧ Blk w g arr e ∧ rows.length ≤ cap ∧ cap ≤ maxLen ∧ arr.size = cap * k ∧ RowsIn arr k rows
theorem OwnP.of_own {B : Nat} {w : World} {e : TypeId} {k : Nat} {v : Value} {rows : List (List Value)} (h : w.ownsRow B e k v rows.length rows.flatten) (hk : 0 < k) (hu : ∀ cs ∈ rows, cs.length = k) : OwnP B w e k v rows := by
  obtain ⟨hl, h0 | ⟨g, cap, cur, rfl, hg, hb, hn, hm, hs, ht⟩⟩ := h
  · exact .inl ⟨h0.1, List.eq_nil_of_length_eq_zero h0.2⟩
  · refine .inr ⟨g, cap, cur, rfl, hg, hb, hn, hm, hs, fun q cs hq t u hc => ?_⟩
    have htk : t < k := by
      have := hu cs (List.mem_of_getElem? hq)
      obtain ⟨h, _⟩ := List.getElem?_eq_some_iff.1 hc
      omega
    obtain ⟨hql, _⟩ := List.getElem?_eq_some_iff.1 hq
    have h1 : rows.flatten[q * k + t]? = some u := by rw [flat_at k rows hu q t htk, hq]; exact hc
    rw [← ht, List.getElem?_take] at h1
    have : q * k + t < rows.length * k := by
      have h2 : (q + 1) * k ≤ rows.length * k := Nat.mul_le_mul_right _ (by omega)
      rw [Nat.add_mul, Nat.one_mul] at h2
      omega
    rw [if_pos this] at h1
    simpa using h1
theorem OwnP.own {B : Nat} {w : World} {e : TypeId} {k : Nat} {v : Value} {rows : List (List Value)} (h : OwnP B w e k v rows) (hk : 0 < k) (hu : ∀ cs ∈ rows, cs.length = k) : w.ownsRow B e k v rows.length rows.flatten := by
  refine ⟨flat_len k rows hu, ?_⟩
  rcases h with ⟨rfl, rfl⟩ | ⟨g, cap, cur, rfl, hg, hb, hn, hm, hs, hr⟩
  · exact .inl ⟨rfl, rfl⟩
  · refine .inr ⟨g, cap, cur, rfl, hg, hb, hn, hm, hs, ?_⟩
    apply List.ext_getElem?
    intro i
    have hl := flat_len k rows hu
    rw [List.getElem?_take]
    by_cases hi : i < rows.length * k
    · rw [if_pos hi]
      have hi2 : i = i / k * k + i % k := by rw [Nat.mul_comm]; exact (Nat.div_add_mod i k).symm
      have ht : i % k < k := Nat.mod_lt _ hk
      have hq : i / k < rows.length := Nat.div_lt_of_lt_mul (by rwa [Nat.mul_comm])
      have hlen := hu rows[i / k] (List.getElem_mem hq)
      have h1 := hr (i / k) rows[i / k] (List.getElem?_eq_getElem hq) (i % k) rows[i / k][i % k] (List.getElem?_eq_getElem (by omega))
      have key : ∀ j, j = i / k * k + i % k → cur.toList[j]? = rows.flatten[j]? := by
        intro j hj
        rw [hj, flat_at k rows hu _ _ ht, List.getElem?_eq_getElem hq]
        show _ = rows[i / k][i % k]?
        rw [show rows[i / k][i % k]? = some rows[i / k][i % k] from List.getElem?_eq_getElem (by omega), ← h1]
        simp
      exact key i hi2
    · rw [if_neg hi, List.getElem?_eq_none (by omega)]
theorem OwnP.row {B : Nat} {w : World} {e : TypeId} {k : Nat} {v : Value} {rows : List (List Value)} (h : OwnP B w e k v rows) : RowAt w k v rows := by
  rcases h with ⟨rfl, rfl⟩ | ⟨g, cap, cur, rfl, hg, hb, hn, hm, hs, hr⟩
  · exact ⟨none, 0, rfl, by simp, fun h => absurd h (by simp)⟩
  · exact ⟨_, _, rfl, by omega, fun _ => ⟨g, 0, rfl, hb.lt.lt, fun q cs hq t u hc => by rw [hb.cell, Nat.zero_add]; exact hr q cs hq t u hc⟩⟩
theorem OwnP.keep {B : Nat} {w w' : World} {e : TypeId} {k : Nat} {v : Value} {rows : List (List Value)} {S : Nat → Prop} (h : OwnP B w e k v rows) (hk : Keep S w w') (hn : ∀ g, v.ownBlock = some g → ¬ S g) : OwnP B w' e k v rows := by
  rcases h with h | ⟨g, cap, cur, rfl, hg, hb, r⟩
  · exact .inl h
  · exact .inr ⟨g, cap, cur, rfl, hg, hk.blk hb (hn g rfl), r⟩
theorem OwnP.mono {B B' : Nat} {w : World} {e : TypeId} {k : Nat} {v : Value} {rows : List (List Value)} (h : OwnP B w e k v rows) (hb : B' ≤ B) : OwnP B' w e k v rows := by
  rcases h with h | ⟨g, cap, cur, rfl, hg, r⟩
  · exact .inl h
  · exact .inr ⟨g, cap, cur, rfl, by omega, r⟩
theorem OwnP.ge {B : Nat} {w : World} {e : TypeId} {k : Nat} {v : Value} {rows : List (List Value)} (h : OwnP B w e k v rows) {g : Nat} (hg : v.ownBlock = some g) : B ≤ g := by
  rcases h with ⟨rfl, _⟩ | ⟨g', cap, cur, rfl, hg', r⟩
  · simp [Value.ownBlock] at hg
  · simp [Value.ownBlock] at hg; omega
theorem OwnP.lt {B : Nat} {w : World} {e : TypeId} {k : Nat} {v : Value} {rows : List (List Value)} (h : OwnP B w e k v rows) {g : Nat} (hg : v.ownBlock = some g) : g < w.heap.size := by
  rcases h with ⟨rfl, _⟩ | ⟨g', cap, cur, rfl, hg', hb, r⟩
  · simp [Value.ownBlock] at hg
  · simp [Value.ownBlock] at hg; subst hg; exact hb.lt.lt
theorem OwnP.ne_blk {B : Nat} {w : World} {e t : TypeId} {k b : Nat} {v : Value} {rows : List (List Value)} {c : Array Value} (h : OwnP B w e k v rows) (hb : Blk w b c t) (hne : e ≠ t) {g : Nat} (hg : v.ownBlock = some g) : g ≠ b := by
  rcases h with ⟨rfl, _⟩ | ⟨g', cap, cur, rfl, hg', hb', r⟩
  · simp [Value.ownBlock] at hg
  · simp [Value.ownBlock] at hg; subst hg; exact hb'.ne_ hb hne
theorem OwnP.one {B : Nat} {w : World} {e : TypeId} {k : Nat} {v : Value} {rows : List (List Value)} (h : OwnP B w e k v rows) : v.oneCell' = true := by
  rcases h with ⟨rfl, _⟩ | ⟨g', cap, cur, rfl, _⟩ <;> rfl
theorem RowsIn.set {arr : Array Value} {k : Nat} {rows : List (List Value)} (h : RowsIn arr k rows) (hu : ∀ cs ∈ rows, cs.length = k) {q t : Nat} {cs : List Value} (hq : rows[q]? = some cs) (ht : t < k) (hs : q * k + t < arr.size) (u : Value) : RowsIn (arr.setIfInBounds (q * k + t) u) k (rows.set q (cs.set t u)) := by
  intro q' cs' hq' t' u' hc'
  obtain ⟨hql, _⟩ := List.getElem?_eq_some_iff.1 hq
  have hcl := hu cs (List.mem_of_getElem? hq)
  by_cases e : q = q'
  · subst e
    rw [List.getElem?_set_self hql] at hq'
    cases hq'
    by_cases e2 : t = t'
    · subst e2
      rw [List.getElem?_set_self (by omega)] at hc'
      cases hc'
      rw [Array.getElem?_setIfInBounds, if_pos rfl, if_pos hs]
    · rw [List.getElem?_set_ne e2] at hc'
      rw [Array.getElem?_setIfInBounds, if_neg (by omega)]
      exact h q cs hq t' u' hc'
  · rw [List.getElem?_set_ne e] at hq'
    have ht' : t' < k := by
      have := hu cs' (List.mem_of_getElem? hq')
      obtain ⟨h, _⟩ := List.getElem?_eq_some_iff.1 hc'
      omega
    rw [Array.getElem?_setIfInBounds, if_neg ?_]
    · exact h q' cs' hq' t' u' hc'
    · intro hh
      rcases Nat.lt_or_gt_of_ne e with h | h
      · have := Nat.mul_le_mul_right k (show q + 1 ≤ q' from h)
        rw [Nat.add_mul] at this
        omega
      · have := Nat.mul_le_mul_right k (show q' + 1 ≤ q from h)
        rw [Nat.add_mul] at this
        omega
theorem irec_len : ∀ (is : List IRec), ∀ cs ∈ is.map IRec.cells, cs.length = 4 := by
  intro is cs h
  obtain ⟨r, _, rfl⟩ := List.mem_map.1 h
  rfl
theorem pent_len : ∀ (es : List PEnt), ∀ cs ∈ es.map PEnt.cells, cs.length = 2 := by
  intro es cs h
  obtain ⟨r, _, rfl⟩ := List.mem_map.1 h
  rfl
theorem pdesc_len : ∀ (es : List PDesc), ∀ cs ∈ es.map PDesc.cells, cs.length = 3 := by
  intro es cs h
  obtain ⟨r, _, rfl⟩ := List.mem_map.1 h
  rfl
theorem int_len : ∀ (es : List Int), ∀ cs ∈ es.map intCells, cs.length = 1 := by
  intro es cs h
  obtain ⟨r, _, rfl⟩ := List.mem_map.1 h
  rfl
theorem irec_one : ∀ (is : List IRec), ∀ cs ∈ is.map IRec.cells, ∀ u ∈ cs, u.oneCell' = true := by
  intro is cs h u hu
  obtain ⟨r, _, rfl⟩ := List.mem_map.1 h
  simp only [IRec.cells, List.mem_cons, List.not_mem_nil, or_false] at hu
  rcases hu with rfl | rfl | rfl | rfl <;> first | rfl | exact r.one
theorem pent_one : ∀ (is : List PEnt), ∀ cs ∈ is.map PEnt.cells, ∀ u ∈ cs, u.oneCell' = true := by
  intro is cs h u hu
  obtain ⟨r, _, rfl⟩ := List.mem_map.1 h
  simp only [PEnt.cells, List.mem_cons, List.not_mem_nil, or_false] at hu
  rcases hu with rfl | rfl <;> rfl
theorem pdesc_one : ∀ (is : List PDesc), ∀ cs ∈ is.map PDesc.cells, ∀ u ∈ cs, u.oneCell' = true := by
  intro is cs h u hu
  obtain ⟨r, _, rfl⟩ := List.mem_map.1 h
  simp only [PDesc.cells, List.mem_cons, List.not_mem_nil, or_false] at hu
  rcases hu with rfl | rfl | rfl <;> rfl
theorem int_one : ∀ (is : List Int), ∀ cs ∈ is.map intCells, ∀ u ∈ cs, u.oneCell' = true := by
  intro is cs h u hu
  obtain ⟨r, _, rfl⟩ := List.mem_map.1 h
  simp only [intCells, List.mem_cons, List.not_mem_nil, or_false] at hu
  subst hu; rfl
/-- A state of the call's own. -/
def StOwn (B : Nat) (w : World) (iv ov mv : Value) (S : PSt) : Prop :=
  OwnP B w 88 3 ov (S.op.map PDesc.cells) ∧ OwnP B w 3 1 mv (S.made.map intCells) ∧ ∃ is : List IRec, OwnP B w 65 4 iv (is.map IRec.cells) ∧ is.length = S.ins.length ∧
    (∀ (q : Nat) (r : IRec) (x : PIn), is[q]? = some r → S.ins[q]? = some x → r.num = x.num ∧ r.dir = x.dir ∧ r.data = x.data ∧ OwnP B w 99 2 r.ev (x.ents.map PEnt.cells)) ∧
    ∀ (p q : Nat) (r r' : IRec), p ≠ q → is[p]? = some r → is[q]? = some r' → ∀ g, r.ev.ownBlock = some g → r'.ev.ownBlock ≠ some g
theorem StOwn.read {B : Nat} {w : World} {iv ov mv : Value} {S : PSt} (h : StOwn B w iv ov mv S) : StRead w iv ov mv S := by
  obtain ⟨h1, h2, is, h3, h4, h5, _⟩ := h
  exact ⟨h1.row, h2.row, is, h3.row, h4, fun q r x hr hx => by
    obtain ⟨a1, a2, a3, a4⟩ := h5 q r x hr hx
    exact ⟨a1, a2, a3, a4.row⟩⟩
end Go.Proofs.YtjkenolgkkknaaaGreatDoor
