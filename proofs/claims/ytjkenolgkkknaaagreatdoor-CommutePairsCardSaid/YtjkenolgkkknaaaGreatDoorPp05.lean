/- Part of the proof that the named pairs of calls commute. Conditions: none. -/
import Derived.Test.YtjkenolgkkknaaaGreatDoorPp04
set_option linter.unusedVariables false
set_option linter.unusedSimpArgs false
set_option maxRecDepth 100000
set_option maxHeartbeats 8000000
namespace Go.Proofs.YtjkenolgkkknaaaGreatDoor
open Go.RowKit
theorem info65 : (Tryz.prog.info? 65).map (fun i => (i.zero, i.size, i.bytes)) = some (some (.agg #[.int .i64 0, .bool false, .slice none 0 0, .string ByteArray.empty]), 4, 56) := by kernel_rfl
theorem info99 : (Tryz.prog.info? 99).map (fun i => (i.zero, i.size, i.bytes)) = some (some (.agg #[.string ByteArray.empty, .int .i64 0]), 2, 24) := by kernel_rfl
theorem info88 : (Tryz.prog.info? 88).map (fun i => (i.zero, i.size, i.bytes)) = some (some (.agg #[.int .i64 0, .int .i64 0, .int .i64 0]), 3, 24) := by kernel_rfl
theorem flat_at {α : Type} (k : Nat) : ∀ (rows : List (List α)), (∀ cs ∈ rows, cs.length = k) → ∀ q t, t < k → rows.flatten[q * k + t]? = (rows[q]?).bind fun cs => cs[t]?
 | [], _, q, t, _ => by simp
 | c :: r, h, q, t, ht => by
   have hc : c.length = k := h c (by simp); rw [List.flatten_cons]; rcases q with _ | q
   · rw [Nat.zero_mul, Nat.zero_add, List.getElem?_append_left (by omega)]; rfl
   · rw [List.getElem?_append_right (by rw [hc, Nat.add_mul]; omega), hc, show (q + 1) * k + t - k = q * k + t by rw [Nat.add_mul]; omega, flat_at k r (fun cs hcs => h cs (by simp [hcs])) q t ht]; rfl
theorem flat_len {α : Type} (k : Nat) : ∀ (rows : List (List α)), (∀ cs ∈ rows, cs.length = k) → rows.flatten.length = rows.length * k
 | [], _ => by simp
 | c :: r, h => by
   rw [List.flatten_cons, lP, flat_len k r (fun cs hcs => h cs (by simp [hcs])), h c (by simp), List.length_cons, Nat.add_mul]; omega
theorem RowAt.flat {w : World} {k : Nat} {v : Value} {rows : List (List Value)} (h : RowAt w k v rows) (hk : 0 < k) (hu : ∀ cs ∈ rows, cs.length = k) :
 ∃ a cap, v = .slice a rows.length cap ∧ ∀ x, a = some x → ∀ j u, rows.flatten[j]? = some u → w.cell? (x.add j) = some u := by
 obtain ⟨a, cap, rfl, hm, hr⟩ := h
 refine ⟨a, cap, rfl, fun x hx j u hj => ?_⟩
 have hjl : j < rows.length * k := by
  obtain ⟨h, _⟩ := gI.1 hj
  rwa [flat_len k rows hu] at h
 have hpos : 0 < rows.length := by
  rcases Nat.eq_zero_or_pos rows.length with h0 | h0
  · rw [h0, Nat.zero_mul] at hjl; omega
  · exact h0
 obtain ⟨b, off, hab, _, hc⟩ := hr hpos
 subst hx
 obtain rfl : x = ⟨b, off, none⟩ := by simpa using hab
 have hj2 : j = j / k * k + j % k := by rw [Nat.mul_comm]; exact (Nat.div_add_mod j k).symm
 rw [hj2] at hj ⊢
 have ht : j % k < k := Nat.mod_lt _ hk
 rw [flat_at k rows hu _ _ ht] at hj
 obtain ⟨cs, hcs, hcu⟩ := Option.bind_eq_some_iff.1 hj
 rw [Addr.add_lit]
 show w.cell? ⟨b, off + (j / k * k + j % k), none⟩ = some u
 rw [← Nat.add_assoc]
 exact hc _ _ hcs _ _ hcu
theorem clone67 (rows : List (List Value)) (v : Value) (w : World) (h : RowAt w 4 v rows) (hu : ∀ cs ∈ rows, cs.length = 4) (h1 : ∀ cs ∈ rows, ∀ u ∈ cs, u.oneCell' = true) (hn : rows.length ≤ 1000000000) :
 Calls Tryz.prog 67 #[v] w fun e w' => ∃ v', e = .returned v' ∧ w'.ownsRow w.heap.size 65 4 v' rows.length rows.flatten ∧ Below w.heap.size w w' := by
 obtain ⟨i0, hi, hz0, hz1, hz2⟩ := info_parts info65
 have hl := flat_len 4 rows hu
 have h1' : ∀ u ∈ rows.flatten, u.oneCell' = true := fun u hm => by
  obtain ⟨cs, hc, hm⟩ := List.mem_flatten.1 hm; exact h1 cs hc u hm
 have h0' : RowAt w 4 v rows := h
 obtain ⟨a, cap, rfl, hc⟩ := h.flat (by decide) hu
 have q : ∀ (w : World) (a : Option Addr) (n c n' c' : Nat), (binOp .eql 23 (.slice a n c) (.slice none n' c')).run Tryz.prog w = .ok (.bool a.isNone) w := fun w a n c n' c' => Lib.run_eql_slice_nil w _ _ a n c n' c' Tryz.underlying23
 rcases a with _ | x
 · obtain ⟨a', c', e1, _, hr⟩ := h0'; have hz : rows.length = 0 := by
    rcases Nat.eq_zero_or_pos rows.length with h0 | h0
    · exact h0
    · obtain ⟨b, off, hb, _⟩ := hr h0; rw [hb] at e1; simp at e1
   obtain rfl : rows = [] := List.eq_nil_of_length_eq_zero hz; clear hc h1 h1' hr h
   go_enter Tryz.func67, Tryz.ntmps67
   go_wp2_with fail; go_ret; exact ⟨_, rfl, ⟨rfl, .inl ⟨rfl, rfl⟩⟩, bel _ _⟩
 · have A := Lib.hid (hc x rfl); clear hc h h0'
   go_enter Tryz.func67, Tryz.ntmps67
   go_wp2_with (at_builtin; refine wpList_append_own _ rfl _ _ 23 rfl w.heap.size 65 i0 (.agg #[.int .i64 0, .bool false, .slice none 0 0, .string ByteArray.empty]) 4 56 Tryz.underlying23 hi hz0 hz1 hz2 rfl (by decide) _ _ _ rfl (World.ownsRow_made w #[] 0 (Nat.le_refl _) (Nat.zero_le _) (by simp)) x rows.length cap rows.flatten rfl ?qc1 ?qc2 ?qc3 ?qc4 ?qc5 ?qc6 ?_)
   case qc1 => exact hl
   case qc2 =>
    intro j u hj; exact Lib.cell?_alloc_some _ (A.out j u hj)
   case qc3 => exact h1'
   case qc4 => unfold maxLen; omega
   case qc5 => omega
   case qc6 => simp
   intro v' w1 hown hgrow hnil; go_wp2_with fail; go_ret; refine ⟨v', rfl, by simpa using hown, ?_⟩; exact ((Keep.refl (fun _ => False) w).alloc _ |>.grown hgrow (fun k hk => .inr (by simp [Value.ownBlock] at hk; omega))).below (Nat.le_refl _) (fun i _ h => h)
theorem clone68 (rows : List (List Value)) (v : Value) (w : World) (h : RowAt w 2 v rows) (hu : ∀ cs ∈ rows, cs.length = 2) (h1 : ∀ cs ∈ rows, ∀ u ∈ cs, u.oneCell' = true) (hn : rows.length ≤ 1000000000) :
 Calls Tryz.prog 68 #[v] w fun e w' => ∃ v', e = .returned v' ∧ w'.ownsRow w.heap.size 99 2 v' rows.length rows.flatten ∧ Below w.heap.size w w' := by
 obtain ⟨i0, hi, hz0, hz1, hz2⟩ := info_parts info99
 have hl := flat_len 2 rows hu
 have h1' : ∀ u ∈ rows.flatten, u.oneCell' = true := fun u hm => by
  obtain ⟨cs, hc, hm⟩ := List.mem_flatten.1 hm; exact h1 cs hc u hm
 have h0' : RowAt w 2 v rows := h
 obtain ⟨a, cap, rfl, hc⟩ := h.flat (by decide) hu
 have q : ∀ (w : World) (a : Option Addr) (n c n' c' : Nat), (binOp .eql 63 (.slice a n c) (.slice none n' c')).run Tryz.prog w = .ok (.bool a.isNone) w := fun w a n c n' c' => Lib.run_eql_slice_nil w _ _ a n c n' c' Tryz.underlying63
 rcases a with _ | x
 · obtain ⟨a', c', e1, _, hr⟩ := h0'; have hz : rows.length = 0 := by
    rcases Nat.eq_zero_or_pos rows.length with h0 | h0
    · exact h0
    · obtain ⟨b, off, hb, _⟩ := hr h0; rw [hb] at e1; simp at e1
   obtain rfl : rows = [] := List.eq_nil_of_length_eq_zero hz; clear hc h1 h1' hr h
   go_enter Tryz.func68, Tryz.ntmps68
   go_wp2_with fail; go_ret; exact ⟨_, rfl, ⟨rfl, .inl ⟨rfl, rfl⟩⟩, bel _ _⟩
 · have A := Lib.hid (hc x rfl); clear hc h h0'
   go_enter Tryz.func68, Tryz.ntmps68
   go_wp2_with (at_builtin; refine wpList_append_own _ rfl _ _ 63 rfl w.heap.size 99 i0 (.agg #[.string ByteArray.empty, .int .i64 0]) 2 24 Tryz.underlying63 hi hz0 hz1 hz2 rfl (by decide) _ _ _ rfl (World.ownsRow_made w #[] 0 (Nat.le_refl _) (Nat.zero_le _) (by simp)) x rows.length cap rows.flatten rfl ?qc1 ?qc2 ?qc3 ?qc4 ?qc5 ?qc6 ?_)
   case qc1 => exact hl
   case qc2 =>
    intro j u hj; exact Lib.cell?_alloc_some _ (A.out j u hj)
   case qc3 => exact h1'
   case qc4 => unfold maxLen; omega
   case qc5 => omega
   case qc6 => simp
   intro v' w1 hown hgrow hnil; go_wp2_with fail; go_ret; refine ⟨v', rfl, by simpa using hown, ?_⟩; exact ((Keep.refl (fun _ => False) w).alloc _ |>.grown hgrow (fun k hk => .inr (by simp [Value.ownBlock] at hk; omega))).below (Nat.le_refl _) (fun i _ h => h)
theorem clone69 (rows : List (List Value)) (v : Value) (w : World) (h : RowAt w 3 v rows) (hu : ∀ cs ∈ rows, cs.length = 3) (h1 : ∀ cs ∈ rows, ∀ u ∈ cs, u.oneCell' = true) (hn : rows.length ≤ 1000000000) :
 Calls Tryz.prog 69 #[v] w fun e w' => ∃ v', e = .returned v' ∧ w'.ownsRow w.heap.size 88 3 v' rows.length rows.flatten ∧ Below w.heap.size w w' := by
 obtain ⟨i0, hi, hz0, hz1, hz2⟩ := info_parts info88
 have hl := flat_len 3 rows hu
 have h1' : ∀ u ∈ rows.flatten, u.oneCell' = true := fun u hm => by
  obtain ⟨cs, hc, hm⟩ := List.mem_flatten.1 hm; exact h1 cs hc u hm
 have h0' : RowAt w 3 v rows := h
 obtain ⟨a, cap, rfl, hc⟩ := h.flat (by decide) hu
 have q : ∀ (w : World) (a : Option Addr) (n c n' c' : Nat), (binOp .eql 24 (.slice a n c) (.slice none n' c')).run Tryz.prog w = .ok (.bool a.isNone) w := fun w a n c n' c' => Lib.run_eql_slice_nil w _ _ a n c n' c' Tryz.underlying24
 rcases a with _ | x
 · obtain ⟨a', c', e1, _, hr⟩ := h0'; have hz : rows.length = 0 := by
    rcases Nat.eq_zero_or_pos rows.length with h0 | h0
    · exact h0
    · obtain ⟨b, off, hb, _⟩ := hr h0; rw [hb] at e1; simp at e1
   obtain rfl : rows = [] := List.eq_nil_of_length_eq_zero hz; clear hc h1 h1' hr h
   go_enter Tryz.func69, Tryz.ntmps69
   go_wp2_with fail; go_ret; exact ⟨_, rfl, ⟨rfl, .inl ⟨rfl, rfl⟩⟩, bel _ _⟩
 · have A := Lib.hid (hc x rfl); clear hc h h0'
   go_enter Tryz.func69, Tryz.ntmps69
   go_wp2_with (at_builtin; refine wpList_append_own _ rfl _ _ 24 rfl w.heap.size 88 i0 (.agg #[.int .i64 0, .int .i64 0, .int .i64 0]) 3 24 Tryz.underlying24 hi hz0 hz1 hz2 rfl (by decide) _ _ _ rfl (World.ownsRow_made w #[] 0 (Nat.le_refl _) (Nat.zero_le _) (by simp)) x rows.length cap rows.flatten rfl ?qc1 ?qc2 ?qc3 ?qc4 ?qc5 ?qc6 ?_)
   case qc1 => exact hl
   case qc2 =>
    intro j u hj; exact Lib.cell?_alloc_some _ (A.out j u hj)
   case qc3 => exact h1'
   case qc4 => unfold maxLen; omega
   case qc5 => omega
   case qc6 => simp
   intro v' w1 hown hgrow hnil; go_wp2_with fail; go_ret; refine ⟨v', rfl, by simpa using hown, ?_⟩; exact ((Keep.refl (fun _ => False) w).alloc _ |>.grown hgrow (fun k hk => .inr (by simp [Value.ownBlock] at hk; omega))).below (Nat.le_refl _) (fun i _ h => h)
theorem clone70 (rows : List (List Value)) (v : Value) (w : World) (h : RowAt w 1 v rows) (hu : ∀ cs ∈ rows, cs.length = 1) (h1 : ∀ cs ∈ rows, ∀ u ∈ cs, u.oneCell' = true) (hn : rows.length ≤ 1000000000) :
 Calls Tryz.prog 70 #[v] w fun e w' => ∃ v', e = .returned v' ∧ w'.ownsRow w.heap.size 3 1 v' rows.length rows.flatten ∧ Below w.heap.size w w' := by
 obtain ⟨i0, hi, hz0, hz1, hz2⟩ := info_parts info3
 have hl := flat_len 1 rows hu
 have h1' : ∀ u ∈ rows.flatten, u.oneCell' = true := fun u hm => by
  obtain ⟨cs, hc, hm⟩ := List.mem_flatten.1 hm; exact h1 cs hc u hm
 have h0' : RowAt w 1 v rows := h
 obtain ⟨a, cap, rfl, hc⟩ := h.flat (by decide) hu
 have q : ∀ (w : World) (a : Option Addr) (n c n' c' : Nat), (binOp .eql 25 (.slice a n c) (.slice none n' c')).run Tryz.prog w = .ok (.bool a.isNone) w := fun w a n c n' c' => Lib.run_eql_slice_nil w _ _ a n c n' c' Tryz.underlying25
 rcases a with _ | x
 · obtain ⟨a', c', e1, _, hr⟩ := h0'; have hz : rows.length = 0 := by
    rcases Nat.eq_zero_or_pos rows.length with h0 | h0
    · exact h0
    · obtain ⟨b, off, hb, _⟩ := hr h0; rw [hb] at e1; simp at e1
   obtain rfl : rows = [] := List.eq_nil_of_length_eq_zero hz; clear hc h1 h1' hr h
   go_enter Tryz.func70, Tryz.ntmps70
   go_wp2_with fail; go_ret; exact ⟨_, rfl, ⟨rfl, .inl ⟨rfl, rfl⟩⟩, bel _ _⟩
 · have A := Lib.hid (hc x rfl); clear hc h h0'
   go_enter Tryz.func70, Tryz.ntmps70
   go_wp2_with (at_builtin; refine wpList_append_own _ rfl _ _ 25 rfl w.heap.size 3 i0 (.int .i64 0) 1 8 Tryz.underlying25 hi hz0 hz1 hz2 rfl (by decide) _ _ _ rfl (World.ownsRow_made w #[] 0 (Nat.le_refl _) (Nat.zero_le _) (by simp)) x rows.length cap rows.flatten rfl ?qc1 ?qc2 ?qc3 ?qc4 ?qc5 ?qc6 ?_)
   case qc1 => exact hl
   case qc2 =>
    intro j u hj; exact Lib.cell?_alloc_some _ (A.out j u hj)
   case qc3 => exact h1'
   case qc4 => unfold maxLen; omega
   case qc5 => omega
   case qc6 => simp
   intro v' w1 hown hgrow hnil; go_wp2_with fail; go_ret; refine ⟨v', rfl, by simpa using hown, ?_⟩; exact ((Keep.refl (fun _ => False) w).alloc _ |>.grown hgrow (fun k hk => .inr (by simp [Value.ownBlock] at hk; omega))).below (Nat.le_refl _) (fun i _ h => h)
def RowsIn (arr : Array Value) (k : Nat) (rows : List (List Value)) : Prop := ∀ (q : Nat) (cs : List Value), rows[q]? = some cs → ∀ (t : Nat) (u : Value), cs[t]? = some u → arr[q * k + t]? = some u
def OwnP (B : Nat) (w : World) (e : TypeId) (k : Nat) (v : Value) (rows : List (List Value)) : Prop :=
 (v = .slice none 0 0 ∧ rows = []) ∨ ∃ g cap arr, v = .slice (some ⟨g, 0, none⟩) rows.length cap ∧ B ≤ g ∧ Blk w g arr e ∧ rows.length ≤ cap ∧ cap ≤ maxLen ∧ arr.size = cap * k ∧ RowsIn arr k rows
theorem OwnP.of_own {B : Nat} {w : World} {e : TypeId} {k : Nat} {v : Value} {rows : List (List Value)} (h : w.ownsRow B e k v rows.length rows.flatten) (hk : 0 < k) (hu : ∀ cs ∈ rows, cs.length = k) : OwnP B w e k v rows := by
 obtain ⟨hl, h0 | ⟨g, cap, cur, rfl, hg, hb, hn, hm, hs, ht⟩⟩ := h
 · exact .inl ⟨h0.1, List.eq_nil_of_length_eq_zero h0.2⟩
 · refine .inr ⟨g, cap, cur, rfl, hg, hb, hn, hm, hs, fun q cs hq t u hc => ?_⟩; have htk : t < k := by
    have := hu cs (mG hq); obtain ⟨h, _⟩ := gI.1 hc; omega
   obtain ⟨hql, _⟩ := gI.1 hq; have h1 : rows.flatten[q * k + t]? = some u := by rw [flat_at k rows hu q t htk, hq]; exact hc
   rw [← ht, List.getElem?_take] at h1; have : q * k + t < rows.length * k := by
    have h2 : (q + 1) * k ≤ rows.length * k := Nat.mul_le_mul_right _ (by omega); rw [Nat.add_mul, Nat.one_mul] at h2; omega
   rw [if_pos this] at h1; simpa using h1
theorem OwnP.own {B : Nat} {w : World} {e : TypeId} {k : Nat} {v : Value} {rows : List (List Value)} (h : OwnP B w e k v rows) (hk : 0 < k) (hu : ∀ cs ∈ rows, cs.length = k) : w.ownsRow B e k v rows.length rows.flatten := by
 refine ⟨flat_len k rows hu, ?_⟩
 rcases h with ⟨rfl, rfl⟩ | ⟨g, cap, cur, rfl, hg, hb, hn, hm, hs, hr⟩
 · exact .inl ⟨rfl, rfl⟩
 · refine .inr ⟨g, cap, cur, rfl, hg, hb, hn, hm, hs, ?_⟩; apply List.ext_getElem?; intro i; have hl := flat_len k rows hu; rw [List.getElem?_take]; by_cases hi : i < rows.length * k
   · rw [if_pos hi]; have hi2 : i = i / k * k + i % k := by rw [Nat.mul_comm]; exact (Nat.div_add_mod i k).symm
     have ht : i % k < k := Nat.mod_lt _ hk; have hq : i / k < rows.length := Nat.div_lt_of_lt_mul (by rwa [Nat.mul_comm]); have hlen := hu rows[i / k] (List.getElem_mem hq); have h1 := hr (i / k) rows[i / k] (gE hq) (i % k) rows[i / k][i % k] (gE (by omega)); have key : ∀ j, j = i / k * k + i % k → cur.toList[j]? = rows.flatten[j]? := by
      intro j hj; rw [hj, flat_at k rows hu _ _ ht, gE hq]; show _ = rows[i / k][i % k]?; rw [show rows[i / k][i % k]? = some rows[i / k][i % k] from gE (by omega), ← h1]; simp
     exact key i hi2
   · rw [if_neg hi, List.getElem?_eq_none (by omega)]
theorem OwnP.row {B : Nat} {w : World} {e : TypeId} {k : Nat} {v : Value} {rows : List (List Value)} (h : OwnP B w e k v rows) : RowAt w k v rows := by
 rcases h with ⟨rfl, rfl⟩ | ⟨g, cap, cur, rfl, hg, hb, hn, hm, hs, hr⟩
 · exact ⟨none, 0, rfl, by simp, fun h => absurd h (by simp)⟩
 · exact ⟨_, _, rfl, by omega, fun _ => ⟨g, 0, rfl, hb.lt.lt, fun q cs hq t u hc => by rw [hb.cell, Nat.zero_add]; exact hr q cs hq t u hc⟩⟩
theorem OwnP.keep {B : Nat} {w w' : World} {e : TypeId} {k : Nat} {v : Value} {rows : List (List Value)} {S : Nat → Prop} (h : OwnP B w e k v rows) (hk : Keep S w w') (hn : ∀ g, v.ownBlock = some g → ¬ S g) : OwnP B w' e k v rows := by
 rcases h with h | ⟨g, cap, cur, rfl, hg, hb, r⟩
 · exact .inl h
 · exact .inr ⟨g, cap, cur, rfl, hg, hk.blk hb (hn g rfl), r⟩
theorem OwnP.mono {B B' : Nat} {w : World} {e : TypeId} {k : Nat} {v : Value} {rows : List (List Value)} (h : OwnP B w e k v rows) (hb : B' ≤ B) : OwnP B' w e k v rows := by
 rcases h with h | ⟨g, cap, cur, rfl, hg, r⟩
 · exact .inl h
 · exact .inr ⟨g, cap, cur, rfl, by omega, r⟩
theorem OwnP.ge {B : Nat} {w : World} {e : TypeId} {k : Nat} {v : Value} {rows : List (List Value)} (h : OwnP B w e k v rows) {g : Nat} (hg : v.ownBlock = some g) : B ≤ g := by
 rcases h with ⟨rfl, _⟩ | ⟨g', cap, cur, rfl, hg', r⟩
 · simp [Value.ownBlock] at hg
 · simp [Value.ownBlock] at hg; omega
theorem OwnP.lt {B : Nat} {w : World} {e : TypeId} {k : Nat} {v : Value} {rows : List (List Value)} (h : OwnP B w e k v rows) {g : Nat} (hg : v.ownBlock = some g) : g < w.heap.size := by
 rcases h with ⟨rfl, _⟩ | ⟨g', cap, cur, rfl, hg', hb, r⟩
 · simp [Value.ownBlock] at hg
 · simp [Value.ownBlock] at hg; subst hg; exact hb.lt.lt
theorem OwnP.ne_blk {B : Nat} {w : World} {e t : TypeId} {k b : Nat} {v : Value} {rows : List (List Value)} {c : Array Value} (h : OwnP B w e k v rows) (hb : Blk w b c t) (hne : e ≠ t) {g : Nat} (hg : v.ownBlock = some g) : g ≠ b := by
 rcases h with ⟨rfl, _⟩ | ⟨g', cap, cur, rfl, hg', hb', r⟩
 · simp [Value.ownBlock] at hg
 · simp [Value.ownBlock] at hg; subst hg; exact hb'.ne_ hb hne
theorem OwnP.one {B : Nat} {w : World} {e : TypeId} {k : Nat} {v : Value} {rows : List (List Value)} (h : OwnP B w e k v rows) : v.oneCell' = true := by
 rcases h with ⟨rfl, _⟩ | ⟨g', cap, cur, rfl, _⟩ <;> rfl
theorem RowsIn.set {arr : Array Value} {k : Nat} {rows : List (List Value)} (h : RowsIn arr k rows) (hu : ∀ cs ∈ rows, cs.length = k) {q t : Nat} {cs : List Value} (hq : rows[q]? = some cs) (ht : t < k) (hs : q * k + t < arr.size) (u : Value) : RowsIn (arr.setIfInBounds (q * k + t) u) k (rows.set q (cs.set t u)) := by
 intro q' cs' hq' t' u' hc'
 obtain ⟨hql, _⟩ := gI.1 hq
 have hcl := hu cs (mG hq)
 by_cases e : q = q'
 · subst e; rw [List.getElem?_set_self hql] at hq'; cases hq'; by_cases e2 : t = t'
   · subst e2; rw [List.getElem?_set_self (by omega)] at hc'; cases hc'; rw [Array.getElem?_setIfInBounds, if_pos rfl, if_pos hs]
   · rw [List.getElem?_set_ne e2] at hc'; rw [Array.getElem?_setIfInBounds, if_neg (by omega)]; exact h q cs hq t' u' hc'
 · rw [List.getElem?_set_ne e] at hq'; have ht' : t' < k := by
    have := hu cs' (mG hq'); obtain ⟨h, _⟩ := gI.1 hc'; omega
   rw [Array.getElem?_setIfInBounds, if_neg ?_]
   · exact h q' cs' hq' t' u' hc'
   · intro hh; rcases Nat.lt_or_gt_of_ne e with h | h
     · have := Nat.mul_le_mul_right k (show q + 1 ≤ q' from h); rw [Nat.add_mul] at this; omega
     · have := Nat.mul_le_mul_right k (show q' + 1 ≤ q from h); rw [Nat.add_mul] at this; omega
theorem irec_len : ∀ (is : List IRec), ∀ cs ∈ is.map IRec.cells, cs.length = 4 := by
 intro is cs h
 obtain ⟨r, _, rfl⟩ := List.mem_map.1 h
 rfl
theorem pent_len : ∀ (es : List PEnt), ∀ cs ∈ es.map PEnt.cells, cs.length = 2 := by
 intro es cs h
 obtain ⟨r, _, rfl⟩ := List.mem_map.1 h
 rfl
theorem pdesc_len : ∀ (es : List PDesc), ∀ cs ∈ es.map PDesc.cells, cs.length = 3 := by
 intro es cs h
 obtain ⟨r, _, rfl⟩ := List.mem_map.1 h
 rfl
theorem int_len : ∀ (es : List Int), ∀ cs ∈ es.map intCells, cs.length = 1 := by
 intro es cs h
 obtain ⟨r, _, rfl⟩ := List.mem_map.1 h
 rfl
theorem irec_one : ∀ (is : List IRec), ∀ cs ∈ is.map IRec.cells, ∀ u ∈ cs, u.oneCell' = true := by
 intro is cs h u hu
 obtain ⟨r, _, rfl⟩ := List.mem_map.1 h
 simp only [IRec.cells, List.mem_cons, List.not_mem_nil, or_false] at hu
 rcases hu with rfl | rfl | rfl | rfl <;> first | rfl | exact r.one
theorem pent_one : ∀ (is : List PEnt), ∀ cs ∈ is.map PEnt.cells, ∀ u ∈ cs, u.oneCell' = true := by
 intro is cs h u hu
 obtain ⟨r, _, rfl⟩ := List.mem_map.1 h
 simp only [PEnt.cells, List.mem_cons, List.not_mem_nil, or_false] at hu
 rcases hu with rfl | rfl <;> rfl
theorem pdesc_one : ∀ (is : List PDesc), ∀ cs ∈ is.map PDesc.cells, ∀ u ∈ cs, u.oneCell' = true := by
 intro is cs h u hu
 obtain ⟨r, _, rfl⟩ := List.mem_map.1 h
 simp only [PDesc.cells, List.mem_cons, List.not_mem_nil, or_false] at hu
 rcases hu with rfl | rfl | rfl <;> rfl
theorem int_one : ∀ (is : List Int), ∀ cs ∈ is.map intCells, ∀ u ∈ cs, u.oneCell' = true := by
 intro is cs h u hu
 obtain ⟨r, _, rfl⟩ := List.mem_map.1 h
 simp only [intCells, List.mem_cons, List.not_mem_nil, or_false] at hu
 subst hu; rfl
def StOwn (B : Nat) (w : World) (iv ov mv : Value) (S : PSt) : Prop :=
 OwnP B w 88 3 ov (S.op.map PDesc.cells) ∧ OwnP B w 3 1 mv (S.made.map intCells) ∧ ∃ is : List IRec, OwnP B w 65 4 iv (is.map IRec.cells) ∧ is.length = S.ins.length ∧
  (∀ (q : Nat) (r : IRec) (x : PIn), is[q]? = some r → S.ins[q]? = some x → r.num = x.num ∧ r.dir = x.dir ∧ r.data = x.data ∧ OwnP B w 99 2 r.ev (x.ents.map PEnt.cells)) ∧
  ∀ (p q : Nat) (r r' : IRec), p ≠ q → is[p]? = some r → is[q]? = some r' → ∀ g, r.ev.ownBlock = some g → r'.ev.ownBlock ≠ some g
theorem StOwn.read {B : Nat} {w : World} {iv ov mv : Value} {S : PSt} (h : StOwn B w iv ov mv S) : StRead w iv ov mv S := by
 obtain ⟨h1, h2, is, h3, h4, h5, _⟩ := h
 exact ⟨h1.row, h2.row, is, h3.row, h4, fun q r x hr hx => by
  obtain ⟨a1, a2, a3, a4⟩ := h5 q r x hr hx; exact ⟨a1, a2, a3, a4.row⟩⟩
end Go.Proofs.YtjkenolgkkknaaaGreatDoor
