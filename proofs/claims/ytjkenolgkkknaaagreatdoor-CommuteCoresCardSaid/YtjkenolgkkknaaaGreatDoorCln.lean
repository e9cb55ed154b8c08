/- slices.Clone of the four kinds of rows. Conditions: none. -/
import Derived.Test.YtjkenolgkkknaaaGreatDoorTodo
set_option linter.unusedVariables false
set_option linter.unusedSimpArgs false
namespace Go.Proofs.YtjkenolgkkknaaaGreatDoor
open Go.RowKit
theorem info65 : (Tryz.prog.info? 65).map (fun i => (i.zero, i.size, i.bytes)) = some (some (.agg #[.int .i64 0, .bool false, .slice none 0 0, .string ByteArray.empty]), 4, 56) := by kernel_rfl
theorem info99 : (Tryz.prog.info? 99).map (fun i => (i.zero, i.size, i.bytes)) = some (some (.agg #[.string ByteArray.empty, .int .i64 0]), 2, 24) := by kernel_rfl
theorem info88 : (Tryz.prog.info? 88).map (fun i => (i.zero, i.size, i.bytes)) = some (some (.agg #[.int .i64 0, .int .i64 0, .int .i64 0]), 3, 24) := by kernel_rfl
theorem flat_at {α : Type} (k : Nat) : ∀ (rows : List (List α)), (∀ cs ∈ rows, cs.length = k) → ∀ q t, t < k → rows.flatten[q * k + t]? = (rows[q]?).bind fun cs => cs[t]?
  | [], _, q, t, _ => by simp
  | c :: r, h, q, t, ht => by
    have hc : c.length = k := h c (by simp)
    rw [List.flatten_cons]
    rcases q with _ | q
    · rw [Nat.zero_mul, Nat.zero_add, List.getElem?_append_left (by omega)]
      rfl
    · rw [List.getElem?_append_right (by rw [hc, Nat.add_mul]; omega), hc, show (q + 1) * k + t - k = q * k + t by rw [Nat.add_mul]; omega, flat_at k r (fun cs hcs => h cs (by simp [hcs])) q t ht]
      rfl
theorem flat_len {α : Type} (k : Nat) : ∀ (rows : List (List α)), (∀ cs ∈ rows, cs.length = k) → rows.flatten.length = rows.length * k
  | [], _ => by simp
  | c :: r, h => by
    rw [List.flatten_cons, List.length_append, flat_len k r (fun cs hcs => h cs (by simp [hcs])), h c (by simp), List.length_cons, Nat.add_mul]
    omega
/-- A row that is read, as one list of cells. -/
theorem RowAt.flat {w : World} {k : Nat} {v : Value} {rows : List (List Value)} (h : RowAt w k v rows) (hk : 0 < k) (hu : ∀ cs ∈ rows, cs.length = k) :
    ∃ a cap, v = .slice a rows.length cap ∧ ∀ x, a = some x → ∀ j u, rows.flatten[j]? = some u → w.cell? (x.add j) = some u := by
  obtain ⟨a, cap, rfl, hm, hr⟩ := h
  refine ⟨a, cap, rfl, fun x hx j u hj => ?_⟩
  have hjl : j < rows.length * k := by
    obtain ⟨h, _⟩ := List.getElem?_eq_some_iff.1 hj
    rwa [flat_len k rows hu] at h
  have hpos : 0 < rows.length := by
    rcases Nat.eq_zero_or_pos rows.length with h0 | h0
    · rw [h0, Nat.zero_mul] at hjl; omega
    · exact h0
  obtain ⟨b, off, hab, _, hc⟩ := hr hpos
  subst hx
  obtain rfl : x = ⟨b, off, none⟩ := by simpa using hab
  have hj2 : j = j / k * k + j % k := by rw [Nat.mul_comm]; exact (Nat.div_add_mod j k).symm
  rw [hj2] at hj ⊢
  have ht : j % k < k := Nat.mod_lt _ hk
  rw [flat_at k rows hu _ _ ht] at hj
  obtain ⟨cs, hcs, hcu⟩ := Option.bind_eq_some_iff.1 hj
  rw [Addr.add_lit]
  show w.cell? ⟨b, off + (j / k * k + j % k), none⟩ = some u
  rw [← Nat.add_assoc]
  exact hc _ _ hcs _ _ hcu
set_option maxRecDepth 100000 in
set_option maxHeartbeats 2000000 in
theorem clone67 (rows : List (List Value)) (v : Value) (w : World) (h : RowAt w 4 v rows) (hu : ∀ cs ∈ rows, cs.length = 4) (h1 : ∀ cs ∈ rows, ∀ u ∈ cs, u.oneCell' = true) (hn : rows.length ≤ 1000000000) :
    Calls Tryz.prog 67 #[v] w fun e w' => ∃ v', e = .returned v' ∧ w'.ownsRow w.heap.size 65 4 v' rows.length rows.flatten ∧ Below w.heap.size w w' := by
  obtain ⟨i0, hi, hz0, hz1, hz2⟩ := info_parts info65
  have hl := flat_len 4 rows hu
  have h1' : ∀ u ∈ rows.flatten, u.oneCell' = true := fun u hm => by
    obtain ⟨cs, hc, hm⟩ := List.mem_flatten.1 hm
    exact h1 cs hc u hm
  have h0' : RowAt w 4 v rows := h
  obtain ⟨a, cap, rfl, hc⟩ := h.flat (by decide) hu
  have q : ∀ (w : World) (a : Option Addr) (n c n' c' : Nat), (binOp .eql 23 (.slice a n c) (.slice none n' c')).run Tryz.prog w = .ok (.bool a.isNone) w := fun w a n c n' c' => Lib.run_eql_slice_nil w _ _ a n c n' c' Tryz.underlying23
  rcases a with _ | x
  · obtain ⟨a', c', e1, _, hr⟩ := h0'
    have hz : rows.length = 0 := by
      rcases Nat.eq_zero_or_pos rows.length with h0 | h0
      · exact h0
      · obtain ⟨b, off, hb, _⟩ := hr h0
        rw [hb] at e1
        simp at e1
    obtain rfl : rows = [] := List.eq_nil_of_length_eq_zero hz
    clear hc h1 h1' hr h
    go_enter Tryz.func67, Tryz.ntmps67
    go_wp2_with fail
    go_ret
    exact ⟨_, rfl, ⟨rfl, .inl ⟨rfl, rfl⟩⟩, bel _ _⟩
  · have A := Lib.hid (hc x rfl)
    clear hc h h0'
    go_enter Tryz.func67, Tryz.ntmps67
    go_wp2_with (at_builtin; refine wpList_append_own _ rfl _ _ 23 rfl w.heap.size 65 i0 (.agg #[.int .i64 0, .bool false, .slice none 0 0, .string ByteArray.empty]) 4 56 Tryz.underlying23 hi hz0 hz1 hz2 rfl (by decide) _ _ _ rfl (World.ownsRow_made w #[] 0 (Nat.le_refl _) (Nat.zero_le _) (by simp)) x rows.length cap rows.flatten rfl ?qc1 ?qc2 ?qc3 ?qc4 ?qc5 ?qc6 ?_)
    case qc1 => exact hl
    case qc2 =>
      intro j u hj
      exact Lib.cell?_alloc_some _ (A.out j u hj)
    case qc3 => exact h1'
    case qc4 => unfold maxLen; omega
    case qc5 => omega
    case qc6 => simp
    intro v' w1 hown hgrow hnil
    go_wp2_with fail
    go_ret
    refine ⟨v', rfl, by simpa using hown, ?_⟩
    exact ((Keep.refl (fun _ => False) w).alloc _ |>.grown hgrow (fun k hk => .inr (by simp [Value.ownBlock] at hk; omega))).below (Nat.le_refl _) (fun i _ h => h)
set_option maxRecDepth 100000 in
set_option maxHeartbeats 2000000 in
theorem clone68 (rows : List (List Value)) (v : Value) (w : World) (h : RowAt w 2 v rows) (hu : ∀ cs ∈ rows, cs.length = 2) (h1 : ∀ cs ∈ rows, ∀ u ∈ cs, u.oneCell' = true) (hn : rows.length ≤ 1000000000) :
    Calls Tryz.prog 68 #[v] w fun e w' => ∃ v', e = .returned v' ∧ w'.ownsRow w.heap.size 99 2 v' rows.length rows.flatten ∧ Below w.heap.size w w' := by
  obtain ⟨i0, hi, hz0, hz1, hz2⟩ := info_parts info99
  have hl := flat_len 2 rows hu
  have h1' : ∀ u ∈ rows.flatten, u.oneCell' = true := fun u hm => by
    obtain ⟨cs, hc, hm⟩ := List.mem_flatten.1 hm
    exact h1 cs hc u hm
  have h0' : RowAt w 2 v rows := h
  obtain ⟨a, cap, rfl, hc⟩ := h.flat (by decide) hu
  have q : ∀ (w : World) (a : Option Addr) (n c n' c' : Nat), (binOp .eql 63 (.slice a n c) (.slice none n' c')).run Tryz.prog w = .ok (.bool a.isNone) w := fun w a n c n' c' => Lib.run_eql_slice_nil w _ _ a n c n' c' Tryz.underlying63
  rcases a with _ | x
  · obtain ⟨a', c', e1, _, hr⟩ := h0'
    have hz : rows.length = 0 := by
      rcases Nat.eq_zero_or_pos rows.length with h0 | h0
      · exact h0
      · obtain ⟨b, off, hb, _⟩ := hr h0
        rw [hb] at e1
        simp at e1
    obtain rfl : rows = [] := List.eq_nil_of_length_eq_zero hz
    clear hc h1 h1' hr h
    go_enter Tryz.func68, Tryz.ntmps68
    go_wp2_with fail
    go_ret
    exact ⟨_, rfl, ⟨rfl, .inl ⟨rfl, rfl⟩⟩, bel _ _⟩
  · have A := Lib.hid (hc x rfl)
    clear hc h h0'
    go_enter Tryz.func68, Tryz.ntmps68
    go_wp2_with (at_builtin; refine wpList_append_own _ rfl _ _ 63 rfl w.heap.size 99 i0 (.agg #[.string ByteArray.empty, .int .i64 0]) 2 24 Tryz.underlying63 hi hz0 hz1 hz2 rfl (by decide) _ _ _ rfl (World.ownsRow_made w #[] 0 (Nat.le_refl _) (Nat.zero_le _) (by simp)) x rows.length cap rows.flatten rfl ?qc1 ?qc2 ?qc3 ?qc4 ?qc5 ?qc6 ?_)
    case qc1 => exact hl
    case qc2 =>
      intro j u hj
      exact Lib.cell?_alloc_some _ (A.out j u hj)
    case qc3 => exact h1'
    case qc4 => unfold maxLen; omega
    case qc5 => omega
    case qc6 => simp
    intro v' w1 hown hgrow hnil
    go_wp2_with fail
    go_ret
    refine ⟨v', rfl, by simpa using hown, ?_⟩
    exact ((Keep.refl (fun _ => False) w).alloc _ |>.grown hgrow (fun k hk => .inr (by simp [Value.ownBlock] at hk; omega))).below (Nat.le_refl _) (fun i _ h => h)
set_option maxRecDepth 100000 in
set_option maxHeartbeats 2000000 in
theorem clone69 (rows : List (List Value)) (v : Value) (w : World) (h : RowAt w 3 v rows) (hu : ∀ cs ∈ rows, cs.length = 3) (h1 : ∀ cs ∈ rows, ∀ u ∈ cs, u.oneCell' = true) (hn : rows.length ≤ 1000000000) :
    Calls Tryz.prog 69 #[v] w fun e w' => ∃ v', e = .returned v' ∧ w'.ownsRow w.heap.size 88 3 v' rows.length rows.flatten ∧ Below w.heap.size w w' := by
  obtain ⟨i0, hi, hz0, hz1, hz2⟩ := info_parts info88
  have hl := flat_len 3 rows hu
  have h1' : ∀ u ∈ rows.flatten, u.oneCell' = true := fun u hm => by
    obtain ⟨cs, hc, hm⟩ := List.mem_flatten.1 hm
    exact h1 cs hc u hm
  have h0' : RowAt w 3 v rows := h
  obtain ⟨a, cap, rfl, hc⟩ := h.flat (by decide) hu
  have q : ∀ (w : World) (a : Option Addr) (n c n' c' : Nat), (binOp .eql 24 (.slice a n c) (.slice none n' c')).run Tryz.prog w = .ok (.bool a.isNone) w := fun w a n c n' c' => Lib.run_eql_slice_nil w _ _ a n c n' c' Tryz.underlying24
  rcases a with _ | x
  · obtain ⟨a', c', e1, _, hr⟩ := h0'
    have hz : rows.length = 0 := by
      rcases Nat.eq_zero_or_pos rows.length with h0 | h0
      · exact h0
      · obtain ⟨b, off, hb, _⟩ := hr h0
        rw [hb] at e1
        simp at e1
    obtain rfl : rows = [] := List.eq_nil_of_length_eq_zero hz
    clear hc h1 h1' hr h
    go_enter Tryz.func69, Tryz.ntmps69
    go_wp2_with fail
    go_ret
    exact ⟨_, rfl, ⟨rfl, .inl ⟨rfl, rfl⟩⟩, bel _ _⟩
  · have A := Lib.hid (hc x rfl)
    clear hc h h0'
    go_enter Tryz.func69, Tryz.ntmps69
    go_wp2_with (at_builtin; refine wpList_append_own _ rfl _ _ 24 rfl w.heap.size 88 i0 (.agg #[.int .i64 0, .int .i64 0, .int .i64 0]) 3 24 Tryz.underlying24 hi hz0 hz1 hz2 rfl (by decide) _ _ _ rfl (World.ownsRow_made w #[] 0 (Nat.le_refl _) (Nat.zero_le _) (by simp)) x rows.length cap rows.flatten rfl ?qc1 ?qc2 ?qc3 ?qc4 ?qc5 ?qc6 ?_)
    case qc1 => exact hl
    case qc2 =>
      intro j u hj
      exact Lib.cell?_alloc_some _ (A.out j u hj)
    case qc3 => exact h1'
    case qc4 => unfold maxLen; omega
    case qc5 => omega
    case qc6 => simp
    intro v' w1 hown hgrow hnil
    go_wp2_with fail
    go_ret
    refine ⟨v', rfl, by simpa using hown, ?_⟩
    exact ((Keep.refl (fun _ => False) w).alloc _ |>.grown hgrow (fun k hk => .inr (by simp [Value.ownBlock] at hk; omega))).below (Nat.le_refl _) (fun i _ h => h)
set_option maxRecDepth 100000 in
set_option maxHeartbeats 2000000 in
theorem clone70 (rows : List (List Value)) (v : Value) (w : World) (h : RowAt w 1 v rows) (hu : ∀ cs ∈ rows, cs.length = 1) (h1 : ∀ cs ∈ rows, ∀ u ∈ cs, u.oneCell' = true) (hn : rows.length ≤ 1000000000) :
    Calls Tryz.prog 70 #[v] w fun e w' => ∃ v', e = .returned v' ∧ w'.ownsRow w.heap.size 3 1 v' rows.length rows.flatten ∧ Below w.heap.size w w' := by
  obtain ⟨i0, hi, hz0, hz1, hz2⟩ := info_parts info3
  have hl := flat_len 1 rows hu
  have h1' : ∀ u ∈ rows.flatten, u.oneCell' = true := fun u hm => by
    obtain ⟨cs, hc, hm⟩ := List.mem_flatten.1 hm
    exact h1 cs hc u hm
  have h0' : RowAt w 1 v rows := h
  obtain ⟨a, cap, rfl, hc⟩ := h.flat (by decide) hu
  have q : ∀ (w : World) (a : Option Addr) (n c n' c' : Nat), (binOp .eql 25 (.slice a n c) (.slice none n' c')).run Tryz.prog w = .ok (.bool a.isNone) w := fun w a n c n' c' => Lib.run_eql_slice_nil w _ _ a n c n' c' Tryz.underlying25
  rcases a with _ | x
  · obtain ⟨a', c', e1, _, hr⟩ := h0'
    have hz : rows.length = 0 := by
      rcases Nat.eq_zero_or_pos rows.length with h0 | h0
      · exact h0
      · obtain ⟨b, off, hb, _⟩ := hr h0
        rw [hb] at e1
        simp at e1
    obtain rfl : rows = [] := List.eq_nil_of_length_eq_zero hz
    clear hc h1 h1' hr h
    go_enter Tryz.func70, Tryz.ntmps70
    go_wp2_with fail
    go_ret
    exact ⟨_, rfl, ⟨rfl, .inl ⟨rfl, rfl⟩⟩, bel _ _⟩
  · have A := Lib.hid (hc x rfl)
    clear hc h h0'
    go_enter Tryz.func70, Tryz.ntmps70
    go_wp2_with (at_builtin; refine wpList_append_own _ rfl _ _ 25 rfl w.heap.size 3 i0 (.int .i64 0) 1 8 Tryz.underlying25 hi hz0 hz1 hz2 rfl (by decide) _ _ _ rfl (World.ownsRow_made w #[] 0 (Nat.le_refl _) (Nat.zero_le _) (by simp)) x rows.length cap rows.flatten rfl ?qc1 ?qc2 ?qc3 ?qc4 ?qc5 ?qc6 ?_)
    case qc1 => exact hl
    case qc2 =>
      intro j u hj
      exact Lib.cell?_alloc_some _ (A.out j u hj)
    case qc3 => exact h1'
    case qc4 => unfold maxLen; omega
    case qc5 => omega
    case qc6 => simp
    intro v' w1 hown hgrow hnil
    go_wp2_with fail
    go_ret
    refine ⟨v', rfl, by simpa using hown, ?_⟩
    exact ((Keep.refl (fun _ => False) w).alloc _ |>.grown hgrow (fun k hk => .inr (by simp [Value.ownBlock] at hk; omega))).below (Nat.le_refl _) (fun i _ h => h)
end Go.Proofs.YtjkenolgkkknaaaGreatDoor
