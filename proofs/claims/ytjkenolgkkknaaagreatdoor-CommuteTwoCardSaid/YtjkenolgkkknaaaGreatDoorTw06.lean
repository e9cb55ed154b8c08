/- A state that a call owns, each row in a block of its own. Conditions: none. model.Clone: a state read becomes a state of the call's own. Conditions: none. Codes that are thrown; a path's names or a code. Conditions: none. model.walk: from the root on, name by name. Conditions: none. A call as data; the doer; at, file, may. Conditions: none. doer.file: the file of a descriptor. Conditions: none. -/
import Derived.Test.YtjkenolgkkknaaaGreatDoorTw05
import Derived.Test.YtjkenolgkkknaaaGreatDoorTw03
set_option linter.unusedVariables false
set_option linter.unusedSimpArgs false
namespace Go.Proofs.YtjkenolgkkknaaaGreatDoor
open Go.RowKit
def RowsIn (arr : Array Value) (k : Nat) (rows : List (List Value)) : Prop := ∀ (q : Nat) (cs : List Value), rows[q]? = some cs → ∀ (t : Nat) (u : Value), cs[t]? = some u → arr[q * k + t]? = some u
/-- A slice of the call's own, from its block's first cell on. -/
def OwnP (B : Nat) (w : World) (e : TypeId) (k : Nat) (v : Value) (rows : List (List Value)) : Prop :=
  (v = .slice none 0 0 ∧ rows = []) ∨ ∃ g cap arr, v = .slice (some ⟨g, 0, none⟩) rows.length cap ∧ B ≤ g ∧ Blk w g arr e ∧ rows.length ≤ cap ∧ cap ≤ maxLen ∧ arr.size = cap * k ∧ RowsIn arr k rows
theorem OwnP.of_own {B : Nat} {w : World} {e : TypeId} {k : Nat} {v : Value} {rows : List (List Value)} (h : w.ownsRow B e k v rows.length rows.flatten) (hk : 0 < k) (hu : ∀ cs ∈ rows, cs.length = k) : OwnP B w e k v rows := by
  obtain ⟨hl, h0 | ⟨g, cap, cur, rfl, hg, hb, hn, hm, hs, ht⟩⟩ := h
  · exact .inl ⟨h0.1, List.eq_nil_of_length_eq_zero h0.2⟩
  · refine .inr ⟨g, cap, cur, rfl, hg, hb, hn, hm, hs, fun q cs hq t u hc => ?_⟩
    have htk : t < k := by
      have := hu cs (List.mem_of_getElem? hq)
      obtain ⟨h, _⟩ := List.getElem?_eq_some_iff.1 hc
      omega
    obtain ⟨hql, _⟩ := List.getElem?_eq_some_iff.1 hq
    have h1 : rows.flatten[q * k + t]? = some u := by rw [flat_at k rows hu q t htk, hq]; exact hc
    rw [← ht, List.getElem?_take] at h1
    have : q * k + t < rows.length * k := by
      have h2 : (q + 1) * k ≤ rows.length * k := Nat.mul_le_mul_right _ (by omega)
      rw [Nat.add_mul, Nat.one_mul] at h2
      omega
    rw [if_pos this] at h1
    simpa using h1
theorem OwnP.own {B : Nat} {w : World} {e : TypeId} {k : Nat} {v : Value} {rows : List (List Value)} (h : OwnP B w e k v rows) (hk : 0 < k) (hu : ∀ cs ∈ rows, cs.length = k) : w.ownsRow B e k v rows.length rows.flatten := by
  refine ⟨flat_len k rows hu, ?_⟩
  rcases h with ⟨rfl, rfl⟩ | ⟨g, cap, cur, rfl, hg, hb, hn, hm, hs, hr⟩
  · exact .inl ⟨rfl, rfl⟩
  · refine .inr ⟨g, cap, cur, rfl, hg, hb, hn, hm, hs, ?_⟩
    apply List.ext_getElem?
    intro i
    have hl := flat_len k rows hu
    rw [List.getElem?_take]
    by_cases hi : i < rows.length * k
    · rw [if_pos hi]
      have hi2 : i = i / k * k + i % k := by rw [Nat.mul_comm]; exact (Nat.div_add_mod i k).symm
      have ht : i % k < k := Nat.mod_lt _ hk
      have hq : i / k < rows.length := Nat.div_lt_of_lt_mul (by rwa [Nat.mul_comm])
      have hlen := hu rows[i / k] (List.getElem_mem hq)
      have h1 := hr (i / k) rows[i / k] (List.getElem?_eq_getElem hq) (i % k) rows[i / k][i % k] (List.getElem?_eq_getElem (by omega))
      have key : ∀ j, j = i / k * k + i % k → cur.toList[j]? = rows.flatten[j]? := by
        intro j hj
        rw [hj, flat_at k rows hu _ _ ht, List.getElem?_eq_getElem hq]
        show _ = rows[i / k][i % k]?
        rw [show rows[i / k][i % k]? = some rows[i / k][i % k] from List.getElem?_eq_getElem (by omega), ← h1]
        simp
      exact key i hi2
    · rw [if_neg hi, List.getElem?_eq_none (by omega)]
theorem OwnP.row {B : Nat} {w : World} {e : TypeId} {k : Nat} {v : Value} {rows : List (List Value)} (h : OwnP B w e k v rows) : RowAt w k v rows := by
  rcases h with ⟨rfl, rfl⟩ | ⟨g, cap, cur, rfl, hg, hb, hn, hm, hs, hr⟩
  · exact ⟨none, 0, rfl, by simp, fun h => absurd h (by simp)⟩
  · exact ⟨_, _, rfl, by omega, fun _ => ⟨g, 0, rfl, hb.lt.lt, fun q cs hq t u hc => by rw [hb.cell, Nat.zero_add]; exact hr q cs hq t u hc⟩⟩
theorem OwnP.keep {B : Nat} {w w' : World} {e : TypeId} {k : Nat} {v : Value} {rows : List (List Value)} {S : Nat → Prop} (h : OwnP B w e k v rows) (hk : Keep S w w') (hn : ∀ g, v.ownBlock = some g → ¬ S g) : OwnP B w' e k v rows := by
  rcases h with h | ⟨g, cap, cur, rfl, hg, hb, r⟩
  · exact .inl h
  · exact .inr ⟨g, cap, cur, rfl, hg, hk.blk hb (hn g rfl), r⟩
theorem OwnP.mono {B B' : Nat} {w : World} {e : TypeId} {k : Nat} {v : Value} {rows : List (List Value)} (h : OwnP B w e k v rows) (hb : B' ≤ B) : OwnP B' w e k v rows := by
  rcases h with h | ⟨g, cap, cur, rfl, hg, r⟩
  · exact .inl h
  · exact .inr ⟨g, cap, cur, rfl, by omega, r⟩
theorem OwnP.ge {B : Nat} {w : World} {e : TypeId} {k : Nat} {v : Value} {rows : List (List Value)} (h : OwnP B w e k v rows) {g : Nat} (hg : v.ownBlock = some g) : B ≤ g := by
  rcases h with ⟨rfl, _⟩ | ⟨g', cap, cur, rfl, hg', r⟩
  · simp [Value.ownBlock] at hg
  · simp [Value.ownBlock] at hg; omega
theorem OwnP.lt {B : Nat} {w : World} {e : TypeId} {k : Nat} {v : Value} {rows : List (List Value)} (h : OwnP B w e k v rows) {g : Nat} (hg : v.ownBlock = some g) : g < w.heap.size := by
  rcases h with ⟨rfl, _⟩ | ⟨g', cap, cur, rfl, hg', hb, r⟩
  · simp [Value.ownBlock] at hg
  · simp [Value.ownBlock] at hg; subst hg; exact hb.lt.lt
theorem OwnP.ne_blk {B : Nat} {w : World} {e t : TypeId} {k b : Nat} {v : Value} {rows : List (List Value)} {c : Array Value} (h : OwnP B w e k v rows) (hb : Blk w b c t) (hne : e ≠ t) {g : Nat} (hg : v.ownBlock = some g) : g ≠ b := by
  rcases h with ⟨rfl, _⟩ | ⟨g', cap, cur, rfl, hg', hb', r⟩
  · simp [Value.ownBlock] at hg
  · simp [Value.ownBlock] at hg; subst hg; exact hb'.ne_ hb hne
theorem OwnP.one {B : Nat} {w : World} {e : TypeId} {k : Nat} {v : Value} {rows : List (List Value)} (h : OwnP B w e k v rows) : v.oneCell' = true := by
  rcases h with ⟨rfl, _⟩ | ⟨g', cap, cur, rfl, _⟩ <;> rfl
theorem RowsIn.set {arr : Array Value} {k : Nat} {rows : List (List Value)} (h : RowsIn arr k rows) (hu : ∀ cs ∈ rows, cs.length = k) {q t : Nat} {cs : List Value} (hq : rows[q]? = some cs) (ht : t < k) (hs : q * k + t < arr.size) (u : Value) : RowsIn (arr.setIfInBounds (q * k + t) u) k (rows.set q (cs.set t u)) := by
  intro q' cs' hq' t' u' hc'
  obtain ⟨hql, _⟩ := List.getElem?_eq_some_iff.1 hq
  have hcl := hu cs (List.mem_of_getElem? hq)
  by_cases e : q = q'
  · subst e
    rw [List.getElem?_set_self hql] at hq'
    cases hq'
    by_cases e2 : t = t'
    · subst e2
      rw [List.getElem?_set_self (by omega)] at hc'
      cases hc'
      rw [Array.getElem?_setIfInBounds, if_pos rfl, if_pos hs]
    · rw [List.getElem?_set_ne e2] at hc'
      rw [Array.getElem?_setIfInBounds, if_neg (by omega)]
      exact h q cs hq t' u' hc'
  · rw [List.getElem?_set_ne e] at hq'
    have ht' : t' < k := by
      have := hu cs' (List.mem_of_getElem? hq')
      obtain ⟨h, _⟩ := List.getElem?_eq_some_iff.1 hc'
      omega
    rw [Array.getElem?_setIfInBounds, if_neg ?_]
    · exact h q' cs' hq' t' u' hc'
    · intro hh
      rcases Nat.lt_or_gt_of_ne e with h | h
      · have := Nat.mul_le_mul_right k (show q + 1 ≤ q' from h)
        rw [Nat.add_mul] at this
        omega
      · have := Nat.mul_le_mul_right k (show q' + 1 ≤ q from h)
        rw [Nat.add_mul] at this
        omega
theorem irec_len : ∀ (is : List IRec), ∀ cs ∈ is.map IRec.cells, cs.length = 4 := by
  intro is cs h
  obtain ⟨r, _, rfl⟩ := List.mem_map.1 h
  rfl
theorem pent_len : ∀ (es : List PEnt), ∀ cs ∈ es.map PEnt.cells, cs.length = 2 := by
  intro es cs h
  obtain ⟨r, _, rfl⟩ := List.mem_map.1 h
  rfl
theorem pdesc_len : ∀ (es : List PDesc), ∀ cs ∈ es.map PDesc.cells, cs.length = 3 := by
  intro es cs h
  obtain ⟨r, _, rfl⟩ := List.mem_map.1 h
  rfl
theorem int_len : ∀ (es : List Int), ∀ cs ∈ es.map intCells, cs.length = 1 := by
  intro es cs h
  obtain ⟨r, _, rfl⟩ := List.mem_map.1 h
  rfl
theorem irec_one : ∀ (is : List IRec), ∀ cs ∈ is.map IRec.cells, ∀ u ∈ cs, u.oneCell' = true := by
  intro is cs h u hu
  obtain ⟨r, _, rfl⟩ := List.mem_map.1 h
  simp only [IRec.cells, List.mem_cons, List.not_mem_nil, or_false] at hu
  rcases hu with rfl | rfl | rfl | rfl <;> first | rfl | exact r.one
theorem pent_one : ∀ (is : List PEnt), ∀ cs ∈ is.map PEnt.cells, ∀ u ∈ cs, u.oneCell' = true := by
  intro is cs h u hu
  obtain ⟨r, _, rfl⟩ := List.mem_map.1 h
  simp only [PEnt.cells, List.mem_cons, List.not_mem_nil, or_false] at hu
  rcases hu with rfl | rfl <;> rfl
theorem pdesc_one : ∀ (is : List PDesc), ∀ cs ∈ is.map PDesc.cells, ∀ u ∈ cs, u.oneCell' = true := by
  intro is cs h u hu
  obtain ⟨r, _, rfl⟩ := List.mem_map.1 h
  simp only [PDesc.cells, List.mem_cons, List.not_mem_nil, or_false] at hu
  rcases hu with rfl | rfl | rfl <;> rfl
theorem int_one : ∀ (is : List Int), ∀ cs ∈ is.map intCells, ∀ u ∈ cs, u.oneCell' = true := by
  intro is cs h u hu
  obtain ⟨r, _, rfl⟩ := List.mem_map.1 h
  simp only [intCells, List.mem_cons, List.not_mem_nil, or_false] at hu
  subst hu; rfl
/-- A state of the call's own. -/
def StOwn (B : Nat) (w : World) (iv ov mv : Value) (S : PSt) : Prop :=
  OwnP B w 88 3 ov (S.op.map PDesc.cells) ∧ OwnP B w 3 1 mv (S.made.map intCells) ∧ ∃ is : List IRec, OwnP B w 65 4 iv (is.map IRec.cells) ∧ is.length = S.ins.length ∧
    (∀ (q : Nat) (r : IRec) (x : PIn), is[q]? = some r → S.ins[q]? = some x → r.num = x.num ∧ r.dir = x.dir ∧ r.data = x.data ∧ OwnP B w 99 2 r.ev (x.ents.map PEnt.cells)) ∧
    ∀ (p q : Nat) (r r' : IRec), p ≠ q → is[p]? = some r → is[q]? = some r' → ∀ g, r.ev.ownBlock = some g → r'.ev.ownBlock ≠ some g
theorem StOwn.read {B : Nat} {w : World} {iv ov mv : Value} {S : PSt} (h : StOwn B w iv ov mv S) : StRead w iv ov mv S := by
  obtain ⟨h1, h2, is, h3, h4, h5, _⟩ := h
  exact ⟨h1.row, h2.row, is, h3.row, h4, fun q r x hr hx => by
    obtain ⟨a1, a2, a3, a4⟩ := h5 q r x hr hx
    exact ⟨a1, a2, a3, a4.row⟩⟩
end Go.Proofs.YtjkenolgkkknaaaGreatDoor
namespace Go.Proofs.YtjkenolgkkknaaaGreatDoor
open Go.RowKit
theorem own_one {w : World} {B n k : Nat} {e : TypeId} {v : Value} {xs : List Value} (h : w.ownsRow B e k v n xs) : v.oneCell' = true := by
  obtain ⟨_, ⟨rfl, _⟩ | ⟨g, cap, cur, rfl, _⟩⟩ := h <;> rfl
/-- In the middle of Clone: the first q inodes' entries are copied. -/
structure ClAt (w : World) (iv iv' ov mv : Value) (S : PSt) (q : Nat) (wr : World) : Prop where
  le : q ≤ S.ins.length
  rows : ∃ is : List IRec, OwnP w.heap.size wr 65 4 iv' (is.map IRec.cells) ∧ is.length = S.ins.length ∧
    (∀ (j : Nat) (r : IRec) (x : PIn), is[j]? = some r → S.ins[j]? = some x → r.num = x.num ∧ r.dir = x.dir ∧ r.data = x.data ∧ (j < q → OwnP w.heap.size wr 99 2 r.ev (x.ents.map PEnt.cells)) ∧ (q ≤ j → RowAt w 2 r.ev (x.ents.map PEnt.cells))) ∧
    ∀ (p j : Nat) (r r' : IRec), p ≠ j → p < q → j < q → is[p]? = some r → is[j]? = some r' → ∀ g, r.ev.ownBlock = some g → r'.ev.ownBlock ≠ some g
  below : Below w.heap.size w wr
  box : Blk wr w.heap.size #[iv', ov, mv] 27
  out : ∃ c, Blk wr (w.heap.size + 1) c 27 ∧ c.size = 3
set_option maxRecDepth 100000 in
set_option maxHeartbeats 4000000 in
theorem clone39 (iv ov mv : Value) (S : PSt) (w : World) (h : StRead w iv ov mv S) (hwf : S.wf) :
    Calls Tryz.prog 39 #[.agg #[iv, ov, mv]] w fun e w' => ∃ iv' ov' mv', e = .returned (.agg #[iv', ov', mv']) ∧ Below w.heap.size w w' ∧ StOwn w.heap.size w' iv' ov' mv' S := by
  have hi1 : iv.oneCell' = true := by obtain ⟨_, _, _, h3, _⟩ := h; exact h3.one
  have ho1 := h.1.one
  have hm1 := h.2.1.one
  obtain ⟨hop, hmade, is0, hrow, his, hrec⟩ := h
  have hlen := hwf.1
  have h67 : ∀ ww, Below w.heap.size w ww → Calls Tryz.prog 67 #[iv] ww _ := fun ww hb => clone67 (is0.map IRec.cells) iv ww (hrow.below hb (Nat.le_refl _)) (irec_len _) (irec_one _) (by rw [List.length_map]; omega)
  have H0 := Lib.hid (And.intro hop (And.intro hmade (And.intro hrow (And.intro his (And.intro hrec hwf)))))
  clear hop hmade hrow hrec hwf
  go_enter Tryz.func39, Tryz.ntmps39
  go_wp2_with (go_at_call 67; refine (h67 _ (bel _ _)).mono ?_; rintro e w1 ⟨iv', rfl, hown, hb1⟩; have hP := (OwnP.of_own hown (by decide) (irec_len _)).mono (bel w _).size; rw [List.length_map, his] at hown; obtain ⟨ga, gc, rfl⟩ := own_form hown; have hbox : Blk w1 w.heap.size #[iv, ov, mv] 27 := ((Blk.new w _ 27).alloc _).below hb1 (by simp; omega); have hres : Blk w1 (w.heap.size + 1) #[.slice none 0 0, .slice none 0 0, .slice none 0 0] 27 := (Blk.new_i (w.alloc (.cells #[iv, ov, mv] 27)) _ 27 _).below hb1 (by simp); have hbw := (bel w _).trans (hb1.mono (bel w _).size); have iBw : Bel w w1 := ⟨hbw⟩; have iX := hbox.lt; have iR := hres.lt; have x0 := hbox.cell 0; have fx0 := hbox.frozen 0; have x1 := hbox.cell 1; have x2 := hbox.cell 2; simp only [List.getElem?_toArray, List.getElem?_cons_zero, List.getElem?_cons_succ] at x0 x1 x2; have H1 := Lib.hid (And.intro hP (And.intro hbw (And.intro hbox hres))); clear hown hb1 hP hbw hbox hres)
  go_loopw [11] (fun i wr => ∃ (q : Nat), i = .int .i64 q ∧ ClAt w iv (.slice ga S.ins.length gc) ov mv S q wr) (fun i _ => (S.ins.length - intOf i).toNat)
  case atStart =>
    obtain ⟨hP, hbw, hbox, hres⟩ := H1.out
    have hk : Keep (fun g => g = w.heap.size) w1 (w1.setCell ⟨w.heap.size, 0, none⟩ (.slice ga S.ins.length gc)) := Keep.setCell (S := fun g => g = w.heap.size) (p := ⟨w.heap.size, 0, none⟩) (Keep.refl _ w1) (.inl rfl) _
    refine ⟨0, rfl, by omega, ⟨is0, hP.keep hk (fun g hg => hP.ne_blk hbox (by decide) hg), his, ?_, fun p j r r' _ h => by omega⟩, bel _ _, ?_, ⟨_, hk.blk hres (by omega), rfl⟩⟩
    · intro j r x hr hx
      obtain ⟨e1, e2, e3, e4⟩ := H0.out.2.2.2.2.1 j r x hr hx
      exact ⟨e1, e2, e3, fun h => by omega, fun _ => e4⟩
    · exact hbox.set_ 0 _
  case round =>
    obtain ⟨q, rfl, hc⟩ := hrel
    have hcb := hc.below
    have iB : Bel w wr := ⟨hcb⟩
    have iX' := hc.box.lt
    have x0' := hc.box.cell 0
    have x1' := hc.box.cell 1
    have x2' := hc.box.cell 2
    simp only [List.getElem?_toArray, List.getElem?_cons_zero, List.getElem?_cons_succ] at x0' x1' x2'
    have hle := hc.le
    by_cases hlt : q < S.ins.length
    · obtain ⟨is, hO, hil, hrec, hdis⟩ := hc.rows
      have hO' := hO
      rcases hO' with ⟨h0, h1⟩ | ⟨g, cap, arr, he, hgB, hgb, hnc, hcm, hsz, hri⟩
      · have : is.length = 0 := by
          have := congrArg List.length h1
          simpa using this
        omega
      rw [List.length_map, hil] at he hnc
      simp only [Value.slice.injEq] at he
      obtain ⟨rfl, -, rfl⟩ := he
      obtain ⟨r, hr⟩ : ∃ r, is[q]? = some r := ⟨_, List.getElem?_eq_getElem (by omega)⟩
      obtain ⟨x, hx⟩ : ∃ x, S.ins[q]? = some x := ⟨_, List.getElem?_eq_getElem hlt⟩
      obtain ⟨r1, r2, r3, _, r4⟩ := hrec q r x hr hx
      have hm : (is.map IRec.cells)[q]? = some r.cells := by rw [List.getElem?_map, hr]; rfl
      have g2 : wr.cell? ⟨g, q * 4 + 2, none⟩ = some r.ev := by rw [hgb.cell]; exact hri q _ hm 2 _ rfl
      have iG := hgb.lt
      have hxe := (H0.out.2.2.2.2.2.2.2.2.1 x (List.mem_of_getElem? hx)).2.1
      have hone := r.one
      have h68 : ∀ ww, Below w.heap.size w ww → Calls Tryz.prog 68 #[r.ev] ww _ := fun ww hb => clone68 (x.ents.map PEnt.cells) r.ev ww ((r4 (Nat.le_refl _)).below hb (Nat.le_refl _)) (pent_len _) (pent_one _) (by rw [List.length_map]; exact hxe)
      have HC := Lib.hid (And.intro hc (And.intro hO (And.intro hgb (And.intro hri (And.intro hrec (And.intro hdis (And.intro hr (And.intro hx (And.intro hsz hil)))))))))
      clear hc hO hgb hri hrec hdis hr hx r1 r2 r3 r4 hm hxe hsz hil
      go_upto_region 5 with fail
      have iQ : 0 ≤ (q : Int) ∧ (q : Int) < S.ins.length := by omega
      refine wp_region_eff [9, 12] true (fun w' => w'.cell? ⟨w.heap.size, 0, none⟩ = some (.slice (some ⟨g, 0, none⟩) S.ins.length gc) ∧ w'.cell? ⟨g, q * 4 + 2, none⟩ = some r.ev) (by kernel_rfl) (by kernel_rfl) ?_ ?_
      · (try dsimp only); (repeat' apply And.intro) <;> go_simp
      repeat
        refine wpL_look rfl rfl ?_
        apply Exists.intro
        refine ⟨?_, ?_⟩
        focus
          rintro w' ⟨s0, s1⟩
          go_simp
          first | done | rfl
        simp only [Act.put, List.setIfInBounds_toArray, List.set_cons_zero, List.set_cons_succ]
      refine wpL_act rfl rfl ?_
      refine eff_call 68 #[r.ev] ?hr ?_
      case hr =>
        go_simp
        first | done | rfl
      refine (h68 wr.drew (bel w _)).mono ?_
      rintro e w2 ⟨v', rfl, hown2, hb2⟩
      have hP2 := OwnP.of_own hown2 (by decide) (pent_len _)
      have hone2 := own_one hown2
      rw [List.length_map] at hown2
      obtain ⟨va, vc, rfl⟩ := own_form hown2
      have hbox2 := (HC.out.1.box.drew).below hb2 iX'.lt
      have hgb2 := (HC.out.2.2.1.drew).below hb2 iG.lt
      have iX2 := hbox2.lt
      have iG2 := hgb2.lt
      have y0 := hbox2.cell 0
      simp only [List.getElem?_toArray, List.getElem?_cons_zero, List.getElem?_cons_succ] at y0
      have y2 : w2.cell? ⟨g, q * 4 + 2, none⟩ = some r.ev := by
        rw [hgb2.cell]
        exact HC.out.2.2.2.1 q _ (by rw [List.getElem?_map, HC.out.2.2.2.2.2.2.1]; rfl) 2 _ rfl
      have fz := hgb2.frozen (q * 4 + 2)
      have H2 := Lib.hid (And.intro hP2 (And.intro hb2 (And.intro hbox2 hgb2)))
      clear hown2 hP2 hb2 hbox2 hgb2
      refine ⟨_, rfl, .inl ⟨y0, y2⟩, ?_⟩
      simp only [Act.put, List.setIfInBounds_toArray, List.set_cons_zero, List.set_cons_succ]
      repeat
        refine wpL_look rfl rfl ?_
        apply Exists.intro
        refine ⟨?_, ?_⟩
        focus
          rintro w' ⟨s0, s1⟩
          go_simp
          first | done | rfl
        simp only [Act.put, List.setIfInBounds_toArray, List.set_cons_zero, List.set_cons_succ]
      refine wpL_skip rfl rfl ?_
      apply Exists.intro
      refine ⟨?_, .inr ⟨rfl, rfl⟩, ?_⟩
      focus
        go_simp
        rfl
      simp only [Act.put]
      refine wpL_end ?_
      go_wp2_with fail
      go_roundw
      case rel =>
        obtain ⟨hc, hO, hgb, hri, hrec, hdis, hr, hx, hsz, hil⟩ := HC.out
        obtain ⟨hP2, hb2, hbox2, hgb2⟩ := H2.out
        obtain ⟨r1, r2, r3, _, _⟩ := hrec q r x hr hx
        obtain ⟨c, hout, hcs⟩ := hc.out
        have hgl := hgb.lt.lt
        have hsw := hcb.size
        have hK : Keep (fun k => k = g) wr (w2.setCell ⟨g, q * 4 + 2, none⟩ (.slice va x.ents.length vc)) :=
          Keep.setCell (S := fun k => k = g) (p := ⟨g, q * 4 + 2, none⟩) (Keep.of_below (show Below wr.heap.size wr w2 from (Below.refl wr.heap.size wr).drew.trans hb2) _) (.inl rfl) _
        have hK2 : Keep (fun k => k = g) w2 (w2.setCell ⟨g, q * 4 + 2, none⟩ (.slice va x.ents.length vc)) :=
          Keep.setCell (S := fun k => k = g) (p := ⟨g, q * 4 + 2, none⟩) (Keep.refl _ _) (.inl rfl) _
        have hql : q < is.length := by omega
        have hup : ∀ k, w.heap.size ≤ k → ∀ (hk : k < wr.heap.size), k ≠ g → True := fun _ _ _ _ => trivial
        have hmset : (is.map IRec.cells).set q (r.cells.set 2 (.slice va x.ents.length vc)) = (is.set q ⟨r.num, r.dir, .slice va x.ents.length vc, r.data, rfl⟩).map IRec.cells := by
          rw [List.map_set]
          rfl
        refine ⟨q + 1, by go_num, by omega, ⟨is.set q ⟨r.num, r.dir, .slice va x.ents.length vc, r.data, rfl⟩, .inr ⟨g, gc, arr.setIfInBounds (q * 4 + 2) (.slice va x.ents.length vc), by rw [List.length_map, List.length_set, hil], hgB, hgb2.set_ _ _, by rw [List.length_map, List.length_set]; omega, hcm, by rw [Array.size_setIfInBounds]; exact hsz, ?_⟩, by rw [List.length_set]; exact hil, ?_, ?_⟩, ?_, ?_, ?_⟩
        · rw [← hmset]
          exact hri.set (irec_len _) (by rw [List.getElem?_map, hr]; rfl) (by decide) (by omega) _
        · intro j r'' x'' hr'' hx''
          by_cases e : q = j
          · subst e
            rw [List.getElem?_set_self hql] at hr''
            rw [hx] at hx''
            cases hr''
            cases hx''
            exact ⟨r1, r2, r3, fun _ => ((hP2.mono (show w.heap.size ≤ wr.drew.heap.size from hsw)).keep hK2 (fun k hk => hP2.ne_blk hgb2 (by decide) hk)), fun h => by omega⟩
          · rw [List.getElem?_set_ne e] at hr''
            obtain ⟨a1, a2, a3, a4, a5⟩ := hrec j r'' x'' hr'' hx''
            exact ⟨a1, a2, a3, fun h => (a4 (by omega)).keep hK (fun k hk => (a4 (by omega)).ne_blk hgb (by decide) hk), fun h => a5 (by omega)⟩
        · intro p j ra rb hpj hp hj ha hb k hk
          have hold : ∀ (j : Nat) (rb : IRec), j < q → is[j]? = some rb → ∀ k, rb.ev.ownBlock = some k → k < wr.heap.size := by
            intro j rb hj hb k hk
            obtain ⟨xb, hxb⟩ : ∃ xb, S.ins[j]? = some xb := ⟨_, List.getElem?_eq_getElem (by omega)⟩
            exact ((hrec j rb xb hb hxb).2.2.2.1 hj).lt hk
          by_cases e : q = p
          · subst e
            rw [List.getElem?_set_self hql] at ha
            rw [List.getElem?_set_ne hpj] at hb
            cases ha
            intro h
            have h1 := hold j rb (by omega) hb k h
            have h2 := hP2.ge hk
            have h3 : wr.drew.heap.size = wr.heap.size := rfl
            omega
          · rw [List.getElem?_set_ne e] at ha
            by_cases e2 : q = j
            · subst e2
              rw [List.getElem?_set_self hql] at hb
              cases hb
              intro h
              have h1 := hold p ra (by omega) ha k hk
              have h2 := hP2.ge h
              have h3 : wr.drew.heap.size = wr.heap.size := rfl
              omega
            · rw [List.getElem?_set_ne e2] at hb
              exact hdis p j ra rb hpj (by omega) (by omega) ha hb k hk
        · exact hcb.trans (hK.below hsw (fun i hi h => by omega))
        · exact hbox2.far (fun e => (hgb.ne_ hc.box (by decide)) (by simpa using e.symm)) _
        · exact ⟨c, hK.blk hout (fun e => (hgb.ne_ hout (by decide)) e.symm), hcs⟩
      case measure => simp [intOf]; omega
    · have hq : q = S.ins.length := by omega
      have HC := Lib.hid hc
      have HQ := Lib.hid hq
      obtain ⟨c, hout, hcs⟩ := hc.out
      have iR' := hout.lt
      have hR0 : ∀ i, i < 3 → ∃ u, wr.cell? ⟨w.heap.size + 1, i, none⟩ = some u := fun i hi => by rw [hout.cell]; exact ⟨_, Array.getElem?_eq_getElem (by omega)⟩
      obtain ⟨u0, z0⟩ := hR0 0 (by omega)
      obtain ⟨u1, z1⟩ := hR0 1 (by omega)
      obtain ⟨u2, z2⟩ := hR0 2 (by omega)
      have f0 := hout.frozen 0
      have f1 := hout.frozen 1
      have f2 := hout.frozen 2
      have fx1 := hc.box.frozen 1
      have fx2 := hc.box.frozen 2
      have h69 : ∀ ww, Below w.heap.size w ww → Calls Tryz.prog 69 #[ov] ww _ := fun ww hb => clone69 (S.op.map PDesc.cells) ov ww (H0.out.1.below hb (Nat.le_refl _)) (pdesc_len _) (pdesc_one _) (by rw [List.length_map]; exact H0.out.2.2.2.2.2.2.1)
      have h70 : ∀ ww, Below w.heap.size w ww → Calls Tryz.prog 70 #[mv] ww _ := fun ww hb => clone70 (S.made.map intCells) mv ww (H0.out.2.1.below hb (Nat.le_refl _)) (int_len _) (int_one _) (by rw [List.length_map]; exact H0.out.2.2.2.2.2.2.2.1)
      clear hc hq hout hR0 hcs
      go_upto_region 7 with fail
      have x1b := x1'
      go_cut [] (fun wx => ∃ ov' mv', Blk wx w.heap.size #[.slice ga S.ins.length gc, ov', mv'] 27 ∧ Keep (fun k => k = w.heap.size) wr wx ∧ OwnP wr.heap.size wx 88 3 ov' (S.op.map PDesc.cells) ∧ OwnP wr.heap.size wx 3 1 mv' (S.made.map intCells))
      case first =>
        refine wp_region_eff [1, 2, 5, 7, 9] true (fun w' => w'.cell? ⟨w.heap.size, 2, none⟩ = some mv) (by kernel_rfl) (by kernel_rfl) ?_ ?_
        · go_simp
        repeat
          refine wpL_look rfl rfl ?_
          apply Exists.intro
          refine ⟨?_, ?_⟩
          focus
            rintro w' s0
            go_simp
            first | done | rfl
          simp only [Act.put, List.setIfInBounds_toArray, List.set_cons_zero, List.set_cons_succ]
        refine wpL_do rfl rfl ?_
        refine ⟨ov, wr.drew, ?_, .inl (by go_simp), ?_⟩
        focus
          go_simp
          first | done | rfl
        simp only [Act.put, List.setIfInBounds_toArray, List.set_cons_zero, List.set_cons_succ]
        refine wpL_act rfl rfl ?_
        refine eff_call 69 #[ov] ?hr ?_
        case hr =>
          go_simp
          first | done | rfl
        refine (h69 wr.drew (bel w _)).mono ?_
        rintro e w5 ⟨ov', rfl, hownO, hb5⟩
        have hP5 := OwnP.of_own hownO (by decide) (pdesc_len _)
        have hone5 := own_one hownO
        rw [List.length_map] at hownO
        obtain ⟨oa, oc, rfl⟩ := own_form hownO
        have hB5 := (HC.out.box.drew).below hb5 iX'.lt
        have iX5 := hB5.lt
        have x51 := hB5.cell 1
        have x52 := hB5.cell 2
        simp only [List.getElem?_toArray, List.getElem?_cons_zero, List.getElem?_cons_succ] at x51 x52
        have iB5 : Bel w w5 := ⟨(bel w wr.drew).trans (hb5.mono (bel w wr.drew).size)⟩
        have HO := Lib.hid (And.intro hP5 (And.intro hb5 hB5))
        clear hownO hP5 hb5 hB5
        refine ⟨_, rfl, .inl x52, ?_⟩
        simp only [Act.put, List.setIfInBounds_toArray, List.set_cons_zero, List.set_cons_succ]
        repeat
          refine wpL_look rfl rfl ?_
          apply Exists.intro
          refine ⟨?_, ?_⟩
          focus
            rintro w' s0
            go_simp
            first | done | rfl
          simp only [Act.put, List.setIfInBounds_toArray, List.set_cons_zero, List.set_cons_succ]
        refine wpL_act rfl rfl ?_
        refine eff_call 70 #[mv] ?hr2 ?_
        case hr2 =>
          go_simp
          first | done | rfl
        refine (h70 w5 (bel w _)).mono ?_
        rintro e w6 ⟨mv', rfl, hownM, hb6⟩
        have hP6 := OwnP.of_own hownM (by decide) (int_len _)
        have hone6 := own_one hownM
        rw [List.length_map] at hownM
        obtain ⟨ma, mc, rfl⟩ := own_form hownM
        have hB6 := (HO.out.2.2).below hb6 iX5.lt
        have iX6 := hB6.lt
        have x61 := hB6.cell 1
        have x62 := hB6.cell 2
        have fx61 := hB6.frozen 1
        have fx62 := hB6.frozen 2
        simp only [List.getElem?_toArray, List.getElem?_cons_zero, List.getElem?_cons_succ] at x61 x62
        have HM := Lib.hid (And.intro hP6 (And.intro hb6 hB6))
        clear hownM hP6 hb6 hB6
        refine ⟨_, rfl, .inl x62, ?_⟩
        simp only [Act.put, List.setIfInBounds_toArray, List.set_cons_zero, List.set_cons_succ]
        repeat
          refine wpL_look rfl rfl ?_
          apply Exists.intro
          refine ⟨?_, ?_⟩
          focus
            rintro w' s0
            go_simp
            first | done | rfl
          simp only [Act.put, List.setIfInBounds_toArray, List.set_cons_zero, List.set_cons_succ]
        refine wpL_skip rfl rfl ?_
        refine ⟨w6.setCell ⟨w.heap.size, 1, none⟩ (.slice oa S.op.length oc), ?_, .inl (by go_simp), ?_⟩
        focus
          go_simp
          first | done | rfl
        simp only [Act.put, List.setIfInBounds_toArray, List.set_cons_zero, List.set_cons_succ]
        repeat
          refine wpL_look rfl rfl ?_
          apply Exists.intro
          refine ⟨?_, ?_⟩
          focus
            rintro w' s0
            go_simp
            first | done | rfl
          simp only [Act.put, List.setIfInBounds_toArray, List.set_cons_zero, List.set_cons_succ]
        refine wpL_skip rfl rfl ?_
        refine ⟨(w6.setCell ⟨w.heap.size, 1, none⟩ (.slice oa S.op.length oc)).setCell ⟨w.heap.size, 2, none⟩ (.slice ma S.made.length mc), ?_, .inr ⟨rfl, rfl⟩, ?_⟩
        focus
          go_simp
          first | done | rfl
        simp only [Act.put]
        refine wpL_end ?_
        go_wp2_with fail
        go_meet
        have hb05 : Below wr.heap.size wr w5 := (Below.refl wr.heap.size wr).drew.trans HO.out.2.1
        have hb06 : Below wr.heap.size wr w6 := hb05.trans (HM.out.2.1.mono hb05.size)
        refine ⟨_, _, ((HM.out.2.2.set_ 1 _).set_ 2 _), Keep.setCell (S := fun k => k = w.heap.size) (p := ⟨w.heap.size, 2, none⟩) (Keep.setCell (S := fun k => k = w.heap.size) (p := ⟨w.heap.size, 1, none⟩) (Keep.of_below hb06 _) (.inl rfl) _) (.inl rfl) _, ?_, ?_⟩
        · exact HO.out.1.keep (Keep.setCell (S := fun k => k = w.heap.size) (p := ⟨w.heap.size, 2, none⟩) (Keep.setCell (S := fun k => k = w.heap.size) (p := ⟨w.heap.size, 1, none⟩) (Keep.of_below HM.out.2.1 _) (.inl rfl) _) (.inl rfl) _) (fun k hk => HO.out.1.ne_blk HO.out.2.2 (by decide) hk)
        · exact (HM.out.1.mono hb05.size).keep (Keep.setCell (S := fun k => k = w.heap.size) (p := ⟨w.heap.size, 2, none⟩) (Keep.setCell (S := fun k => k = w.heap.size) (p := ⟨w.heap.size, 1, none⟩) (Keep.refl _ _) (.inl rfl) _) (.inl rfl) _) (fun k hk => HM.out.1.ne_blk HM.out.2.2 (by decide) hk)
      case rest =>
        obtain ⟨ov', mv', hbx, hk, hO, hM⟩ := hcut
        rename World => wx
        obtain ⟨c, hout, hcs⟩ := HC.out.out
        have hout2 := hk.blk hout (by omega)
        have iX3 := hbx.lt
        have iR3 := hout2.lt
        have b0 := hbx.cell 0
        have b1 := hbx.cell 1
        have b2 := hbx.cell 2
        simp only [List.getElem?_toArray, List.getElem?_cons_zero, List.getElem?_cons_succ] at b0 b1 b2
        have hR0 : ∀ i, i < 3 → ∃ u, wx.cell? ⟨w.heap.size + 1, i, none⟩ = some u := fun i hi => by rw [hout2.cell]; exact ⟨_, Array.getElem?_eq_getElem (by omega)⟩
        obtain ⟨v0, q0⟩ := hR0 0 (by omega)
        obtain ⟨v1, q1⟩ := hR0 1 (by omega)
        obtain ⟨v2, q2⟩ := hR0 2 (by omega)
        have g0 := hout2.frozen 0
        have g1 := hout2.frozen 1
        have g2 := hout2.frozen 2
        have ho' := hO.one
        have hm' := hM.one
        obtain ⟨oa, oc, rfl, -⟩ := hO.row
        obtain ⟨ma, mc, rfl, -⟩ := hM.row
        have HE := Lib.hid (And.intro hk (And.intro hO (And.intro hM (And.intro hout2 hbx))))
        clear hout hout2 hk hO hM hR0 hbx
        go_wp2_with fail
        refine bodyPost_ret (v := .agg #[.slice ga S.ins.length gc, .slice oa S.op.length oc, .slice ma S.made.length mc]) (by unfold results; simp only [Tryz.results39]; go_simp) rfl ?_
        have hbx := HE.out.2.2.2.2
        obtain ⟨is, hO, hil, hrec, hdis⟩ := HC.out.rows
        have hsw := hcb.size
        have hK1 : Keep (fun k => k = w.heap.size + 1) wx (((wx.setCell ⟨w.heap.size + 1, 0, none⟩ (.slice ga S.ins.length gc)).setCell ⟨w.heap.size + 1, 1, none⟩ (.slice oa (S.op.map PDesc.cells).length oc)).setCell ⟨w.heap.size + 1, 2, none⟩ (.slice ma (S.made.map intCells).length mc)) :=
          Keep.setCell (S := fun k => k = w.heap.size + 1) (p := ⟨w.heap.size + 1, 2, none⟩) (Keep.setCell (S := fun k => k = w.heap.size + 1) (p := ⟨w.heap.size + 1, 1, none⟩) (Keep.setCell (S := fun k => k = w.heap.size + 1) (p := ⟨w.heap.size + 1, 0, none⟩) (Keep.refl _ _) (.inl rfl) _) (.inl rfl) _) (.inl rfl) _
        have hK2 : Keep (fun k => k = w.heap.size ∨ k = w.heap.size + 1) wr (((wx.setCell ⟨w.heap.size + 1, 0, none⟩ (.slice ga S.ins.length gc)).setCell ⟨w.heap.size + 1, 1, none⟩ (.slice oa (S.op.map PDesc.cells).length oc)).setCell ⟨w.heap.size + 1, 2, none⟩ (.slice ma (S.made.map intCells).length mc)) :=
          (HE.out.1.mono (fun i _ h => .inl h)).trans (hK1.mono (fun i _ h => .inr h)) (fun i _ h => h)
        have hobl := HE.out.2.2.2.1
        obtain ⟨c', hout', _⟩ := HC.out.out
        simp only [List.length_map] at hK1 hK2
        refine ⟨_, _, _, rfl, hcb.trans (hK2.below hsw (fun i hi h => by omega)), ?_, ?_, is, ?_, hil, ?_, fun p j r r' hpj hp hj => hdis p j r r' hpj ?_ ?_ hp hj⟩
        · have := (HE.out.2.1.keep hK1 (fun k hk => HE.out.2.1.ne_blk hobl (by decide) hk)).mono hsw
          rw [List.length_map] at this
          exact this
        · have := (HE.out.2.2.1.keep hK1 (fun k hk => HE.out.2.2.1.ne_blk hobl (by decide) hk)).mono hsw
          rw [List.length_map] at this
          exact this
        · exact hO.keep hK2 (fun k hk h => by rcases h with h | h <;> first | exact hO.ne_blk HC.out.box (by decide) hk h | exact hO.ne_blk hout' (by decide) hk h)
        · intro j r x hr hx
          obtain ⟨hjl, _⟩ := List.getElem?_eq_some_iff.1 hx
          obtain ⟨a1, a2, a3, a4, _⟩ := hrec j r x hr hx
          have a4 := a4 (by have := HQ.out; omega)
          exact ⟨a1, a2, a3, a4.keep hK2 (fun k hk h => by rcases h with h | h <;> first | exact a4.ne_blk HC.out.box (by decide) hk h | exact a4.ne_blk hout' (by decide) hk h)⟩
        · obtain ⟨h, _⟩ := List.getElem?_eq_some_iff.1 hp
          have := HQ.out
          omega
        · obtain ⟨h, _⟩ := List.getElem?_eq_some_iff.1 hj
          have := HQ.out
          omega
end Go.Proofs.YtjkenolgkkknaaaGreatDoor
namespace Go.Proofs.YtjkenolgkkknaaaGreatDoor
open Go.RowKit
/-- What is thrown with a code. -/
def chainOf (c : Int) : List PanicEntry := [{ v := .iface 78 (.agg #[.int .i64 c]), recovered := false }]
abbrev thrown (c : Int) : Ending := .panicked (chainOf c)
theorem throw_no (c : Int) (w : World) :
    Calls Tryz.prog 115 #[.bool false, .int .i64 c] w fun e w' => e = .returned (.tuple #[]) ∧ Below w.heap.size w w' := by
  go_enter Tryz.func115, Tryz.ntmps115
  go_wp2_with fail
  exact bodyPost_end (v := .tuple #[]) (by simp [results, go_sem]) rfl ⟨rfl, bel _ _⟩
theorem throw_yes (c : Int) (w : World) :
    Calls Tryz.prog 115 #[.bool true, .int .i64 c] w fun e w' => e = thrown c ∧ Below w.heap.size w w' := by
  go_enter Tryz.func115, Tryz.ntmps115
  go_wp2_with fail
  exact ⟨rfl, rfl, Below.refl _ _⟩
theorem own_one' {w : World} {B n k : Nat} {e : TypeId} {v : Value} {xs : List Value} (h : w.ownsRow B e k v n xs) : v.oneCell' = true := by
  obtain ⟨_, ⟨rfl, _⟩ | ⟨g, cap, cur, rfl, _⟩⟩ := h <;> rfl
/-- A path's names; or the code is thrown. -/
def ParsedOr (w : World) (s : ByteArray) (e : Ending) (w' : World) : Prop :=
  ((parseM s).1 = 0 ∧ ∃ v, e = .returned v ∧ Below w.heap.size w w' ∧ RowAt w' 1 v ((parseM s).2.map fun n => [.string n])) ∨ ((parseM s).1 ≠ 0 ∧ e = thrown (codeM (parseM s).1) ∧ Below w.heap.size w w')
theorem flat_one {α β : Type} (f : α → β) : ∀ ns : List α, (ns.map fun n => [f n]).flatten = ns.map f
  | [] => rfl
  | n :: ns => by simp [flat_one f ns]
set_option maxRecDepth 100000 in
theorem parse150 (s : ByteArray) (w : World) : Calls Tryz.prog 150 #[.string s] w (ParsedOr w s) := by
  have hp := parse136 s w
  unfold ParsedOr
  generalize parseM s = F at hp ⊢
  obtain ⟨c, ns⟩ := F
  by_cases h : c = 0
  · subst h
    have hc : ∀ ww, Calls Tryz.prog 167 #[.int .i64 0] ww _ := fun ww => code167 0 ww
    go_enter Tryz.func150, Tryz.ntmps150
    go_wp2_with (first | (go_at_call 136; refine hp.mono ?_; rintro e w1 ⟨v, rfl, hb, hown, hbl⟩; have hone := own_one' hown; have iB : Bel w w1 := ⟨hb⟩; have HO := Lib.hid (And.intro hown hb); clear hown hb hbl) | (go_at_call 167; refine (hc _).mono ?_; rintro e w' ⟨rfl, hb⟩; obtain ⟨p, rfl⟩ := hb.rest; clear hb) | (go_at_call 115; refine (throw_no _ _).mono ?_; rintro e w' ⟨rfl, hb⟩; obtain ⟨p, rfl⟩ := hb.rest; clear hb))
    go_ret
    refine .inl ⟨by simp, _, rfl, bel _ _, ?_⟩
    have := (OwnP.of_own (rows := ns.map fun n => [.string n]) (by rw [List.length_map, flat_one]; exact HO.out.1) (by decide) (by intro cs h; obtain ⟨x, _, rfl⟩ := List.mem_map.1 h; rfl)).row
    exact this.below (bel w1 _) (Nat.le_refl _)
  · have hc : ∀ ww, Calls Tryz.prog 167 #[.int .i64 c] ww _ := fun ww => code167 c ww
    have hcb : (c != 0) = true := by simpa using h
    generalize hcm : codeM c = cm at hc
    go_enter Tryz.func150, Tryz.ntmps150
    go_wp2_with (first | (go_at_call 136; refine hp.mono ?_; rintro e w1 ⟨v, rfl, hb, hown, hbl⟩; have hone := own_one' hown; have iB : Bel w w1 := ⟨hb⟩; clear hown hb hbl) | (go_at_call 167; refine (hc _).mono ?_; rintro e w' ⟨rfl, hb⟩; obtain ⟨p, rfl⟩ := hb.rest; clear hb) | (go_at_call 115; refine (throw_yes _ _).mono ?_; rintro e w' ⟨rfl, hb⟩; obtain ⟨p, rfl⟩ := hb.rest; clear hb))
    exact ⟨rfl, .inr ⟨h, rfl, bel _ _⟩⟩
end Go.Proofs.YtjkenolgkkknaaaGreatDoor
namespace Go.Proofs.YtjkenolgkkknaaaGreatDoor
open Go.RowKit
/-- The place and the code. -/
def walkM (S : PSt) : Nat → List ByteArray → Nat × Int
  | k, [] => (k, 0)
  | k, n :: r => match S.ins[k]? with
    | some x => if x.dir = true then (if hitE x.ents n = true then (match x.ents[bsE x.ents n]? with | some e => walkM S (findN S.nums e.num).toNat r | none => (0, 1)) else (0, 1)) else (0, 7)
    | none => (0, 7)
set_option maxRecDepth 100000 in
set_option maxHeartbeats 4000000 in
theorem walk151 (b : Nat) (S : PSt) (ns : List ByteArray) (v : Value) (w : World) (h : SP w b S) (hwf : S.wf) (hpos : 0 < S.ins.length) (hfind : ∀ x ∈ S.ins, ∀ e ∈ x.ents, 0 ≤ findN S.nums e.num) (hv : RowAt w 1 v (ns.map fun n => [.string n])) (hlen : ns.length ≤ 1000000000) :
    Calls Tryz.prog 151 #[.pointer (some ⟨b, 0, none⟩), v] w fun e w' => e = .returned (.tuple #[.int .i64 (walkM S 0 ns).1, .int .i64 (walkM S 0 ns).2]) ∧ Below w.heap.size w w' := by
  have hf : ∀ ww, Below w.heap.size w ww → ∀ n, Calls Tryz.prog 110 #[.pointer (some ⟨b, 0, none⟩), .int .i64 n] ww fun e w' => e = .returned (.int .i64 (findN S.nums n)) ∧ Below ww.heap.size ww w' :=
    fun ww hb n => find_sp b S n ww (h.below hb (Nat.le_refl _)) hwf
  obtain ⟨hl, iv, ov, mv, c0, c1, c2, hr⟩ := h
  have ib : BlockLt b w := ⟨hl⟩
  have hlin := hwf.1
  have HWF := Lib.hid hwf.2.2.2.1
  obtain ⟨ai, capi, rfl, hati⟩ := hr.ins_at2
  obtain ⟨an, capn, rfl, hatn⟩ := hv.at_
  rw [List.length_map]
  have HI := Lib.hid hati
  have HN := Lib.hid hatn
  have HF := Lib.hid hfind
  clear hr hwf hati hatn hv c1 c2 hfind
  obtain ⟨RK, RC, hR⟩ : ∃ RK RC, walkM S 0 ns = (RK, RC) := ⟨_, _, rfl⟩
  rw [hR]
  have HR := Lib.hid hR
  clear hR
  go_enter Tryz.func151, Tryz.ntmps151
  go_wp2_with fail
  go_loopw [6, 13] (fun at_ i wr => ∃ (q k : Nat), at_ = .int .i64 k ∧ i = .int .i64 q ∧ q ≤ ns.length ∧ k < S.ins.length ∧ walkM S k (ns.drop q) = (RK, RC) ∧ Below w.heap.size w wr) (fun _ i _ => (ns.length - intOf i).toNat)
  case atStart => exact ⟨0, 0, rfl, rfl, by omega, hpos, HR.out, bel _ _⟩
  case round =>
    obtain ⟨q, k, rfl, rfl, hq, hk, hre, hb⟩ := hrel
    have iB : Bel w wr := ⟨hb⟩
    have iL : BlockLt b wr := ⟨by have := hb.size; have := ib.lt; omega⟩
    have c0r : wr.cell? ⟨b, 0, none⟩ = some (.slice ai S.ins.length capi) := (hb.cell (p := ⟨b, 0, none⟩) ib.lt).trans c0
    by_cases hlt : q < ns.length
    · obtain ⟨n, hn⟩ : ∃ n, ns[q]? = some n := ⟨_, List.getElem?_eq_getElem hlt⟩
      obtain ⟨x, hx⟩ : ∃ x, S.ins[k]? = some x := ⟨_, List.getElem?_eq_getElem hk⟩
      rw [drop_at hn] at hre
      unfold walkM at hre
      rw [hx] at hre
      simp only at hre
      obtain ⟨bn, offn, rfl, iN0, iN, hcn⟩ := HN.out wr hb q [.string n] (by rw [List.getElem?_map, hn]; rfl)
      have n0 := hcn 0 _ rfl
      rw [Nat.mul_one, Nat.add_zero] at n0
      obtain ⟨bi, offi, ev, rfl, iG0, ho1, hev, hcl⟩ := HI.out k x hx
      obtain ⟨iG, y0, y1, y2, y3⟩ := hcl wr hb
      have hez := (HWF.out x (List.mem_of_getElem? hx)).2.1
      have hfx := HF.out x (List.mem_of_getElem? hx)
      have hent : ∀ ww, Below w.heap.size w ww → Calls Tryz.prog 114 #[ev, .string n] ww _ := fun ww hww => entry114 x.ents ev n ww (hev.below hww (Nat.le_refl _)) hez
      obtain ⟨ae, ce, rfl, hat⟩ := hev.at_
      rw [List.length_map] at y2 hent
      have hqI : (q : Int) < ns.length := by omega
      have hkI : (k : Int) < S.ins.length := by omega
      have HX := Lib.hid (And.intro hx (And.intro hfx hat))
      clear hn hx hcn hcl hev hfx hat
      generalize hdir : x.dir = d at y1 hre
      rcases d with _ | _
      · simp only [Bool.false_eq_true, if_false, Prod.mk.injEq] at hre
        obtain ⟨rfl, rfl⟩ := hre
        go_wp2_with fail
        exact bodyPost_ret (v := .tuple #[.int .i64 0, .int .i64 7]) (by simp [results, Tryz.results151, go_sem]) rfl ⟨rfl, bel _ _⟩
      · simp only [if_true] at hre
        generalize hhit : hitE x.ents n = hi at hre hent
        have hbs : hi = true → bsE x.ents n < x.ents.length := by
          intro h
          rw [h] at hhit
          unfold hitE at hhit
          simp only [Bool.and_eq_true, decide_eq_true_eq] at hhit
          exact hhit.1
        generalize bsE x.ents n = j at hre hent hbs
        clear hhit hdir
        rcases hi with _ | _
        · simp only [Bool.false_eq_true, if_false, Prod.mk.injEq] at hre
          obtain ⟨rfl, rfl⟩ := hre
          go_wp2_with ((go_at_call 114; refine (hent _ (bel _ _)).mono ?_; rintro e w' ⟨rfl, hb⟩; obtain ⟨p, rfl⟩ := hb.rest; clear hb))
          exact bodyPost_ret (v := .tuple #[.int .i64 0, .int .i64 1]) (by simp [results, Tryz.results151, go_sem]) rfl ⟨rfl, bel _ _⟩
        · simp only [if_true] at hre
          have hjl := hbs rfl
          obtain ⟨e, he⟩ : ∃ e, x.ents[j]? = some e := ⟨_, List.getElem?_eq_getElem hjl⟩
          rw [he] at hre
          simp only at hre
          obtain ⟨be, offe, rfl, iE0, iE, hce⟩ := HX.out.2.2 wr hb j e.cells (by rw [List.getElem?_map, he]; rfl)
          have e1 := hce 1 _ rfl
          have hfe : ∀ ww, Below w.heap.size w ww → Calls Tryz.prog 110 #[.pointer (some ⟨b, 0, none⟩), .int .i64 e.num] ww _ := fun ww hww => hf ww hww e.num
          have hf0 := HX.out.2.1 e (List.mem_of_getElem? he)
          have hfb := findN_bounds S.nums e.num
          have hnl : S.nums.length = S.ins.length := by unfold PSt.nums; rw [List.length_map]
          generalize findN S.nums e.num = fv at hfe hf0 hfb hre
          obtain ⟨f, rfl⟩ : ∃ f : Nat, fv = f := ⟨fv.toNat, by omega⟩
          rw [Int.toNat_natCast] at hre
          have hfl : f < S.ins.length := by omega
          have hjI : (j : Int) < x.ents.length := by omega
          have HRE := Lib.hid hre
          clear hre hce he hbs hf0 hfb hnl
          go_wp2_with (first | (go_at_call 114; refine (hent _ (bel _ _)).mono ?_; rintro e w' ⟨rfl, hb⟩; obtain ⟨p, rfl⟩ := hb.rest; clear hb) | (go_at_call 110; refine (hfe _ (bel _ _)).mono ?_; rintro e w' ⟨rfl, hb⟩; obtain ⟨p, rfl⟩ := hb.rest; clear hb))
          go_roundw
          case rel => exact ⟨q + 1, f, rfl, by go_num, by omega, hfl, HRE.out, bel _ _⟩
          case measure => simp [intOf]; omega
    · rw [List.drop_of_length_le (by omega)] at hre
      have hre : (k, (0 : Int)) = (RK, RC) := hre
      simp only [Prod.mk.injEq] at hre
      obtain ⟨rfl, rfl⟩ := hre
      go_wp2_with fail
      exact bodyPost_ret (v := .tuple #[.int .i64 k, .int .i64 0]) (by simp [results, Tryz.results151, go_sem]) rfl ⟨rfl, bel _ _⟩
end Go.Proofs.YtjkenolgkkknaaaGreatDoor
namespace Go.Proofs.YtjkenolgkkknaaaGreatDoor
open Go.RowKit
/-- A call. -/
structure PCall where
  kind : Int
  core : Int
  fd : Int
  off : Int
  num : Int
  path : ByteArray
  path2 : ByteArray
  data : ByteArray
deriving DecidableEq
def PCall.cells (c : PCall) : List Value := [.int .i64 c.kind, .int .i64 c.core, .int .i64 c.fd, .int .i64 c.off, .int .i64 c.num, .string c.path, .string c.path2, .string c.data]
def PCall.val (c : PCall) : Value := .agg #[.int .i64 c.kind, .int .i64 c.core, .int .i64 c.fd, .int .i64 c.off, .int .i64 c.num, .string c.path, .string c.path2, .string c.data]
def PCall.wf (c : PCall) : Prop := I64 c.kind ∧ I64 c.core ∧ I64 c.fd ∧ I64 c.off ∧ I64 c.num
/-- A doer as it is read: the state's block, the call. -/
structure DR (w : World) (d b : Nat) (S : PSt) (c : PCall) : Prop where
  lt : d < w.heap.size
  d0 : w.cell? ⟨d, 0, none⟩ = some (.pointer (some ⟨b, 0, none⟩))
  dc : ∀ (t : Nat) (u : Value), c.cells[t]? = some u → w.cell? ⟨d, 1 + t, none⟩ = some u
  sp : SP w b S
theorem DR.below {w w' : World} {d b B : Nat} {S : PSt} {c : PCall} (h : DR w d b S c) (hb : Below B w w') (hB : w.heap.size ≤ B) : DR w' d b S c := by
  have hs := hb.size
  have hl := h.lt
  exact ⟨by omega, (hb.cell (p := ⟨d, 0, none⟩) (by show d < B; omega)).trans h.d0, fun t u hu => (hb.cell (p := ⟨d, 1 + t, none⟩) (by show d < B; omega)).trans (h.dc t u hu), h.sp.below hb hB⟩
/-- What may be said of a state that is walked. -/
structure Fine (S : PSt) : Prop where
  wf : S.wf
  pos : 0 < S.ins.length
  find : ∀ x ∈ S.ins, ∀ e ∈ x.ents, 0 ≤ findN S.nums e.num
  opens : ∀ d ∈ S.op, 0 ≤ findN S.nums d.num
theorem descB_find (S : PSt) : ∀ (ds : List PDesc) (p : Option PDesc), descB S p ds = true → ∀ d ∈ ds, 0 ≤ findN S.nums d.num
  | [], _, _, d, hd => by simp at hd
  | x :: ds, p, h, d, hd => by
    unfold descB at h
    split at h
    · simp at h
    split at h
    · simp at h
    split at h
    · simp at h
    split at h
    · simp at h
    split at h
    · simp at h
    split at h
    · simp at h
    rename_i h6
    rcases List.mem_cons.1 hd with rfl | hd
    · omega
    · split at h
      · split at h
        · simp at h
        · exact descB_find S ds _ h d hd
      · simp at h
theorem fine_of_may {S : PSt} (hwf : S.wf) (h : mayM S = true) : Fine S := by
  unfold mayM at h
  split at h
  · rename_i h1
    simp only [Bool.and_eq_true] at h1
    exact ⟨hwf, (may_len h1.1.1 h1.1.2).1, mayIns_find h1.1.2, descB_find S _ _ h1.2⟩
  · simp at h
theorem walkM_lt {S : PSt} (hf : Fine S) : ∀ (ns : List ByteArray) (k : Nat), k < S.ins.length → (walkM S k ns).1 < S.ins.length
  | [], k, hk => hk
  | n :: r, k, hk => by
    unfold walkM
    rw [List.getElem?_eq_getElem hk]
    simp only
    split
    · split
      · split
        · rename_i e he
          have h0 := hf.find S.ins[k] (List.getElem_mem hk) e (List.mem_of_getElem? he)
          have hb := findN_bounds S.nums e.num
          have hnl : S.nums.length = S.ins.length := by unfold PSt.nums; rw [List.length_map]
          exact walkM_lt hf r _ (by omega)
        · exact hf.pos
      · exact hf.pos
    · exact hf.pos
/-- Where a walk ended: at an inode of the state at b, or a code is thrown. -/
def AtOut (w : World) (b : Nat) (S : PSt) (K : Nat) (C : Int) (e : Ending) : Prop :=
  (C = 0 ∧ ∃ bi off cap, w.cell? ⟨b, 0, none⟩ = some (.slice (some ⟨bi, off, none⟩) S.ins.length cap) ∧ e = .returned (.pointer (some ⟨bi, off + K * 4, none⟩))) ∨ (C ≠ 0 ∧ e = thrown C)
set_option maxRecDepth 100000 in
set_option maxHeartbeats 2000000 in
/-- 'at', where the path has names. -/
theorem at122 (d b : Nat) (S : PSt) (c : PCall) (s : ByteArray) (w : World) (h : DR w d b S c) (hf : Fine S) (hp : (parseM s).1 = 0) (hpl : (parseM s).2.length ≤ 1000000000) :
    Calls Tryz.prog 122 #[.pointer (some ⟨d, 0, none⟩), .string s] w fun e w' => Below w.heap.size w w' ∧ AtOut w b S (walkM S 0 (parseM s).2).1 (walkM S 0 (parseM s).2).2 e := by
  have hpar : ∀ ww, Calls Tryz.prog 150 #[.string s] ww fun e w' => ∃ v, e = .returned v ∧ Below ww.heap.size ww w' ∧ RowAt w' 1 v ((parseM s).2.map fun n => [.string n]) := fun ww => by
    refine (parse150 s ww).mono ?_
    intro e w' h
    rcases h with ⟨_, v, h1, h2, h3⟩ | ⟨h, _⟩
    · exact ⟨v, h1, h2, h3⟩
    · exact absurd hp h
  have hwk : ∀ ww v, Below w.heap.size w ww → RowAt ww 1 v ((parseM s).2.map fun n => [.string n]) → Calls Tryz.prog 151 #[.pointer (some ⟨b, 0, none⟩), v] ww _ := fun ww v hb hv => walk151 b S (parseM s).2 v ww (h.sp.below hb (Nat.le_refl _)) hf.wf hf.pos hf.find hv hpl
  have hlt := walkM_lt hf (parseM s).2 0 hf.pos
  have hd0 := h.d0
  have iD : BlockLt d w := ⟨h.lt⟩
  obtain ⟨hl, iv, ov, mv, c0, c1, c2, hr⟩ := h.sp
  have iL : BlockLt b w := ⟨hl⟩
  obtain ⟨ai, capi, rfl, hati⟩ := hr.ins_at2
  obtain ⟨bi, offi, ev, rfl, -⟩ := hati 0 S.ins[0] (List.getElem?_eq_getElem hf.pos)
  generalize walkM S 0 (parseM s).2 = W at hwk hlt ⊢
  obtain ⟨K, C⟩ := W
  simp only at hwk hlt ⊢
  have HP := Lib.hid (And.intro hpar hwk)
  have hlen := hf.wf.1
  clear hpar hwk h hr hati c1 c2 hp hpl
  have hKI : (K : Int) < S.ins.length := by omega
  go_enter Tryz.func122, Tryz.ntmps122
  go_upto_region 1 with fail
  refine wp_region_eff [5, 6] false (fun w' => w'.cell? ⟨d, 0, none⟩ = some (.pointer (some ⟨b, 0, none⟩))) (by kernel_rfl) (by kernel_rfl) ?_ ?_
  · go_simp
  repeat
    refine wpL_look rfl rfl ?_
    apply Exists.intro
    refine ⟨?_, ?_⟩
    focus
      rintro w' s0
      go_simp
      first | done | rfl
    simp only [Act.put, List.setIfInBounds_toArray, List.set_cons_zero, List.set_cons_succ]
  refine wpL_act rfl rfl ?_
  refine eff_call 150 #[.string s] ?hr ?_
  case hr =>
    go_simp
    first | done | rfl
  refine (HP.out.1 w.drew).mono ?_
  rintro e w1 ⟨v, rfl, hb1, hv1⟩
  have hbw : Below w.heap.size w w1 := (bel w w.drew).trans hb1
  have iB1 : Bel w w1 := ⟨hbw⟩
  have iD1 : BlockLt d w1 := ⟨by have := hbw.size; have := iD.lt; omega⟩
  have x0 : w1.cell? ⟨d, 0, none⟩ = some (.pointer (some ⟨b, 0, none⟩)) := (hbw.cell (p := ⟨d, 0, none⟩) iD.lt).trans hd0
  have hone := hv1.one
  refine ⟨_, rfl, .inl x0, ?_⟩
  simp only [Act.put, List.setIfInBounds_toArray, List.set_cons_zero, List.set_cons_succ]
  refine wpL_act rfl rfl ?_
  refine eff_call 151 #[.pointer (some ⟨b, 0, none⟩), v] ?hr2 ?_
  case hr2 =>
    go_simp
    first | done | rfl
  refine (HP.out.2 w1 v hbw hv1).mono ?_
  rintro e w2 ⟨rfl, hb2⟩
  have hbw2 : Below w.heap.size w w2 := hbw.trans (hb2.mono hbw.size)
  have iB2 : Bel w w2 := ⟨hbw2⟩
  have iD2 : BlockLt d w2 := ⟨by have := hbw2.size; have := iD.lt; omega⟩
  have iL2 : BlockLt b w2 := ⟨by have := hbw2.size; have := iL.lt; omega⟩
  have y0 : w2.cell? ⟨d, 0, none⟩ = some (.pointer (some ⟨b, 0, none⟩)) := (hbw2.cell (p := ⟨d, 0, none⟩) iD.lt).trans hd0
  have z0 : w2.cell? ⟨b, 0, none⟩ = some (.slice (some ⟨bi, offi, none⟩) S.ins.length capi) := (hbw2.cell (p := ⟨b, 0, none⟩) iL.lt).trans c0
  have HC0 := Lib.hid c0
  clear hv1 hb1 hb2 c0
  refine ⟨_, rfl, .inl y0, ?_⟩
  simp only [Act.put, List.setIfInBounds_toArray, List.set_cons_zero, List.set_cons_succ]
  repeat
    refine wpL_look rfl rfl ?_
    apply Exists.intro
    refine ⟨?_, ?_⟩
    focus
      rintro w' s0
      go_simp
      first | done | rfl
    simp only [Act.put, List.setIfInBounds_toArray, List.set_cons_zero, List.set_cons_succ]
  refine wpL_end ?_
  by_cases hC : C = 0
  · subst hC
    go_wp2_with ((go_at_call 115; refine (throw_no _ _).mono ?_; rintro e w' ⟨rfl, hb⟩; obtain ⟨p, rfl⟩ := hb.rest; clear hb))
    go_ret
    exact ⟨bel w _, .inl ⟨rfl, _, _, _, HC0.out, rfl⟩⟩
  · have hcb : (C != 0) = true := by simpa using hC
    go_wp2_with ((go_at_call 115; refine (throw_yes _ _).mono ?_; rintro e w' ⟨rfl, hb⟩; obtain ⟨p, rfl⟩ := hb.rest; clear hb))
    exact ⟨rfl, bel w _, .inr ⟨hC, rfl⟩⟩
/-- May a call be at a state? -/
def maycM (S : PSt) (c : PCall) : Bool := decide (0 ≤ c.kind) && decide (c.kind ≤ 16) && decide (0 ≤ c.core) && decide (c.core < S.made.length) && mayM S
set_option maxRecDepth 100000 in
set_option maxHeartbeats 2000000 in
theorem may38 (b k : Nat) (S : PSt) (c : PCall) (w : World) (h : SP w b S) (hwf : S.wf) (hk : k < w.heap.size) (hc : ∀ (t : Nat) (u : Value), c.cells[t]? = some u → w.cell? ⟨k, t, none⟩ = some u) :
    Calls Tryz.prog 38 #[.pointer (some ⟨b, 0, none⟩), .pointer (some ⟨k, 0, none⟩)] w fun e w' => e = .returned (.bool (maycM S c)) ∧ Below w.heap.size w w' := by
  have iK : BlockLt k w := ⟨hk⟩
  have k0 := hc 0 _ rfl
  have k1 := hc 1 _ rfl
  obtain ⟨hl, iv, ov, mv, c0, c1, c2, hr⟩ := h
  have iL : BlockLt b w := ⟨hl⟩
  have hmay : ∀ ww, Below w.heap.size w ww → Calls Tryz.prog 37 #[.agg #[iv, ov, mv]] ww _ := fun ww hb => may37 iv ov mv S ww (hr.below hb (Nat.le_refl _)) hwf
  have hio : iv.oneCell' = true := by obtain ⟨_, _, _, h3, _⟩ := hr; exact h3.one
  have hoo := hr.1.one
  obtain ⟨am, cm, rfl, -⟩ := hr.2.1
  rw [List.length_map] at c2 hmay
  unfold maycM
  generalize mayM S = M at hmay ⊢
  clear hr hc hwf
  by_cases g1 : 0 ≤ c.kind
  · have b1 : decide (0 ≤ c.kind) = true := decide_eq_true g1
    by_cases g2 : c.kind ≤ 16
    · have b2 : decide (c.kind ≤ 16) = true := decide_eq_true g2
      by_cases g3 : 0 ≤ c.core
      · have b3 : decide (0 ≤ c.core) = true := decide_eq_true g3
        by_cases g4 : c.core < S.made.length
        · have b4 : decide (c.core < (S.made.length : Int)) = true := decide_eq_true g4
          simp only [b1, b2, b3, b4, Bool.true_and]
          go_enter Tryz.func38, Tryz.ntmps38
          go_wp2_with fail
          refine wp_region_quiet_rest (by kernel_rfl) (by kernel_rfl) ?_
          repeat
            first
              | go_big_quiet_skip
              | (go_big_quiet_want; go_big_quiet_op; first | go_big_quiet_on | (apply Exists.intro; refine ⟨fun _ => ?_, ?_⟩; (focus ((refine calls_in (hmay _ (bel _ _)) (fun w' hb => ?_); first | exact hb.rest | exact rest1 hb | exact rest2 hb))); go_big_quiet_on))
          refine wpQuiet_nil ?_
          intro w1 hw1
          obtain ⟨p, hw1⟩ := hw1
          subst hw1
          go_wp2_with fail
          go_ret
          exact ⟨rfl, bel _ _⟩
        · have b4 : decide (c.core < (S.made.length : Int)) = false := decide_eq_false g4
          simp only [b1, b2, b3, b4, Bool.true_and, Bool.false_and]
          go_enter Tryz.func38, Tryz.ntmps38
          go_wp2_with fail
          refine wp_region_quiet_rest (by kernel_rfl) (by kernel_rfl) ?_
          repeat
            first
              | go_big_quiet_skip
              | (go_big_quiet_want; go_big_quiet_op; first | go_big_quiet_on | (apply Exists.intro; refine ⟨fun _ => ?_, ?_⟩; (focus (fail)); go_big_quiet_on))
          refine wpQuiet_nil ?_
          intro w1 hw1
          obtain ⟨p, hw1⟩ := hw1
          subst hw1
          go_wp2_with fail
          go_ret
          exact ⟨rfl, bel _ _⟩
      · have b3 : decide (0 ≤ c.core) = false := decide_eq_false g3
        simp only [b1, b2, b3, Bool.true_and, Bool.false_and]
        go_enter Tryz.func38, Tryz.ntmps38
        go_wp2_with fail
        refine wp_region_quiet_rest (by kernel_rfl) (by kernel_rfl) ?_
        repeat
          first
            | go_big_quiet_skip
            | (go_big_quiet_want; go_big_quiet_op; first | go_big_quiet_on | (apply Exists.intro; refine ⟨fun _ => ?_, ?_⟩; (focus (fail)); go_big_quiet_on))
        refine wpQuiet_nil ?_
        intro w1 hw1
        obtain ⟨p, hw1⟩ := hw1
        subst hw1
        go_wp2_with fail
        go_ret
        exact ⟨rfl, bel _ _⟩
    · have b2 : decide (c.kind ≤ 16) = false := decide_eq_false g2
      simp only [b1, b2, Bool.true_and, Bool.false_and]
      go_enter Tryz.func38, Tryz.ntmps38
      go_wp2_with fail
      refine wp_region_quiet_rest (by kernel_rfl) (by kernel_rfl) ?_
      repeat
        first
          | go_big_quiet_skip
          | (go_big_quiet_want; go_big_quiet_op; first | go_big_quiet_on | (apply Exists.intro; refine ⟨fun _ => ?_, ?_⟩; (focus (fail)); go_big_quiet_on))
      refine wpQuiet_nil ?_
      intro w1 hw1
      obtain ⟨p, hw1⟩ := hw1
      subst hw1
      go_wp2_with fail
      go_ret
      exact ⟨rfl, bel _ _⟩
  · have b1 : decide (0 ≤ c.kind) = false := decide_eq_false g1
    simp only [b1, Bool.false_and]
    go_enter Tryz.func38, Tryz.ntmps38
    go_wp2_with fail
    refine wp_region_quiet_rest (by kernel_rfl) (by kernel_rfl) ?_
    repeat
      first
        | go_big_quiet_skip
        | (go_big_quiet_want; go_big_quiet_op; first | go_big_quiet_on | (apply Exists.intro; refine ⟨fun _ => ?_, ?_⟩; (focus (fail)); go_big_quiet_on))
    refine wpQuiet_nil ?_
    intro w1 hw1
    obtain ⟨p, hw1⟩ := hw1
    subst hw1
    go_wp2_with fail
    go_ret
    exact ⟨rfl, bel _ _⟩
end Go.Proofs.YtjkenolgkkknaaaGreatDoor
namespace Go.Proofs.YtjkenolgkkknaaaGreatDoor
open Go.RowKit
def isFd (c : PCall) (x : PDesc) : Bool := (x.core == c.core) && (x.fd == c.fd)
end Go.Proofs.YtjkenolgkkknaaaGreatDoor
