/- model.put: an entry more in a directory of a state of the call's own. Conditions: none. Where a new inode's place is. Conditions: none. doer.parent: the directory of a path's last name. Conditions: none. What create does to a state of the call's own. Conditions: none. doer.create. Conditions: none. -/
import Derived.Test.YtjkenolgkkknaaaGreatDoorTw08
import Derived.Test.YtjkenolgkkknaaaGreatDoorTw02
import Derived.Test.YtjkenolgkkknaaaGreatDoorTw07
set_option linter.unusedVariables false
set_option linter.unusedSimpArgs false
namespace Go.Proofs.YtjkenolgkkknaaaGreatDoor
open Go.RowKit
/-- A list with one more at a place. -/
def insAt {α : Type} (l : List α) (i : Nat) (x : α) : List α := l.take i ++ x :: l.drop i
theorem insAt_map {α β : Type} (f : α → β) (l : List α) (i : Nat) (x : α) : (insAt l i x).map f = (l.map f).take i ++ f x :: (l.map f).drop i := by simp [insAt, List.map_take, List.map_drop]
theorem bsFrom_le (f : Nat → Int) : ∀ (b lo hi : Nat), lo ≤ hi → bsFrom f b lo hi ≤ hi
  | 0, lo, hi, h => h
  | b + 1, lo, hi, h => by
    unfold bsFrom
    split
    · split
      · exact bsFrom_le f b _ _ (by omega)
      · have := bsFrom_le f b lo ((lo + hi) / 2) (by omega)
        omega
    · exact h
theorem bsE_le (es : List PEnt) (s : ByteArray) : bsE es s ≤ es.length := bsFrom_le _ _ _ _ (Nat.zero_le _)
/-- The state with other entries in one inode. -/
def PSt.ents (S : PSt) (K : Nat) (x : PIn) (es : List PEnt) : PSt := { S with ins := S.ins.set K { x with ents := es } }
/-- The blocks of inodes and of entries. -/
def InEn (w : World) (g : Nat) : Prop := ∃ c t, Blk w g c t ∧ (t = 65 ∨ t = 99)
set_option maxRecDepth 100000 in
/-- Another slice of entries is laid in one inode. -/
theorem StOwn.setEnts {B : Nat} {w w1 : World} {ov mv : Value} {S : PSt} {bi cap K : Nat} {x : PIn} (h : StOwn B w (.slice (some ⟨bi, 0, none⟩) S.ins.length cap) ov mv S) (hx : S.ins[K]? = some x) {ev : Value} (hev : w.cell? ⟨bi, K * 4 + 2, none⟩ = some ev)
    {ev' : Value} {es' : List PEnt} (he : OwnP B w1 99 2 ev' (es'.map PEnt.cells)) (hk : Keep (fun k => ev.ownBlock = some k) w w1) (hfr : ∀ k, ev'.ownBlock = some k → ev.ownBlock = some k ∨ w.heap.size ≤ k) (hB : B ≤ w.heap.size) :
    StOwn B (w1.setCell ⟨bi, K * 4 + 2, none⟩ ev') (.slice (some ⟨bi, 0, none⟩) S.ins.length cap) ov mv (S.ents K x es') ∧ Below B w (w1.setCell ⟨bi, K * 4 + 2, none⟩ ev') ∧ Keep (InEn w) w (w1.setCell ⟨bi, K * 4 + 2, none⟩ ev') := by
  obtain ⟨h1, h2, is, h3, h4, h5, h6⟩ := h
  obtain ⟨hKl, _⟩ := List.getElem?_eq_some_iff.1 hx
  have hr : is[K]? = some is[K] := List.getElem?_eq_getElem (by omega)
  obtain ⟨a1, a2, a3, a4⟩ := h5 K _ x hr hx
  rcases h3 with ⟨h0, _⟩ | ⟨g, cap', arr, heq, hgB, hgb, hnc, hcm, hsz, hri⟩
  · simp at h0
  simp only [Value.slice.injEq, Option.some.injEq, Addr.mk.injEq] at heq
  obtain ⟨⟨rfl, -, -⟩, hl, rfl⟩ := heq
  have hevr : ev = is[K].ev := by
    have := hri K is[K].cells (by rw [List.getElem?_map, hr]; rfl) 2 _ rfl
    rw [hgb.cell, this] at hev
    exact (Option.some.inj hev).symm
  have hone := he.one
  have nEv : ∀ k, ev.ownBlock = some k → k ≠ bi := fun k hk => by rw [hevr] at hk; exact a4.ne_blk hgb (by decide) hk
  have nEv' : ∀ k, ev'.ownBlock = some k → k ≠ bi := fun k hk => by
    rcases hfr k hk with h | h
    · exact nEv k h
    · have := hgb.lt.lt; omega
  have hgb1 : Blk w1 bi arr 65 := hk.blk hgb (fun h => nEv bi h rfl)
  have hS : Keep (fun k => k = bi) w1 (w1.setCell ⟨bi, K * 4 + 2, none⟩ ev') := Keep.setCell (S := fun k => k = bi) (p := ⟨bi, K * 4 + 2, none⟩) (Keep.refl _ _) (.inl rfl) _
  have hT : Keep (fun k => ev.ownBlock = some k ∨ k = bi) w (w1.setCell ⟨bi, K * 4 + 2, none⟩ ev') := (hk.mono (fun i _ h => .inl h)).trans (hS.mono (fun i _ h => .inr h)) (fun i _ h => h)
  have far : ∀ {e : TypeId} {k : Nat} {v : Value} {rows : List (List Value)}, OwnP B w e k v rows → (e = 88 ∨ e = 3) → OwnP B (w1.setCell ⟨bi, K * 4 + 2, none⟩ ev') e k v rows := by
    intro e k v rows ho hee
    refine ho.keep hT (fun g hg hh => ?_)
    rcases hh with hh | hh
    · rw [hevr] at hh
      rcases a4 with ⟨h0, _⟩ | ⟨g', _, c', h0, _, hb', _⟩
      · rw [h0] at hh; simp [Value.ownBlock] at hh
      · rw [h0] at hh
        simp [Value.ownBlock] at hh
        subst hh
        exact ho.ne_blk hb' (by rcases hee with rfl | rfl <;> decide) hg rfl
    · exact ho.ne_blk hgb (by rcases hee with rfl | rfl <;> decide) hg hh
  have hil : K < is.length := by omega
  have hmset : (is.map IRec.cells).set K (is[K].cells.set 2 ev') = (is.set K ⟨is[K].num, is[K].dir, ev', is[K].data, hone⟩).map IRec.cells := by
    rw [List.map_set]
    rfl
  have hKs : K * 4 + 2 < arr.size := by
    rw [List.length_map] at hnc
    omega
  refine ⟨⟨far h1 (.inl rfl), far h2 (.inr rfl), is.set K ⟨is[K].num, is[K].dir, ev', is[K].data, hone⟩, .inr ⟨bi, cap, arr.setIfInBounds (K * 4 + 2) ev', ?_, hgB, hgb1.set_ _ _, ?_, hcm, by rw [Array.size_setIfInBounds]; exact hsz, ?_⟩, ?_, ?_, ?_⟩, hT.below hB ?_, hT.mono ?_⟩
  · rw [List.length_map, List.length_set, h4]
  · rw [List.length_map, List.length_set]; rw [List.length_map] at hnc; exact hnc
  · rw [← hmset]
    exact hri.set (irec_len _) (by rw [List.getElem?_map, hr]; rfl) (by decide) hKs _
  · show (is.set K _).length = (S.ins.set K _).length
    rw [List.length_set, List.length_set, h4]
  · intro q r x' hq hx'
    have hx' : (S.ins.set K { x with ents := es' })[q]? = some x' := hx'
    by_cases e : K = q
    · subst e
      rw [List.getElem?_set_self hil] at hq
      rw [List.getElem?_set_self hKl] at hx'
      cases hq
      cases hx'
      exact ⟨a1, a2, a3, he.keep hS (fun k hk => nEv' k hk)⟩
    · rw [List.getElem?_set_ne e] at hq hx'
      obtain ⟨b1, b2, b3, b4⟩ := h5 q r x' hq hx'
      refine ⟨b1, b2, b3, b4.keep hT (fun k hk hh => ?_)⟩
      rcases hh with hh | hh
      · rw [hevr] at hh
        exact h6 K q _ r e hr hq k hh hk
      · exact b4.ne_blk hgb (by decide) hk hh
  · intro p q r r' hpq hp hq k hk
    have hold : ∀ (j : Nat) (rb : IRec), is[j]? = some rb → ∀ k, rb.ev.ownBlock = some k → k < w.heap.size := by
      intro j rb hj k hk
      obtain ⟨hjl, _⟩ := List.getElem?_eq_some_iff.1 hj
      obtain ⟨xb, hxb⟩ : ∃ xb, S.ins[j]? = some xb := ⟨_, List.getElem?_eq_getElem (by omega)⟩
      exact (h5 j rb xb hj hxb).2.2.2.lt hk
    by_cases e : K = p
    · subst e
      rw [List.getElem?_set_self hil] at hp
      rw [List.getElem?_set_ne hpq] at hq
      cases hp
      intro h
      rcases hfr k hk with h' | h'
      · rw [hevr] at h'
        exact h6 K q _ r' hpq hr hq k h' h
      · have := hold q r' hq k h; omega
    · rw [List.getElem?_set_ne e] at hp
      by_cases e2 : K = q
      · subst e2
        rw [List.getElem?_set_self hil] at hq
        cases hq
        intro h
        rcases hfr k h with h' | h'
        · rw [hevr] at h'
          exact h6 K p _ r (fun e => hpq e.symm) hr hp k h' hk
        · have := hold p r hp k hk; omega
      · rw [List.getElem?_set_ne e2] at hq
        exact h6 p q r r' hpq hp hq k hk
  · intro i hi hh
    rcases hh with hh | hh
    · rw [hevr] at hh
      have := a4.ge hh
      omega
    · omega
  · intro g _ hh
    rcases hh with hh | hh
    · rw [hevr] at hh
      rcases a4 with ⟨h0, _⟩ | ⟨g', _, c', h0, _, hb', _⟩
      · rw [h0] at hh; simp [Value.ownBlock] at hh
      · rw [h0] at hh
        simp [Value.ownBlock] at hh
        subst hh
        exact ⟨_, 99, hb', .inr rfl⟩
    · exact ⟨_, 65, by rw [hh]; exact hgb, .inl rfl⟩
theorem pent_one1 (e : PEnt) : ∀ u ∈ e.cells, u.oneCell' = true := fun u h => by
  simp only [PEnt.cells, List.mem_cons, List.not_mem_nil, or_false] at h
  rcases h with rfl | rfl <;> rfl
set_option maxRecDepth 100000 in
set_option maxHeartbeats 2000000 in
theorem put118 (B : Nat) (w : World) (ov mv : Value) (S : PSt) (bi cap K : Nat) (x : PIn) (s : ByteArray) (num : Int) (h : StOwn B w (.slice (some ⟨bi, 0, none⟩) S.ins.length cap) ov mv S) (hx : S.ins[K]? = some x) (hB : B ≤ w.heap.size) (hl : x.ents.length ≤ 100000) :
    Calls Tryz.prog 118 #[.pointer (some ⟨bi, K * 4, none⟩), .string s, .int .i64 num] w fun e w' => e = .returned (.tuple #[]) ∧ Below B w w' ∧ Keep (InEn w) w w' ∧ StOwn B w' (.slice (some ⟨bi, 0, none⟩) S.ins.length cap) ov mv (S.ents K x (insAt x.ents (bsE x.ents s) ⟨s, num⟩)) := by
  have hread := h.read
  obtain ⟨ai, capi, he, hat⟩ := hread.ins_at2
  simp only [Value.slice.injEq] at he
  obtain ⟨rfl, -, rfl⟩ := he
  obtain ⟨bi', off', ev, he, iG, hone, hrow, hcl⟩ := hat K x hx
  simp only [Option.some.injEq, Addr.mk.injEq] at he
  obtain ⟨rfl, rfl, -⟩ := he
  obtain ⟨-, -, -, y2, -⟩ := hcl w (Below.refl _ _)
  rw [Nat.zero_add] at y2
  obtain ⟨hKl, _⟩ := List.getElem?_eq_some_iff.1 hx
  have hfz : w.frozen? ⟨bi, K * 4 + 2, none⟩ = false := by
    obtain ⟨_, _, is, h3, _⟩ := h
    rcases h3 with ⟨h0, _⟩ | ⟨g, cap', arr, heq, hgB, hgb, _⟩
    · simp at h0
    · simp only [Value.slice.injEq, Option.some.injEq, Addr.mk.injEq] at heq
      obtain ⟨⟨rfl, -, -⟩, -, -⟩ := heq
      exact hgb.frozen _
  have hown : OwnP B w 99 2 ev (x.ents.map PEnt.cells) := by
    obtain ⟨_, _, is, h3, h4, h5, _⟩ := h
    have hr : is[K]? = some is[K] := List.getElem?_eq_getElem (by omega)
    rcases h3 with ⟨h0, _⟩ | ⟨g, cap', arr, heq, hgB, hgb, _, _, _, hri⟩
    · simp at h0
    · simp only [Value.slice.injEq, Option.some.injEq, Addr.mk.injEq] at heq
      obtain ⟨⟨rfl, -, -⟩, -, -⟩ := heq
      have := hri K is[K].cells (by rw [List.getElem?_map, hr]; rfl) 2 _ rfl
      rw [hgb.cell, this] at y2
      have e : is[K].ev = ev := Option.some.inj y2
      rw [← e]
      exact (h5 K _ x hr hx).2.2.2
  have hblk : ∃ arr, Blk w bi arr 65 ∧ K * 4 + 2 < arr.size := by
    obtain ⟨_, _, is, h3, h4, h5, _⟩ := h
    rcases h3 with ⟨h0, _⟩ | ⟨g, cap', arr, heq, hgB, hgb, hnc, _, hsz, hri⟩
    · simp at h0
    · simp only [Value.slice.injEq, Option.some.injEq, Addr.mk.injEq] at heq
      obtain ⟨⟨rfl, -, -⟩, -, -⟩ := heq
      rw [List.length_map] at hnc
      exact ⟨arr, hgb, by omega⟩
  obtain ⟨arr, hgb, has⟩ := hblk
  have HB := Lib.hid hgb
  have nEv : ∀ k, ev.ownBlock = some k → k ≠ bi := fun k hk => hown.ne_blk hgb (by decide) hk
  have HN := Lib.hid nEv
  clear hgb nEv
  have hent : ∀ ww, Below w.heap.size w ww → Calls Tryz.prog 114 #[ev, .string s] ww _ := fun ww hb => entry114 x.ents ev s ww (hrow.below hb (Nat.le_refl _)) (by omega)
  have hins : ∀ ww gv, Below w.heap.size w ww → w.heap.size ≤ gv → Blk ww gv #[.string s, .int .i64 num] 99 → Calls Tryz.prog 155 #[ev, .int .i64 (bsE x.ents s), .slice (some ⟨gv, 0, none⟩) 1 1] ww _ := fun ww gv hb hg hgv =>
    insert155 B ev (x.ents.map PEnt.cells) (bsE x.ents s) gv (PEnt.cells ⟨s, num⟩) ww (hown.keep (Keep.of_below hb (fun _ => False)) (fun _ _ h => h)) (pent_len _) (pent_one _) (by rw [List.length_map]; exact bsE_le _ _) (by rw [List.length_map]; omega) hgv rfl (pent_one1 _) (fun e => by have := hown.lt e; omega) (Nat.le_trans hB hb.size)
  have hbl := bsE_le x.ents s
  have HH := Lib.hid (And.intro h (And.intro hown hx))
  obtain ⟨ea, en, ec, rfl⟩ := hown.form
  generalize bsE x.ents s = bs at hent hins hbl ⊢
  generalize hitE x.ents s = hh at hent
  clear h hread hat hcl hrow hown hx
  go_enter Tryz.func118, Tryz.ntmps118
  go_wp2_with (first | (go_at_call 114; refine (hent _ (bel _ _)).mono ?_; rintro e w' ⟨rfl, hb⟩; obtain ⟨p, rfl⟩ := hb.rest; clear hb) | (go_at_call 155; refine (hins _ _ (bel _ _) (by simp) (by repeat (first | exact Blk.new_i _ _ _ _ | refine Blk.alloc ?_ _))).mono ?_; rintro e w2 ⟨v', rfl, ho2, hk2, hf2⟩; have hb2 := hk2.blk (b := bi) (c := arr) (t := 65) (by repeat (first | exact HB.out | refine Blk.alloc ?_ _ | refine Blk.junk ?_ _)) (fun h => HN.out _ h rfl); have hk3 := (Keep.of_below (bel w _) (fun k => (Value.slice ea en ec).ownBlock = some k)).trans hk2 (fun _ _ h => h); have hf3 : ∀ k, v'.ownBlock = some k → (Value.slice ea en ec).ownBlock = some k ∨ w.heap.size ≤ k := fun k hk => (hf2 k hk).imp id (fun h => Nat.le_trans (bel w _).size h); obtain ⟨va, vn, vc, rfl⟩ := ho2.form; have iB2 := hb2.lt; have f2 := hb2.frozen (K * 4 + 2); obtain ⟨u2, c2⟩ : ∃ u2, w2.cell? ⟨bi, K * 4 + 2, none⟩ = some u2 := ⟨arr[K * 4 + 2], by rw [hb2.cell]; exact Array.getElem?_eq_getElem has⟩; have H2 := Lib.hid (And.intro ho2 (And.intro hk3 hf3)); clear ho2 hk2 hf2 hb2 hk3 hf3))
  refine bodyPost_end (v := .tuple #[]) (by simp [results, go_sem]) rfl ?_
  obtain ⟨r1, r2, r3⟩ := HH.out.1.setEnts HH.out.2.2 y2 (es' := insAt x.ents bs ⟨s, num⟩) (by rw [insAt_map]; exact H2.out.1) H2.out.2.1 H2.out.2.2 hB
  exact ⟨rfl, r2, r3, r1⟩
end Go.Proofs.YtjkenolgkkknaaaGreatDoor
namespace Go.Proofs.YtjkenolgkkknaaaGreatDoor
open Go.RowKit
/-- The compare of create's search: at an inode of number x, with n. -/
def cmpD (x n : Int) : Int := wrap64 (x - n)
theorem cmp120 (x n : Int) (d : Bool) (ev : Value) (s : ByteArray) (hev : ev.oneCell' = true) (w : World) :
    Calls Tryz.prog 120 #[.agg #[.int .i64 x, .bool d, ev, .string s], .int .i64 n] w fun e w' => e = .returned (.int .i64 (cmpD x n)) ∧ Below w.heap.size w w' := by
  unfold cmpD
  go_enter Tryz.func120, Tryz.ntmps120
  go_wp2_with fail
  go_ret
  exact ⟨by first | rfl | simp, bel _ _⟩
def cmpAtD (is : List IRec) (n : Int) (q : Nat) : Int := match is[q]? with | some x => cmpD x.num n | none => 0
def bsD (is : List IRec) (n : Int) : Nat := bsFrom (cmpAtD is n) is.length 0 is.length
def bsHitD (is : List IRec) (n : Int) : Bool := decide (bsD is n < is.length) && (cmpAtD is n (bsD is n) == 0)
def cmpND (ns : List Int) (n : Int) (q : Nat) : Int := match ns[q]? with | some x => cmpD x n | none => 0
/-- The place by the numbers alone. -/
def bsND (ns : List Int) (n : Int) : Nat := bsFrom (cmpND ns n) ns.length 0 ns.length
theorem bsD_num (is : List IRec) (n : Int) : bsD is n = bsND (is.map IRec.num) n := by
  have hc : cmpAtD is n = cmpND (is.map IRec.num) n := by
    funext q
    unfold cmpAtD cmpND
    rw [List.getElem?_map]
    cases is[q]? <;> rfl
  unfold bsD bsND
  rw [hc, List.length_map]
set_option maxRecDepth 100000 in
set_option maxHeartbeats 2000000 in
theorem bs119d (is : List IRec) (v : Value) (n : Int) (w : World) (h : RowAt w 4 v (is.map IRec.cells)) (hlen : is.length ≤ 1000000000) :
    Calls Tryz.prog 119 #[v, .int .i64 n, .func (.func 120) #[] #[]] w fun e w' => e = .returned (.tuple #[.int .i64 (bsD is n), .bool (bsHitD is n)]) ∧ Below w.heap.size w w' := by
  obtain ⟨a, cap, rfl, _, hrow⟩ := h
  rw [List.length_map] at hrow ⊢
  have cell : ∀ (wr : World), Below w.heap.size w wr → ∀ (q : Nat), q < is.length → ∃ (b off : Nat) (x : IRec), a = some ⟨b, off, none⟩ ∧ BlockLt b wr ∧ is[q]? = some x ∧ cmpAtD is n q = cmpD x.num n ∧ wr.cell? ⟨b, off + q * 4, none⟩ = some (.int .i64 x.num) ∧ wr.cell? ⟨b, off + q * 4 + 1, none⟩ = some (.bool x.dir) ∧ wr.cell? ⟨b, off + q * 4 + 2, none⟩ = some x.ev ∧ wr.cell? ⟨b, off + q * 4 + 3, none⟩ = some (.string x.data) := by
    intro wr hb q hq
    obtain ⟨b, off, rfl, hlt, hc⟩ := hrow (by omega)
    obtain ⟨x, hx⟩ : ∃ x, is[q]? = some x := ⟨_, List.getElem?_eq_getElem hq⟩
    have hm : (is.map IRec.cells)[q]? = some x.cells := by rw [List.getElem?_map, hx]; rfl
    have hs := hb.size
    have key : ∀ (t : Nat) (u : Value), x.cells[t]? = some u → wr.cell? ⟨b, off + q * 4 + t, none⟩ = some u := fun t u hu => (hb.cell (p := ⟨b, _, none⟩) hlt).trans (hc q _ hm t u hu)
    exact ⟨b, off, x, rfl, ⟨by omega⟩, hx, by unfold cmpAtD; rw [hx], key 0 _ rfl, key 1 _ rfl, key 2 _ rfl, key 3 _ rfl⟩
  have HC := Lib.hid cell
  clear cell hrow
  obtain ⟨P, hP⟩ : ∃ P, bsD is n = P := ⟨_, rfl⟩
  obtain ⟨T, hT⟩ : ∃ T, bsHitD is n = T := ⟨_, rfl⟩
  rw [hP, hT]
  have HP := Lib.hid (And.intro hP hT)
  clear hP hT
  go_enter Tryz.func119, Tryz.ntmps119
  go_wp2_with fail
  go_loopw [9, 10] (fun i j wr => ∃ (lo hi b : Nat), i = .int .i64 lo ∧ j = .int .i64 hi ∧ lo ≤ hi ∧ hi ≤ is.length ∧ hi ≤ lo + b ∧ bsFrom (cmpAtD is n) b lo hi = P ∧ Below w.heap.size w wr) (fun i j _ => (intOf j - intOf i).toNat)
  case atStart => exact ⟨0, is.length, is.length, rfl, rfl, by omega, by omega, by omega, HP.out.1, bel _ _⟩
  case round =>
    obtain ⟨lo, hi, b, rfl, rfl, hlh, hhn, hfu, hbs, hb⟩ := hrel
    have iB : Bel w wr := ⟨hb⟩
    by_cases hlt : lo < hi
    · obtain ⟨b', rfl⟩ : ∃ b', b = b' + 1 := ⟨b - 1, by omega⟩
      obtain ⟨m, hm⟩ : ∃ m, (lo + hi) / 2 = m := ⟨_, rfl⟩
      obtain ⟨b0, off, x, rfl, iG, hx, hcm, c0, c1, c2, c3⟩ := HC.out wr hb m (by omega)
      have hone := x.one
      rw [bsFrom, if_pos hlt, hm, hcm] at hbs
      have HS := Lib.hid hbs
      clear hbs hcm
      have hmI : ((lo : Int) + hi) / 2 = m := by omega
      have hmn : m < is.length := by omega
      have hmnI : (m : Int) < is.length := by omega
      have hcall : ∀ ww, Calls Tryz.prog 120 #[.agg #[.int .i64 x.num, .bool x.dir, x.ev, .string x.data], .int .i64 n] ww fun e w' => e = .returned (.int .i64 (cmpD x.num n)) ∧ Below ww.heap.size ww w' := fun ww => cmp120 x.num n x.dir x.ev x.data hone ww
      have HM := Lib.hid hm
      clear hm
      by_cases hneg : cmpD x.num n < 0
      · generalize hcv : cmpD x.num n = cv at hcall hneg
        go_wp2_with (go_at_call 120; refine (hcall _).mono ?_; rintro e w' ⟨rfl, hb⟩; obtain ⟨p, rfl⟩ := hb.rest; clear hb)
        go_roundw
        case rel => exact ⟨m + 1, hi, b', by go_num, rfl, by have := HM.out; omega, by omega, by have := HM.out; omega, by have := HS.out; rw [hcv, if_pos hneg] at this; exact this, bel _ _⟩
        case measure => have := HM.out; simp [intOf]; omega
      · generalize hcv : cmpD x.num n = cv at hcall hneg
        go_wp2_with (go_at_call 120; refine (hcall _).mono ?_; rintro e w' ⟨rfl, hb⟩; obtain ⟨p, rfl⟩ := hb.rest; clear hb)
        go_roundw
        case rel => exact ⟨lo, m, b', rfl, rfl, by have := HM.out; omega, by omega, by have := HM.out; omega, by have := HS.out; rw [hcv, if_neg (by omega)] at this; exact this, bel _ _⟩
        case measure => have := HM.out; simp [intOf]; omega
    · obtain rfl : lo = hi := by omega
      rw [bsFrom_end _ _ _ _ hlt] at hbs
      have hPl : P = lo := hbs.symm
      subst hPl
      by_cases hln : P < is.length
      · obtain ⟨b0, off, x, rfl, iG, hx, hcm, c0, c1, c2, c3⟩ := HC.out wr hb P hln
        have hone := x.one
        have hlnI : (P : Int) < is.length := by omega
        have hcall : ∀ ww, Calls Tryz.prog 120 #[.agg #[.int .i64 x.num, .bool x.dir, x.ev, .string x.data], .int .i64 n] ww fun e w' => e = .returned (.int .i64 (cmpD x.num n)) ∧ Below ww.heap.size ww w' := fun ww => cmp120 x.num n x.dir x.ev x.data hone ww
        have hTv : T = (cmpD x.num n == 0) := by
          have h1 := HP.out.2
          have h2 := HP.out.1
          rw [← h1]
          unfold bsHitD
          rw [h2, hcm]
          simp [hln]
        clear hcm
        generalize cmpD x.num n = cv at hcall hTv
        subst hTv
        go_wp2_with (go_at_call 120; refine (hcall _).mono ?_; rintro e w' ⟨rfl, hb⟩; obtain ⟨p, rfl⟩ := hb.rest; clear hb)
        refine bodyPost_ret (v := .tuple #[.int .i64 P, .bool (cv == 0)]) (by simp [results, Tryz.results119, go_sem]) rfl ⟨rfl, bel _ _⟩
      · have hlnI : ¬ (P : Int) < is.length := by omega
        have hTv : T = false := by
          have h1 := HP.out.2
          have h2 := HP.out.1
          rw [← h1]
          unfold bsHitD
          rw [h2]
          simp [hln]
        subst hTv
        go_wp2_with fail
        refine bodyPost_ret (v := .tuple #[.int .i64 P, .bool false]) (by simp [results, Tryz.results119, go_sem]) rfl ⟨rfl, bel _ _⟩
end Go.Proofs.YtjkenolgkkknaaaGreatDoor
namespace Go.Proofs.YtjkenolgkkknaaaGreatDoor
open Go.RowKit
theorem RowAt.take {w : World} {k n cap : Nat} {a : Option Addr} {rows : List (List Value)} (h : RowAt w k (.slice a n cap) rows) (m : Nat) (hm : m ≤ rows.length) : RowAt w k (.slice a m cap) (rows.take m) := by
  obtain ⟨a', cap', e, hl, hr⟩ := h
  simp only [Value.slice.injEq] at e
  obtain ⟨rfl, -, rfl⟩ := e
  have htl : (rows.take m).length = m := by rw [List.length_take]; omega
  refine ⟨a, cap, by rw [htl], by omega, fun h0 => ?_⟩
  obtain ⟨b, off, e, hb, hc⟩ := hr (by omega)
  refine ⟨b, off, e, hb, fun q cs hq t u hu => hc q cs ?_ t u hu⟩
  rw [List.getElem?_take] at hq
  split at hq
  · exact hq
  · cases hq
set_option maxRecDepth 100000 in
/-- A path's names, and that their slice has room for them. -/
theorem parse150c (s : ByteArray) (w : World) (hp : (parseM s).1 = 0) : Calls Tryz.prog 150 #[.string s] w fun e w' => ∃ v, e = .returned v ∧ Below w.heap.size w w' ∧ OwnP 0 w' 9 1 v ((parseM s).2.map fun n => [.string n]) := by
  have hpp := parse136 s w
  generalize parseM s = F at hpp hp ⊢
  obtain ⟨c, ns⟩ := F
  obtain rfl : c = 0 := hp
  have hc : ∀ ww, Calls Tryz.prog 167 #[.int .i64 0] ww _ := fun ww => code167 0 ww
  go_enter Tryz.func150, Tryz.ntmps150
  go_wp2_with (first | (go_at_call 136; refine hpp.mono ?_; rintro e w1 ⟨v, rfl, hb, hown, hbl⟩; have hone := own_one' hown; have iB : Bel w w1 := ⟨hb⟩; have HO := Lib.hid (And.intro hown hb); clear hown hb hbl) | (go_at_call 167; refine (hc _).mono ?_; rintro e w' ⟨rfl, hb⟩; obtain ⟨p, rfl⟩ := hb.rest; clear hb) | (go_at_call 115; refine (throw_no _ _).mono ?_; rintro e w' ⟨rfl, hb⟩; obtain ⟨p, rfl⟩ := hb.rest; clear hb))
  go_ret
  refine ⟨_, rfl, bel _ _, ?_⟩
  have := (OwnP.of_own (rows := ns.map fun n => [.string n]) (by rw [List.length_map, flat_one]; exact HO.out.1) (by decide) (by intro cs h; obtain ⟨x, _, rfl⟩ := List.mem_map.1 h; rfl))
  exact this.keep (Keep.of_below (bel w1 _) (fun _ => False)) (fun _ _ h => h)
theorem OwnP.cap {B : Nat} {w : World} {e : TypeId} {k : Nat} {v : Value} {rows : List (List Value)} (h : OwnP B w e k v rows) : ∃ a cap, v = .slice a rows.length cap ∧ rows.length ≤ cap ∧ cap ≤ maxLen := by
  rcases h with ⟨rfl, rfl⟩ | ⟨g, cap, cur, rfl, _, _, h1, h2, _⟩
  · exact ⟨_, _, rfl, by simp, by unfold maxLen; omega⟩
  · exact ⟨_, _, rfl, h1, h2⟩
theorem OwnP.some_ {B : Nat} {w : World} {e : TypeId} {k : Nat} {v : Value} {rows : List (List Value)} (h : OwnP B w e k v rows) (h0 : 0 < rows.length) : ∃ g cap, v = .slice (some ⟨g, 0, none⟩) rows.length cap ∧ rows.length ≤ cap ∧ cap ≤ maxLen := by
  rcases h with ⟨rfl, rfl⟩ | ⟨g, cap, cur, rfl, _, _, h1, h2, _⟩
  · simp at h0
  · exact ⟨_, _, rfl, h1, h2⟩
/-- Where a path's parent is: an inode's place and the last name; or a code is thrown. -/
def parentM (S : PSt) (ns : List ByteArray) : Except Int (Nat × ByteArray) :=
  match ns.getLast? with
  | none => .error 9
  | some l => if (walkM S 0 ns.dropLast).2 ≠ 0 then .error (walkM S 0 ns.dropLast).2 else match S.ins[(walkM S 0 ns.dropLast).1]? with
    | some x => if x.dir = true then .ok ((walkM S 0 ns.dropLast).1, l) else .error 7
    | none => .error 7
def ParOut (w : World) (b : Nat) (S : PSt) (R : Except Int (Nat × ByteArray)) (e : Ending) : Prop :=
  match R with
  | .ok (K, l) => ∃ bi off cap, w.cell? ⟨b, 0, none⟩ = some (.slice (some ⟨bi, off, none⟩) S.ins.length cap) ∧ e = .returned (.tuple #[.pointer (some ⟨bi, off + K * 4, none⟩), .string l])
  | .error c => e = thrown c
set_option maxRecDepth 100000 in
set_option maxHeartbeats 4000000 in
theorem parent113 (d b : Nat) (S : PSt) (c : PCall) (s : ByteArray) (w : World) (h : DR w d b S c) (hf : Fine S) (hp : (parseM s).1 = 0) (hpl : (parseM s).2.length ≤ 1000000000) :
    Calls Tryz.prog 113 #[.pointer (some ⟨d, 0, none⟩), .string s] w fun e w' => Below w.heap.size w w' ∧ ParOut w b S (parentM S (parseM s).2) e := by
  have hpar : ∀ ww, Calls Tryz.prog 150 #[.string s] ww fun e w' => ∃ v, e = .returned v ∧ Below ww.heap.size ww w' ∧ OwnP 0 w' 9 1 v ((parseM s).2.map fun n => [.string n]) := fun ww => parse150c s ww hp
  generalize (parseM s).2 = ns at hpar hpl ⊢
  have hwk : ∀ ww v, Below w.heap.size w ww → RowAt ww 1 v (ns.dropLast.map fun n => [.string n]) → Calls Tryz.prog 151 #[.pointer (some ⟨b, 0, none⟩), v] ww _ := fun ww v hb hv => walk151 b S ns.dropLast v ww (h.sp.below hb (Nat.le_refl _)) hf.wf hf.pos hf.find hv (by rw [List.length_dropLast]; omega)
  have hlt := walkM_lt hf ns.dropLast 0 hf.pos
  have hd0 := h.d0
  have iD : BlockLt d w := ⟨h.lt⟩
  obtain ⟨hl, iv, ov, mv, c0, c1, c2, hr⟩ := h.sp
  have iL : BlockLt b w := ⟨hl⟩
  obtain ⟨ai, capi, rfl, hati⟩ := hr.ins_at2
  unfold parentM
  rcases hgl : ns.getLast? with _ | l
  · have hns : ns = [] := List.getLast?_eq_none_iff.1 hgl
    subst hns
    clear hwk h hr hati hlt hgl
    go_enter Tryz.func113, Tryz.ntmps113
    go_wp2_with (first | (go_at_call 150; refine (hpar _).mono ?_; rintro e w1 ⟨v, rfl, hb1, hv1⟩; obtain ⟨a, cap, rfl, -⟩ := hv1.cap) | (go_at_call 115; refine (throw_yes _ _).mono ?_; rintro e w' ⟨rfl, hb⟩; obtain ⟨p, rfl⟩ := hb.rest; clear hb))
    exact ⟨rfl, hb1.trans ((bel w1 _).mono hb1.size), rfl⟩
  · have hne : ns ≠ [] := fun e => by rw [e] at hgl; simp at hgl
    have hlp : 0 < ns.length := List.length_pos_iff.2 hne
    have hll : ns[ns.length - 1]? = some l := by rw [← hgl, List.getLast?_eq_getElem?]
    generalize walkM S 0 ns.dropLast = W at hwk hlt ⊢
    obtain ⟨K, C⟩ := W
    simp only at hwk hlt ⊢
    obtain ⟨m, hm⟩ : ∃ m, ns.length = m + 1 := ⟨ns.length - 1, by omega⟩
    have hdl : ns.dropLast = ns.take m := by rw [List.dropLast_eq_take, hm]; rfl
    obtain ⟨x, hx⟩ : ∃ x, S.ins[K]? = some x := ⟨_, List.getElem?_eq_getElem hlt⟩
    obtain ⟨bi, offi, ev, rfl, iG, ho1, hev, hcl⟩ := hati K x hx
    rw [hm] at hll
    have hll : ns[m]? = some l := hll
    have hw : ∀ ww a cap, Below w.heap.size w ww → RowAt ww 1 (.slice a (m + 1) cap) (ns.map fun n => [.string n]) → Calls Tryz.prog 151 #[.pointer (some ⟨b, 0, none⟩), .slice a m cap] ww fun e w' => e = .returned (.tuple #[.int .i64 K, .int .i64 C]) ∧ Below ww.heap.size ww w' := fun ww a cap hb hv => hwk ww _ hb (by rw [hdl, List.map_take]; exact hv.take m (by rw [List.length_map]; omega))
    have HP := Lib.hid (And.intro hpar (And.intro hw (And.intro hcl (And.intro hx hll))))
    have hKI : (K : Int) < S.ins.length := by omega
    have HM := Lib.hid (And.intro hm hpl)
    clear hpar hwk hw hcl hx hll h hr hati c1 c2 hgl hdl hev
    have hm0 : ((m : Int) + 1 == 0) = false := by simp; omega
    have hm1 : ¬ ((m : Int) + 1 = 0) := by omega
    by_cases hC : C = 0
    · subst hC
      rw [if_neg (by simp), HP.out.2.2.2.1]
      simp only
      have hfd : ∀ wr, Below w.heap.size w wr → wr.cell? ⟨bi, offi + K * 4 + 1, none⟩ = some (.bool x.dir) := fun wr hb => (HP.out.2.2.1 wr hb).2.2.1
      generalize hdir : x.dir = dd at hfd
      have hfd2 := Lib.hid hfd
      clear hfd hdir
      rcases dd with _ | _
      · simp only [Bool.false_eq_true, if_false]
        go_enter Tryz.func113, Tryz.ntmps113
        go_wp2_with (first | (go_at_call 150; refine (HP.out.1 _).mono ?_; rintro e w1 ⟨v, rfl, hb1, ho1⟩; have hrw := ho1.row; obtain ⟨gn, cap, hv, hc1, hc2⟩ := ho1.some_ (by rw [List.length_map, HM.out.1]; omega); rw [List.length_map, HM.out.1] at hv hc1; subst hv; have hnat := hrw.at_; have hww : ∀ ww, Below w1.heap.size w1 ww → Calls Tryz.prog 151 #[.pointer (some ⟨b, 0, none⟩), .slice (some ⟨gn, 0, none⟩) m cap] ww _ := fun ww hb => HP.out.2.1 ww _ cap (hb1.trans (hb.mono hb1.size)) (hrw.below hb (Nat.le_refl _)); have iB1 : Bel w w1 := ⟨hb1⟩; have iD1 : BlockLt d w1 := ⟨by have := hb1.size; have := iD.lt; omega⟩; have iL1 : BlockLt b w1 := ⟨by have := hb1.size; have := iL.lt; omega⟩; have x0 : w1.cell? ⟨d, 0, none⟩ = some (.pointer (some ⟨b, 0, none⟩)) := (hb1.cell (p := ⟨d, 0, none⟩) iD.lt).trans hd0; have z0 : w1.cell? ⟨b, 0, none⟩ = some (.slice (some ⟨bi, offi, none⟩) S.ins.length capi) := (hb1.cell (p := ⟨b, 0, none⟩) iL.lt).trans c0; obtain ⟨iG1, y0, -, y2, y3⟩ := HP.out.2.2.1 w1 hb1; have hmI : ((m : Int) + 1 - 1) = m := (by omega); have hwm : IntKind.i64.wrap (m : Int) = m := I64.wrap ⟨by omega, by have := HM.out; omega⟩; have hmc : m ≤ cap := (by omega); have H1 := Lib.hid (And.intro hb1 (And.intro hrw hnat)); clear hb1 hrw hnat ho1) | (go_at_call 115; with_reducible refine (throw_no _ _).mono ?_; rintro e w' ⟨rfl, hb⟩; obtain ⟨p, rfl⟩ := hb.rest; clear hb))
        refine wp_region_quiet_rest (by kernel_rfl) (by kernel_rfl) ?_
        repeat
          first
            | go_big_quiet_skip
            | (go_big_quiet_want; go_big_quiet_op; first | go_big_quiet_on | (apply Exists.intro; refine ⟨fun _ => ?_, ?_⟩; (focus ((refine calls_in (hww _ (bel _ _)) (fun w' hb => ?_); first | exact hb.rest | exact rest1 hb | exact rest2 hb))); go_big_quiet_on))
        refine wpQuiet_nil ?_
        intro w1 hw1
        obtain ⟨p, hw1⟩ := hw1
        subst hw1
        have y1f := hfd2.out w1 H1.out.1
        go_wp2_with (first | (go_at_call 115; with_reducible refine (throw_no _ _).mono ?_; rintro e w' ⟨rfl, hb⟩; obtain ⟨p, rfl⟩ := hb.rest; clear hb) | (go_at_call 115; with_reducible refine (throw_yes _ _).mono ?_; rintro e w' ⟨rfl, hb⟩; obtain ⟨p, rfl⟩ := hb.rest; clear hb))
        exact ⟨rfl, bel w _, rfl⟩
      · simp only [if_true]
        have hmI2 : (m : Int) < (m : Int) + 1 := by omega
        go_enter Tryz.func113, Tryz.ntmps113
        go_wp2_with (first | (go_at_call 150; refine (HP.out.1 _).mono ?_; rintro e w1 ⟨v, rfl, hb1, ho1⟩; have hrw := ho1.row; obtain ⟨gn, cap, hv, hc1, hc2⟩ := ho1.some_ (by rw [List.length_map, HM.out.1]; omega); rw [List.length_map, HM.out.1] at hv hc1; subst hv; have hnat := hrw.at_; have hww : ∀ ww, Below w1.heap.size w1 ww → Calls Tryz.prog 151 #[.pointer (some ⟨b, 0, none⟩), .slice (some ⟨gn, 0, none⟩) m cap] ww _ := fun ww hb => HP.out.2.1 ww _ cap (hb1.trans (hb.mono hb1.size)) (hrw.below hb (Nat.le_refl _)); have iB1 : Bel w w1 := ⟨hb1⟩; have iD1 : BlockLt d w1 := ⟨by have := hb1.size; have := iD.lt; omega⟩; have iL1 : BlockLt b w1 := ⟨by have := hb1.size; have := iL.lt; omega⟩; have x0 : w1.cell? ⟨d, 0, none⟩ = some (.pointer (some ⟨b, 0, none⟩)) := (hb1.cell (p := ⟨d, 0, none⟩) iD.lt).trans hd0; have z0 : w1.cell? ⟨b, 0, none⟩ = some (.slice (some ⟨bi, offi, none⟩) S.ins.length capi) := (hb1.cell (p := ⟨b, 0, none⟩) iL.lt).trans c0; obtain ⟨iG1, y0, -, y2, y3⟩ := HP.out.2.2.1 w1 hb1; have hmI : ((m : Int) + 1 - 1) = m := (by omega); have hwm : IntKind.i64.wrap (m : Int) = m := I64.wrap ⟨by omega, by have := HM.out; omega⟩; have hmc : m ≤ cap := (by omega); have H1 := Lib.hid (And.intro hb1 (And.intro hrw hnat)); clear hb1 hrw hnat ho1) | (go_at_call 115; with_reducible refine (throw_no _ _).mono ?_; rintro e w' ⟨rfl, hb⟩; obtain ⟨p, rfl⟩ := hb.rest; clear hb))
        refine wp_region_quiet_rest (by kernel_rfl) (by kernel_rfl) ?_
        repeat
          first
            | go_big_quiet_skip
            | (go_big_quiet_want; go_big_quiet_op; first | go_big_quiet_on | (apply Exists.intro; refine ⟨fun _ => ?_, ?_⟩; (focus ((refine calls_in (hww _ (bel _ _)) (fun w' hb => ?_); first | exact hb.rest | exact rest1 hb | exact rest2 hb))); go_big_quiet_on))
        refine wpQuiet_nil ?_
        intro w1 hw1
        obtain ⟨p, hw1⟩ := hw1
        subst hw1
        have y1f := hfd2.out w1 H1.out.1
        go_wp2_with (go_at_call 115; with_reducible refine (throw_no _ _).mono ?_; rintro e w' ⟨rfl, hb⟩; obtain ⟨p, rfl⟩ := hb.rest; clear hb)
        obtain ⟨a', cap', hv', hnat⟩ := H1.out.2.2
        obtain ⟨bn, offn, he, iN0, iN1, hcn⟩ := hnat w1 (Below.refl _ _) m [.string l] (by rw [List.getElem?_map, HP.out.2.2.2.2]; rfl)
        simp only [Value.slice.injEq] at hv'
        obtain ⟨rfl, -, rfl⟩ := hv'
        simp only [Option.some.injEq, Addr.mk.injEq] at he
        obtain ⟨rfl, rfl, -⟩ := he
        have n0 := hcn 0 _ rfl
        rw [Nat.mul_one, Nat.add_zero, Nat.zero_add] at n0
        clear hcn hnat
        refine wp_region_quiet_rest (by kernel_rfl) (by kernel_rfl) ?_
        repeat
          first
            | go_big_quiet_skip
            | (go_big_quiet_want; go_big_quiet_op; first | go_big_quiet_on | (apply Exists.intro; refine ⟨fun _ => ?_, ?_⟩; (focus (fail)); go_big_quiet_on))
        refine wpQuiet_nil ?_
        intro w1 hw1
        obtain ⟨p, hw1⟩ := hw1
        subst hw1
        go_wp2_with fail
        exact bodyPost_ret (v := .tuple #[.pointer (some ⟨bi, offi + K * 4, none⟩), .string l]) (by simp [results, Tryz.results113, go_sem]) rfl ⟨bel w _, bi, offi, capi, c0, rfl⟩
    · rw [if_pos (by simpa using hC)]
      have hcb : (C != 0) = true := by simpa using hC
      go_enter Tryz.func113, Tryz.ntmps113
      go_wp2_with (first | (go_at_call 150; refine (HP.out.1 _).mono ?_; rintro e w1 ⟨v, rfl, hb1, ho1⟩; have hrw := ho1.row; obtain ⟨gn, cap, hv, hc1, hc2⟩ := ho1.some_ (by rw [List.length_map, HM.out.1]; omega); rw [List.length_map, HM.out.1] at hv hc1; subst hv; have hnat := hrw.at_; have hww : ∀ ww, Below w1.heap.size w1 ww → Calls Tryz.prog 151 #[.pointer (some ⟨b, 0, none⟩), .slice (some ⟨gn, 0, none⟩) m cap] ww _ := fun ww hb => HP.out.2.1 ww _ cap (hb1.trans (hb.mono hb1.size)) (hrw.below hb (Nat.le_refl _)); have iB1 : Bel w w1 := ⟨hb1⟩; have iD1 : BlockLt d w1 := ⟨by have := hb1.size; have := iD.lt; omega⟩; have iL1 : BlockLt b w1 := ⟨by have := hb1.size; have := iL.lt; omega⟩; have x0 : w1.cell? ⟨d, 0, none⟩ = some (.pointer (some ⟨b, 0, none⟩)) := (hb1.cell (p := ⟨d, 0, none⟩) iD.lt).trans hd0; have z0 : w1.cell? ⟨b, 0, none⟩ = some (.slice (some ⟨bi, offi, none⟩) S.ins.length capi) := (hb1.cell (p := ⟨b, 0, none⟩) iL.lt).trans c0; obtain ⟨iG1, y0, -, y2, y3⟩ := HP.out.2.2.1 w1 hb1; have hmI : ((m : Int) + 1 - 1) = m := (by omega); have hwm : IntKind.i64.wrap (m : Int) = m := I64.wrap ⟨by omega, by have := HM.out; omega⟩; have hmc : m ≤ cap := (by omega); have H1 := Lib.hid (And.intro hb1 (And.intro hrw hnat)); clear hb1 hrw hnat ho1) | (go_at_call 115; with_reducible refine (throw_no _ _).mono ?_; rintro e w' ⟨rfl, hb⟩; obtain ⟨p, rfl⟩ := hb.rest; clear hb))
      refine wp_region_quiet_rest (by kernel_rfl) (by kernel_rfl) ?_
      repeat
        first
          | go_big_quiet_skip
          | (go_big_quiet_want; go_big_quiet_op; first | go_big_quiet_on | (apply Exists.intro; refine ⟨fun _ => ?_, ?_⟩; (focus ((refine calls_in (hww _ (bel _ _)) (fun w' hb => ?_); first | exact hb.rest | exact rest1 hb | exact rest2 hb))); go_big_quiet_on))
      refine wpQuiet_nil ?_
      intro w1 hw1
      obtain ⟨p, hw1⟩ := hw1
      subst hw1
      go_wp2_with (go_at_call 115; with_reducible refine (throw_yes _ _).mono ?_; rintro e w' ⟨rfl, hb⟩; obtain ⟨p, rfl⟩ := hb.rest; clear hb)
      exact ⟨rfl, bel w _, rfl⟩
end Go.Proofs.YtjkenolgkkknaaaGreatDoor
namespace Go.Proofs.YtjkenolgkkknaaaGreatDoor
open Go.RowKit
theorem insAt_get {α : Type} (l : List α) (i : Nat) (x : α) (hi : i ≤ l.length) (q : Nat) : (insAt l i x)[q]? = if q < i then l[q]? else if q = i then some x else l[q - 1]? := by
  unfold insAt
  have htl : (l.take i).length = i := by rw [List.length_take]; omega
  by_cases h1 : q < i
  · rw [if_pos h1, List.getElem?_append_left (by omega), List.getElem?_take, if_pos h1]
  · rw [if_neg h1, List.getElem?_append_right (by omega), htl]
    by_cases h2 : q = i
    · rw [if_pos h2, h2, Nat.sub_self]
      rfl
    · rw [if_neg h2, show q - i = (q - i - 1) + 1 by omega, List.getElem?_cons_succ, List.getElem?_drop]
      congr 1
      omega
theorem insAt_len {α : Type} (l : List α) (i : Nat) (x : α) (hi : i ≤ l.length) : (insAt l i x).length = l.length + 1 := by
  unfold insAt
  rw [List.length_append, List.length_take, List.length_cons, List.length_drop]
  omega
theorem RowsIn.set1 {arr : Array Value} {xs : List Int} (h : RowsIn arr 1 (xs.map intCells)) {k : Nat} (hk : k < xs.length) (hs : k < arr.size) (v : Int) : RowsIn (arr.setIfInBounds k (.int .i64 v)) 1 ((xs.set k v).map intCells) := by
  have := h.set (int_len xs) (q := k) (t := 0) (cs := intCells xs[k]) (by rw [List.getElem?_map, List.getElem?_eq_getElem hk]; rfl) (by decide) (by omega) (.int .i64 v)
  rw [Nat.mul_one, Nat.add_zero] at this
  rw [List.map_set]
  exact this
/-- A count is laid. -/
theorem StOwn.setMade {B : Nat} {w : World} {iv ov : Value} {S : PSt} {gm cap : Nat} (h : StOwn B w iv ov (.slice (some ⟨gm, 0, none⟩) S.made.length cap) S) {k : Nat} (hk : k < S.made.length) (v : Int) :
    StOwn B (w.setCell ⟨gm, k, none⟩ (.int .i64 v)) iv ov (.slice (some ⟨gm, 0, none⟩) S.made.length cap) { S with made := S.made.set k v } ∧ B ≤ gm ∧ ∃ c, Blk w gm c 3 := by
  obtain ⟨h1, h2, is, h3, h4, h5, h6⟩ := h
  rcases h2 with ⟨h0, _⟩ | ⟨g, cap', arr, heq, hgB, hgb, hnc, hcm, hsz, hri⟩
  · simp at h0
  simp only [Value.slice.injEq, Option.some.injEq, Addr.mk.injEq] at heq
  obtain ⟨⟨rfl, -, -⟩, -, rfl⟩ := heq
  have hK : Keep (fun x => x = gm) w (w.setCell ⟨gm, k, none⟩ (.int .i64 v)) := Keep.setCell (S := fun x => x = gm) (p := ⟨gm, k, none⟩) (Keep.refl _ _) (.inl rfl) _
  have key : ∀ {e : TypeId} {n : Nat} {u : Value} {rows : List (List Value)}, OwnP B w e n u rows → e ≠ 3 → OwnP B (w.setCell ⟨gm, k, none⟩ (.int .i64 v)) e n u rows := by
    intro e n u rows ho he
    exact ho.keep hK (fun g hg hx => ho.ne_blk hgb he hg hx)
  rw [List.length_map] at hnc
  refine ⟨⟨key h1 (by decide), .inr ⟨gm, cap, arr.setIfInBounds k (.int .i64 v), ?_, hgB, hgb.set_ _ _, ?_, hcm, by rw [Array.size_setIfInBounds]; exact hsz, hri.set1 hk (by omega) v⟩, is, key h3 (by decide), h4, fun q r x hr hx => ?_, h6⟩, hgB, _, hgb⟩
  · show Value.slice (some ⟨gm, 0, none⟩) S.made.length cap = .slice (some ⟨gm, 0, none⟩) ((S.made.set k v).map intCells).length cap
    rw [List.length_map, List.length_set]
  · show ((S.made.set k v).map intCells).length ≤ cap
    rw [List.length_map, List.length_set]; exact hnc
  · obtain ⟨a1, a2, a3, a4⟩ := h5 q r x hr hx
    exact ⟨a1, a2, a3, key a4 (by decide)⟩
theorem bsND_le (ns : List Int) (n : Int) : bsND ns n ≤ ns.length := bsFrom_le _ _ _ _ (Nat.zero_le _)
theorem nums_ents (S : PSt) (K : Nat) (x : PIn) (es : List PEnt) (hx : S.ins[K]? = some x) : (S.ents K x es).nums = S.nums := by
  unfold PSt.nums PSt.ents
  apply List.ext_getElem?
  intro q
  rw [List.getElem?_map, List.getElem?_map]
  by_cases e : K = q
  · subst e
    obtain ⟨hl, _⟩ := List.getElem?_eq_some_iff.1 hx
    rw [List.getElem?_set_self hl, hx]
    rfl
  · rw [List.getElem?_set_ne e]
end Go.Proofs.YtjkenolgkkknaaaGreatDoor
namespace Go.Proofs.YtjkenolgkkknaaaGreatDoor
open Go.RowKit
/-- The state behind a create of a number. -/
def madeSt (S : PSt) (c : PCall) (K : Nat) (x : PIn) (l : ByteArray) (m : Int) : PSt :=
  { ins := insAt (S.ents K x (insAt x.ents (bsE x.ents l) ⟨l, 2 + c.core + 8 * m⟩)).ins (bsND S.nums (2 + c.core + 8 * m)) ⟨2 + c.core + 8 * m, c.kind == 1, [], { data := #[] }⟩, op := S.op, made := S.made.set c.core.toNat (m + 1) }
def createM (S : PSt) (c : PCall) (r : PRes) : Except Int (PSt × PRes) :=
  match parentM S (parseM c.path).2 with
  | .error k => .error k
  | .ok (K, l) => match S.ins[K]? with
    | none => .error 0
    | some x => if hitE x.ents l = true then .error 2 else match S.made[c.core.toNat]? with
      | none => .error 0
      | some m => if (fullM x.ents l { data := #[] } || decide (32 ≤ m)) = true then .error 5 else .ok (madeSt S c K x l m, r)
/-- Sizes that a state that may be keeps. -/
structure Small (S : PSt) : Prop where
  ins : S.ins.length ≤ 257
  ents : ∀ x ∈ S.ins, x.ents.length ≤ 100000
  made : S.made.length ≤ 8
  each : ∀ m ∈ S.made, 0 ≤ m ∧ m ≤ 32
/-- What a doer's blocks are, opened. -/
structure Opened (B : Nat) (w : World) (d b bi gm : Nat) (capi capm : Nat) (ov nv : Value) (S : PSt) (c : PCall) (r : PRes) : Prop where
  hBb : B ≤ b
  hBd : B ≤ d
  hD : Blk w d (doCells b c r nv) 82
  hb : Blk w b #[.slice (some ⟨bi, 0, none⟩) S.ins.length capi, ov, .slice (some ⟨gm, 0, none⟩) S.made.length capm] 27
  st : StOwn B w (.slice (some ⟨bi, 0, none⟩) S.ins.length capi) ov (.slice (some ⟨gm, 0, none⟩) S.made.length capm) S
  nm : OwnP B w 9 1 nv (r.names.map strCells)
theorem DoAt.open_ {B : Nat} {w : World} {d b : Nat} {S : PSt} {c : PCall} {r : PRes} (h : DoAt B w d b S c r) (h1 : 0 < S.ins.length) (h2 : 0 < S.made.length) : ∃ bi gm capi capm ov nv, Opened B w d b bi gm capi capm ov nv S c r := by
  obtain ⟨iv, ov, mv, nv, hBb, hBd, hD, hbk, hst, hnv⟩ := h
  have hst' := hst
  obtain ⟨o1, o2, is, o3, o4, _⟩ := hst'
  obtain ⟨gm, capm, rfl, _⟩ := o2.some_ (by rw [List.length_map]; exact h2)
  obtain ⟨bi, capi, rfl, _⟩ := o3.some_ (by rw [List.length_map, o4]; exact h1)
  rw [List.length_map] at hbk hst
  rw [List.length_map, o4] at hbk hst
  exact ⟨bi, gm, capi, capm, ov, nv, hBb, hBd, hD, hbk, hst, hnv⟩
theorem Opened.below {B : Nat} {w w' : World} {d b bi gm capi capm : Nat} {ov nv : Value} {S : PSt} {c : PCall} {r : PRes} (h : Opened B w d b bi gm capi capm ov nv S c r) (hb : Below w.heap.size w w') : Opened B w' d b bi gm capi capm ov nv S c r := by
  have hk : Keep (fun _ => False) w w' := Keep.of_below hb _
  exact ⟨h.hBb, h.hBd, hk.blk h.hD id, hk.blk h.hb id, h.st.keep hk (fun _ h => h.elim), h.nm.keep hk (fun _ _ h => h)⟩
theorem Opened.at_ {B : Nat} {w : World} {d b bi gm capi capm : Nat} {ov nv : Value} {S : PSt} {c : PCall} {r : PRes} (h : Opened B w d b bi gm capi capm ov nv S c r) : DoAt B w d b S c r :=
  ⟨_, _, _, _, h.hBb, h.hBd, h.hD, h.hb, h.st, h.nm⟩
/-- The cells that a walk reads. -/
structure Reads (w : World) (d b bi gm : Nat) (capi capm : Nat) (S : PSt) (c : PCall) : Prop where
  d0 : w.cell? ⟨d, 0, none⟩ = some (.pointer (some ⟨b, 0, none⟩))
  d1 : w.cell? ⟨d, 1, none⟩ = some (.int .i64 c.kind)
  d2 : w.cell? ⟨d, 2, none⟩ = some (.int .i64 c.core)
  d6 : w.cell? ⟨d, 6, none⟩ = some (.string c.path)
  b0 : w.cell? ⟨b, 0, none⟩ = some (.slice (some ⟨bi, 0, none⟩) S.ins.length capi)
  b2 : w.cell? ⟨b, 2, none⟩ = some (.slice (some ⟨gm, 0, none⟩) S.made.length capm)
  fb0 : w.frozen? ⟨b, 0, none⟩ = false
  iD : BlockLt d w
  iB : BlockLt b w
theorem Opened.reads {B : Nat} {w : World} {d b bi gm capi capm : Nat} {ov nv : Value} {S : PSt} {c : PCall} {r : PRes} (h : Opened B w d b bi gm capi capm ov nv S c r) : Reads w d b bi gm capi capm S c :=
  ⟨h.hD.cell 0, h.hD.cell 1, h.hD.cell 2, h.hD.cell 6, h.hb.cell 0, h.hb.cell 2, h.hb.frozen 0, h.hD.lt, h.hb.lt⟩
/-- A count's cell. -/
theorem Opened.made_at {B : Nat} {w : World} {d b bi gm capi capm : Nat} {ov nv : Value} {S : PSt} {c : PCall} {r : PRes} (h : Opened B w d b bi gm capi capm ov nv S c r) {k : Nat} {m : Int} (hm : S.made[k]? = some m) :
    BlockLt gm w ∧ w.cell? ⟨gm, k, none⟩ = some (.int .i64 m) ∧ w.frozen? ⟨gm, k, none⟩ = false := by
  obtain ⟨_, h2, _⟩ := h.st
  rcases h2 with ⟨h0, _⟩ | ⟨g, cap', arr, heq, hgB, hgb, hnc, hcm, hsz, hri⟩
  · simp at h0
  simp only [Value.slice.injEq, Option.some.injEq, Addr.mk.injEq] at heq
  obtain ⟨⟨rfl, -, -⟩, -, rfl⟩ := heq
  refine ⟨hgb.lt, ?_, hgb.frozen _⟩
  have := hri k (intCells m) (by rw [List.getElem?_map, hm]; rfl) 0 _ rfl
  rw [Nat.mul_one, Nat.add_zero] at this
  rw [hgb.cell]
  exact this
/-- An inode's cells, its entries' slice. -/
theorem Opened.ino_at {B : Nat} {w : World} {d b bi gm capi capm : Nat} {ov nv : Value} {S : PSt} {c : PCall} {r : PRes} (h : Opened B w d b bi gm capi capm ov nv S c r) {K : Nat} {x : PIn} (hx : S.ins[K]? = some x) :
    BlockLt bi w ∧ ∃ ev, w.cell? ⟨bi, K * 4 + 2, none⟩ = some ev ∧ RowAt w 2 ev (x.ents.map PEnt.cells) := by
  obtain ⟨ai, capi', he, hat⟩ := h.st.read.ins_at2
  simp only [Value.slice.injEq] at he
  obtain ⟨rfl, -, rfl⟩ := he
  obtain ⟨bi', off', ev, he, iG, hone, hrow, hcl⟩ := hat K x hx
  simp only [Option.some.injEq, Addr.mk.injEq] at he
  obtain ⟨rfl, rfl, -⟩ := he
  obtain ⟨i1, -, -, y2, -⟩ := hcl w (Below.refl _ _)
  rw [Nat.zero_add] at y2
  exact ⟨i1, ev, y2, hrow⟩
theorem not_inEn {w : World} {g : Nat} {c : Array Value} {t : TypeId} (h : Blk w g c t) (h1 : t ≠ 65) (h2 : t ≠ 99) : ¬ InEn w g := by
  rintro ⟨c', t', hb, ht⟩
  rcases ht with rfl | rfl
  · exact h.ne_ hb h1 rfl
  · exact h.ne_ hb h2 rfl
theorem own_not_inEn {B : Nat} {w : World} {e : TypeId} {k : Nat} {v : Value} {rows : List (List Value)} (h : OwnP B w e k v rows) (h1 : e ≠ 65) (h2 : e ≠ 99) : ∀ g, v.ownBlock = some g → ¬ InEn w g := by
  intro g hg hi
  obtain ⟨c', t', hb, ht⟩ := hi
  rcases ht with rfl | rfl
  · exact h.ne_blk hb h1 hg rfl
  · exact h.ne_blk hb h2 hg rfl
end Go.Proofs.YtjkenolgkkknaaaGreatDoor
