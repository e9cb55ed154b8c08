/- model.put: an entry more in a directory of a state of the call's own. Conditions: none. -/
import Derived.Test.YtmkapobnfigedaaGreatDoorEl23
import Derived.Test.YtmkapobnfigedaaGreatDoorEl21
set_option linter.unusedVariables false
set_option linter.unusedSimpArgs false
namespace Go.Proofs.YtmkapobnfigedaaGreatDoor
open Go.RowKit
def insAt {α : Type} (l : List α) (i : Nat) (x : α) : List α := l.take i ++ x :: l.drop i
theorem insAt_map {α β : Type} (f : α → β) (l : List α) (i : Nat) (x : α) : (insAt l i x).map f = (l.map f).take i ++ f x :: (l.map f).drop i := by simp [insAt, List.map_take, List.map_drop]
theorem bsFrom_le (f : Nat → Int) : ∀ (b lo hi : Nat), lo ≤ hi → bsFrom f b lo hi ≤ hi
 | 0, lo, hi, h => h
 | b + 1, lo, hi, h => by
   unfold bsFrom
   split
   · split
     · exact bsFrom_le f b _ _ (by omega)
     · have := bsFrom_le f b lo ((lo + hi) / 2) (by omega); omega
   · exact h
theorem bsE_le (es : List PEnt) (s : ByteArray) : bsE es s ≤ es.length := bsFrom_le _ _ _ _ (Nat.zero_le _)
def PSt.ents (S : PSt) (K : Nat) (x : PIn) (es : List PEnt) : PSt := { S with ins := S.ins.set K { x with ents := es } }
def InEn (w : World) (g : Nat) : Prop := ∃ c t, Blk w g c t ∧ (t = 68 ∨ t = 97)
set_option maxRecDepth 100000 in
theorem StOwn.setEnts {B : Nat} {w w1 : World} {ov mv : Value} {S : PSt} {bi cap K : Nat} {x : PIn} (h : StOwn B w (.slice (some ⟨bi, 0, none⟩) S.ins.length cap) ov mv S) (hx : S.ins[K]? = some x) {ev : Value} (hev : w.cell? ⟨bi, K * 4 + 2, none⟩ = some ev)
 {ev' : Value} {es' : List PEnt} (he : OwnP B w1 97 2 ev' (es'.map PEnt.cells)) (hk : Keep (fun k => ev.ownBlock = some k) w w1) (hfr : ∀ k, ev'.ownBlock = some k → ev.ownBlock = some k ∨ w.heap.size ≤ k) (hB : B ≤ w.heap.size) :
 StOwn B (w1.setCell ⟨bi, K * 4 + 2, none⟩ ev') (.slice (some ⟨bi, 0, none⟩) S.ins.length cap) ov mv (S.ents K x es') ∧ Below B w (w1.setCell ⟨bi, K * 4 + 2, none⟩ ev') ∧ Keep (InEn w) w (w1.setCell ⟨bi, K * 4 + 2, none⟩ ev') := by
 obtain ⟨h1, h2, is, h3, h4, h5, h6⟩ := h
 obtain ⟨hKl, _⟩ := List.getElem?_eq_some_iff.1 hx
 have hr : is[K]? = some is[K] := List.getElem?_eq_getElem (by omega)
 obtain ⟨a1, a2, a3, a4⟩ := h5 K _ x hr hx
 rcases h3 with ⟨h0, _⟩ | ⟨g, cap', arr, heq, hgB, hgb, hnc, hcm, hsz, hri⟩
 · simp at h0
 simp only [Value.slice.injEq, Option.some.injEq, Addr.mk.injEq] at heq
 obtain ⟨⟨rfl, -, -⟩, hl, rfl⟩ := heq
 have hevr : ev = is[K].ev := by
  have := hri K is[K].cells (by rw [List.getElem?_map, hr]; rfl) 2 _ rfl; rw [hgb.cell, this] at hev; exact (Option.some.inj hev).symm
 have hone := he.one
 have nEv : ∀ k, ev.ownBlock = some k → k ≠ bi := fun k hk => by rw [hevr] at hk; exact a4.ne_blk hgb (by decide) hk
 have nEv' : ∀ k, ev'.ownBlock = some k → k ≠ bi := fun k hk => by
  rcases hfr k hk with h | h
  · exact nEv k h
  · have := hgb.lt.lt; omega
 have hgb1 : Blk w1 bi arr 68 := hk.blk hgb (fun h => nEv bi h rfl)
 have hS : Keep (fun k => k = bi) w1 (w1.setCell ⟨bi, K * 4 + 2, none⟩ ev') := Keep.setCell (S := fun k => k = bi) (p := ⟨bi, K * 4 + 2, none⟩) (Keep.refl _ _) (.inl rfl) _
 have hT : Keep (fun k => ev.ownBlock = some k ∨ k = bi) w (w1.setCell ⟨bi, K * 4 + 2, none⟩ ev') := (hk.mono (fun i _ h => .inl h)).trans (hS.mono (fun i _ h => .inr h)) (fun i _ h => h)
 have far : ∀ {e : TypeId} {k : Nat} {v : Value} {rows : List (List Value)}, OwnP B w e k v rows → (e = 95 ∨ e = 3) → OwnP B (w1.setCell ⟨bi, K * 4 + 2, none⟩ ev') e k v rows := by
  intro e k v rows ho hee; refine ho.keep hT (fun g hg hh => ?_); rcases hh with hh | hh
  · rw [hevr] at hh; rcases a4 with ⟨h0, _⟩ | ⟨g', _, c', h0, _, hb', _⟩
    · rw [h0] at hh; simp [Value.ownBlock] at hh
    · rw [h0] at hh; simp [Value.ownBlock] at hh; subst hh; exact ho.ne_blk hb' (by rcases hee with rfl | rfl <;> decide) hg rfl
  · exact ho.ne_blk hgb (by rcases hee with rfl | rfl <;> decide) hg hh
 have hil : K < is.length := by omega
 have hmset : (is.map IRec.cells).set K (is[K].cells.set 2 ev') = (is.set K ⟨is[K].num, is[K].dir, ev', is[K].data, hone⟩).map IRec.cells := by
  rw [List.map_set]; rfl
 have hKs : K * 4 + 2 < arr.size := by
  rw [List.length_map] at hnc; omega
 refine ⟨⟨far h1 (.inl rfl), far h2 (.inr rfl), is.set K ⟨is[K].num, is[K].dir, ev', is[K].data, hone⟩, .inr ⟨bi, cap, arr.setIfInBounds (K * 4 + 2) ev', ?_, hgB, hgb1.set_ _ _, ?_, hcm, by rw [Array.size_setIfInBounds]; exact hsz, ?_⟩, ?_, ?_, ?_⟩, hT.below hB ?_, hT.mono ?_⟩
 · rw [List.length_map, List.length_set, h4]
 · rw [List.length_map, List.length_set]; rw [List.length_map] at hnc; exact hnc
 · rw [← hmset]; exact hri.set (irec_len _) (by rw [List.getElem?_map, hr]; rfl) (by decide) hKs _
 · show (is.set K _).length = (S.ins.set K _).length; rw [List.length_set, List.length_set, h4]
 · intro q r x' hq hx'; have hx' : (S.ins.set K { x with ents := es' })[q]? = some x' := hx'; by_cases e : K = q
   · subst e; rw [List.getElem?_set_self hil] at hq; rw [List.getElem?_set_self hKl] at hx'; cases hq; cases hx'; exact ⟨a1, a2, a3, he.keep hS (fun k hk => nEv' k hk)⟩
   · rw [List.getElem?_set_ne e] at hq hx'; obtain ⟨b1, b2, b3, b4⟩ := h5 q r x' hq hx'; refine ⟨b1, b2, b3, b4.keep hT (fun k hk hh => ?_)⟩; rcases hh with hh | hh
     · rw [hevr] at hh; exact h6 K q _ r e hr hq k hh hk
     · exact b4.ne_blk hgb (by decide) hk hh
 · intro p q r r' hpq hp hq k hk; have hold : ∀ (j : Nat) (rb : IRec), is[j]? = some rb → ∀ k, rb.ev.ownBlock = some k → k < w.heap.size := by
    intro j rb hj k hk; obtain ⟨hjl, _⟩ := List.getElem?_eq_some_iff.1 hj; obtain ⟨xb, hxb⟩ : ∃ xb, S.ins[j]? = some xb := ⟨_, List.getElem?_eq_getElem (by omega)⟩
    exact (h5 j rb xb hj hxb).2.2.2.lt hk
   by_cases e : K = p
   · subst e; rw [List.getElem?_set_self hil] at hp; rw [List.getElem?_set_ne hpq] at hq; cases hp; intro h; rcases hfr k hk with h' | h'
     · rw [hevr] at h'; exact h6 K q _ r' hpq hr hq k h' h
     · have := hold q r' hq k h; omega
   · rw [List.getElem?_set_ne e] at hp; by_cases e2 : K = q
     · subst e2; rw [List.getElem?_set_self hil] at hq; cases hq; intro h; rcases hfr k h with h' | h'
       · rw [hevr] at h'; exact h6 K p _ r (fun e => hpq e.symm) hr hp k h' hk
       · have := hold p r hp k hk; omega
     · rw [List.getElem?_set_ne e2] at hq; exact h6 p q r r' hpq hp hq k hk
 · intro i hi hh; rcases hh with hh | hh
   · rw [hevr] at hh; have := a4.ge hh; omega
   · omega
 · intro g _ hh; rcases hh with hh | hh
   · rw [hevr] at hh; rcases a4 with ⟨h0, _⟩ | ⟨g', _, c', h0, _, hb', _⟩
     · rw [h0] at hh; simp [Value.ownBlock] at hh
     · rw [h0] at hh; simp [Value.ownBlock] at hh; subst hh; exact ⟨_, 97, hb', .inr rfl⟩
   · exact ⟨_, 68, by rw [hh]; exact hgb, .inl rfl⟩
theorem pent_one1 (e : PEnt) : ∀ u ∈ e.cells, u.oneCell' = true := fun u h => by
 simp only [PEnt.cells, List.mem_cons, List.not_mem_nil, or_false] at h
 rcases h with rfl | rfl <;> rfl
set_option maxRecDepth 100000 in
set_option maxHeartbeats 2000000 in
theorem put118 (B : Nat) (w : World) (ov mv : Value) (S : PSt) (bi cap K : Nat) (x : PIn) (s : ByteArray) (num : Int) (h : StOwn B w (.slice (some ⟨bi, 0, none⟩) S.ins.length cap) ov mv S) (hx : S.ins[K]? = some x) (hB : B ≤ w.heap.size) (hl : x.ents.length ≤ 100000) :
 Calls Tryz.prog 175 #[.pointer (some ⟨bi, K * 4, none⟩), .string s, .int .i64 num] w fun e w' => e = .returned (.tuple #[]) ∧ Below B w w' ∧ Keep (InEn w) w w' ∧ StOwn B w' (.slice (some ⟨bi, 0, none⟩) S.ins.length cap) ov mv (S.ents K x (insAt x.ents (bsE x.ents s) ⟨s, num⟩)) := by
 have hread := h.read
 obtain ⟨ai, capi, he, hat⟩ := hread.ins_at2
 simp only [Value.slice.injEq] at he
 obtain ⟨rfl, -, rfl⟩ := he
 obtain ⟨bi', off', ev, he, iG, hone, hrow, hcl⟩ := hat K x hx
 simp only [Option.some.injEq, Addr.mk.injEq] at he
 obtain ⟨rfl, rfl, -⟩ := he
 obtain ⟨-, -, -, y2, -⟩ := hcl w (Below.refl _ _)
 rw [Nat.zero_add] at y2
 obtain ⟨hKl, _⟩ := List.getElem?_eq_some_iff.1 hx
 have hfz : w.frozen? ⟨bi, K * 4 + 2, none⟩ = false := by
  obtain ⟨_, _, is, h3, _⟩ := h; rcases h3 with ⟨h0, _⟩ | ⟨g, cap', arr, heq, hgB, hgb, _⟩
  · simp at h0
  · simp only [Value.slice.injEq, Option.some.injEq, Addr.mk.injEq] at heq; obtain ⟨⟨rfl, -, -⟩, -, -⟩ := heq; exact hgb.frozen _
 have hown : OwnP B w 97 2 ev (x.ents.map PEnt.cells) := by
  obtain ⟨_, _, is, h3, h4, h5, _⟩ := h; have hr : is[K]? = some is[K] := List.getElem?_eq_getElem (by omega); rcases h3 with ⟨h0, _⟩ | ⟨g, cap', arr, heq, hgB, hgb, _, _, _, hri⟩
  · simp at h0
  · simp only [Value.slice.injEq, Option.some.injEq, Addr.mk.injEq] at heq; obtain ⟨⟨rfl, -, -⟩, -, -⟩ := heq; have := hri K is[K].cells (by rw [List.getElem?_map, hr]; rfl) 2 _ rfl; rw [hgb.cell, this] at y2; have e : is[K].ev = ev := Option.some.inj y2; rw [← e]; exact (h5 K _ x hr hx).2.2.2
 have hblk : ∃ arr, Blk w bi arr 68 ∧ K * 4 + 2 < arr.size := by
  obtain ⟨_, _, is, h3, h4, h5, _⟩ := h; rcases h3 with ⟨h0, _⟩ | ⟨g, cap', arr, heq, hgB, hgb, hnc, _, hsz, hri⟩
  · simp at h0
  · simp only [Value.slice.injEq, Option.some.injEq, Addr.mk.injEq] at heq; obtain ⟨⟨rfl, -, -⟩, -, -⟩ := heq; rw [List.length_map] at hnc; exact ⟨arr, hgb, by omega⟩
 obtain ⟨arr, hgb, has⟩ := hblk
 have HB := Lib.hid hgb
 have nEv : ∀ k, ev.ownBlock = some k → k ≠ bi := fun k hk => hown.ne_blk hgb (by decide) hk
 have HN := Lib.hid nEv
 clear hgb nEv
 have hent : ∀ ww, Below w.heap.size w ww → Calls Tryz.prog 171 #[ev, .string s] ww _ := fun ww hb => entry114 x.ents ev s ww (hrow.below hb (Nat.le_refl _)) (by omega)
 have hins : ∀ ww gv, Below w.heap.size w ww → w.heap.size ≤ gv → Blk ww gv #[.string s, .int .i64 num] 97 → Calls Tryz.prog 202 #[ev, .int .i64 (bsE x.ents s), .slice (some ⟨gv, 0, none⟩) 1 1] ww _ := fun ww gv hb hg hgv =>
  insert155 B ev (x.ents.map PEnt.cells) (bsE x.ents s) gv (PEnt.cells ⟨s, num⟩) ww (hown.keep (Keep.of_below hb (fun _ => False)) (fun _ _ h => h)) (pent_len _) (pent_one _) (by rw [List.length_map]; exact bsE_le _ _) (by rw [List.length_map]; omega) hgv rfl (pent_one1 _) (fun e => by have := hown.lt e; omega) (Nat.le_trans hB hb.size)
 have hbl := bsE_le x.ents s
 have HH := Lib.hid (And.intro h (And.intro hown hx))
 obtain ⟨ea, en, ec, rfl⟩ := hown.form
 generalize bsE x.ents s = bs at hent hins hbl ⊢
 generalize hitE x.ents s = hh at hent
 clear h hread hat hcl hrow hown hx
 go_enter Tryz.func175, Tryz.ntmps175
 go_wp2_with (first | (go_at_call 171; refine (hent _ (bel _ _)).mono ?_; rintro e w' ⟨rfl, hb⟩; obtain ⟨p, rfl⟩ := hb.rest; clear hb) | (go_at_call 202; refine (hins _ _ (bel _ _) (by simp) (by repeat (first | exact Blk.new_i _ _ _ _ | refine Blk.alloc ?_ _))).mono ?_; rintro e w2 ⟨v', rfl, ho2, hk2, hf2⟩; have hb2 := hk2.blk (b := bi) (c := arr) (t := 68) (by repeat (first | exact HB.out | refine Blk.alloc ?_ _ | refine Blk.junk ?_ _)) (fun h => HN.out _ h rfl); have hk3 := (Keep.of_below (bel w _) (fun k => (Value.slice ea en ec).ownBlock = some k)).trans hk2 (fun _ _ h => h); have hf3 : ∀ k, v'.ownBlock = some k → (Value.slice ea en ec).ownBlock = some k ∨ w.heap.size ≤ k := fun k hk => (hf2 k hk).imp id (fun h => Nat.le_trans (bel w _).size h); obtain ⟨va, vn, vc, rfl⟩ := ho2.form; have iB2 := hb2.lt; have f2 := hb2.frozen (K * 4 + 2); obtain ⟨u2, c2⟩ : ∃ u2, w2.cell? ⟨bi, K * 4 + 2, none⟩ = some u2 := ⟨arr[K * 4 + 2], by rw [hb2.cell]; exact Array.getElem?_eq_getElem has⟩; have H2 := Lib.hid (And.intro ho2 (And.intro hk3 hf3)); clear ho2 hk2 hf2 hb2 hk3 hf3))
 refine bodyPost_end (v := .tuple #[]) (by simp [results, go_sem]) rfl ?_
 obtain ⟨r1, r2, r3⟩ := HH.out.1.setEnts HH.out.2.2 y2 (es' := insAt x.ents bs ⟨s, num⟩) (by rw [insAt_map]; exact H2.out.1) H2.out.2.1 H2.out.2.2 hB
 exact ⟨rfl, r2, r3, r1⟩
end Go.Proofs.YtmkapobnfigedaaGreatDoor
