/- Part of the proof that the named pairs of calls commute. Conditions: none. -/
import Derived.Test.YtjkenolgkkknaaaGreatDoorPp17
import Derived.Test.YtjkenolgkkknaaaGreatDoorPp15
set_option linter.unusedVariables false
set_option linter.unusedSimpArgs false
set_option maxRecDepth 100000
set_option maxHeartbeats 8000000
namespace Go.Proofs.YtjkenolgkkknaaaGreatDoor
open Go.RowKit
def insAt {α : Type} (l : List α) (i : Nat) (x : α) : List α := l.take i ++ x :: l.drop i
theorem insAt_map {α β : Type} (f : α → β) (l : List α) (i : Nat) (x : α) : (insAt l i x).map f = (l.map f).take i ++ f x :: (l.map f).drop i := by simp [insAt, List.map_take, List.map_drop]
theorem bsFrom_le (f : Nat → Int) : ∀ (b lo hi : Nat), lo ≤ hi → bsFrom f b lo hi ≤ hi
 | 0, lo, hi, h => h
 | b + 1, lo, hi, h => by
   unfold bsFrom
   split
   · split
     · exact bsFrom_le f b _ _ (by omega)
     · have := bsFrom_le f b lo ((lo + hi) / 2) (by omega); omega
   · exact h
theorem bsE_le (es : List PEnt) (s : ByteArray) : bsE es s ≤ es.length := bsFrom_le _ _ _ _ (Nat.zero_le _)
def PSt.ents (S : PSt) (K : Nat) (x : PIn) (es : List PEnt) : PSt := { S with ins := S.ins.set K { x with ents := es } }
def InEn (w : World) (g : Nat) : Prop := ∃ c t, Blk w g c t ∧ (t = 65 ∨ t = 99)
theorem StOwn.setEnts {B : Nat} {w w1 : World} {ov mv : Value} {S : PSt} {bi cap K : Nat} {x : PIn} (h : StOwn B w (.slice (some ⟨bi, 0, none⟩) S.ins.length cap) ov mv S) (hx : S.ins[K]? = some x) {ev : Value} (hev : w.cell? ⟨bi, K * 4 + 2, none⟩ = some ev)
 {ev' : Value} {es' : List PEnt} (he : OwnP B w1 99 2 ev' (es'.map PEnt.cells)) (hk : Keep (fun k => ev.ownBlock = some k) w w1) (hfr : ∀ k, ev'.ownBlock = some k → ev.ownBlock = some k ∨ w.heap.size ≤ k) (hB : B ≤ w.heap.size) :
 StOwn B (w1.setCell ⟨bi, K * 4 + 2, none⟩ ev') (.slice (some ⟨bi, 0, none⟩) S.ins.length cap) ov mv (S.ents K x es') ∧ Below B w (w1.setCell ⟨bi, K * 4 + 2, none⟩ ev') ∧ Keep (InEn w) w (w1.setCell ⟨bi, K * 4 + 2, none⟩ ev') := by
 obtain ⟨h1, h2, is, h3, h4, h5, h6⟩ := h
 obtain ⟨hKl, _⟩ := gI.1 hx
 have hr : is[K]? = some is[K] := gE (by omega)
 obtain ⟨a1, a2, a3, a4⟩ := h5 K _ x hr hx
 rcases h3 with ⟨h0, _⟩ | ⟨g, cap', arr, heq, hgB, hgb, hnc, hcm, hsz, hri⟩
 · simp at h0
 simp only [Value.slice.injEq, Option.some.injEq, Addr.mk.injEq] at heq
 obtain ⟨⟨rfl, -, -⟩, hl, rfl⟩ := heq
 have hevr : ev = is[K].ev := by
  have := hri K is[K].cells (by rw [gM, hr]; rfl) 2 _ rfl; rw [hgb.cell, this] at hev; exact (Option.some.inj hev).symm
 have hone := he.one
 have nEv : ∀ k, ev.ownBlock = some k → k ≠ bi := fun k hk => by rw [hevr] at hk; exact a4.ne_blk hgb (by decide) hk
 have nEv' : ∀ k, ev'.ownBlock = some k → k ≠ bi := fun k hk => by
  rcases hfr k hk with h | h
  · exact nEv k h
  · have := hgb.lt.lt; omega
 have hgb1 : Blk w1 bi arr 65 := hk.blk hgb (fun h => nEv bi h rfl)
 have hS : Keep (fun k => k = bi) w1 (w1.setCell ⟨bi, K * 4 + 2, none⟩ ev') := Keep.setCell (S := fun k => k = bi) (p := ⟨bi, K * 4 + 2, none⟩) (Keep.refl _ _) (.inl rfl) _
 have hT : Keep (fun k => ev.ownBlock = some k ∨ k = bi) w (w1.setCell ⟨bi, K * 4 + 2, none⟩ ev') := (hk.mono (fun i _ h => .inl h)).trans (hS.mono (fun i _ h => .inr h)) (fun i _ h => h)
 have far : ∀ {e : TypeId} {k : Nat} {v : Value} {rows : List (List Value)}, OwnP B w e k v rows → (e = 88 ∨ e = 3) → OwnP B (w1.setCell ⟨bi, K * 4 + 2, none⟩ ev') e k v rows := by
  intro e k v rows ho hee; refine ho.keep hT (fun g hg hh => ?_); rcases hh with hh | hh
  · rw [hevr] at hh; rcases a4 with ⟨h0, _⟩ | ⟨g', _, c', h0, _, hb', _⟩
    · rw [h0] at hh; simp [Value.ownBlock] at hh
    · rw [h0] at hh; simp [Value.ownBlock] at hh; subst hh; exact ho.ne_blk hb' (by rcases hee with rfl | rfl <;> decide) hg rfl
  · exact ho.ne_blk hgb (by rcases hee with rfl | rfl <;> decide) hg hh
 have hil : K < is.length := by omega
 have hmset : (is.map IRec.cells).set K (is[K].cells.set 2 ev') = (is.set K ⟨is[K].num, is[K].dir, ev', is[K].data, hone⟩).map IRec.cells := by
  rw [List.map_set]; rfl
 have hKs : K * 4 + 2 < arr.size := by
  rw [lM] at hnc; omega
 refine ⟨⟨far h1 (.inl rfl), far h2 (.inr rfl), is.set K ⟨is[K].num, is[K].dir, ev', is[K].data, hone⟩, .inr ⟨bi, cap, arr.setIfInBounds (K * 4 + 2) ev', ?_, hgB, hgb1.set_ _ _, ?_, hcm, by rw [Array.size_setIfInBounds]; exact hsz, ?_⟩, ?_, ?_, ?_⟩, hT.below hB ?_, hT.mono ?_⟩
 · rw [lM, List.length_set, h4]
 · rw [lM, List.length_set]; rw [lM] at hnc; exact hnc
 · rw [← hmset]; exact hri.set (irec_len _) (by rw [gM, hr]; rfl) (by decide) hKs _
 · show (is.set K _).length = (S.ins.set K _).length; rw [List.length_set, List.length_set, h4]
 · intro q r x' hq hx'; have hx' : (S.ins.set K { x with ents := es' })[q]? = some x' := hx'; by_cases e : K = q
   · subst e; rw [List.getElem?_set_self hil] at hq; rw [List.getElem?_set_self hKl] at hx'; cases hq; cases hx'; exact ⟨a1, a2, a3, he.keep hS (fun k hk => nEv' k hk)⟩
   · rw [List.getElem?_set_ne e] at hq hx'; obtain ⟨b1, b2, b3, b4⟩ := h5 q r x' hq hx'; refine ⟨b1, b2, b3, b4.keep hT (fun k hk hh => ?_)⟩; rcases hh with hh | hh
     · rw [hevr] at hh; exact h6 K q _ r e hr hq k hh hk
     · exact b4.ne_blk hgb (by decide) hk hh
 · intro p q r r' hpq hp hq k hk; have hold : ∀ (j : Nat) (rb : IRec), is[j]? = some rb → ∀ k, rb.ev.ownBlock = some k → k < w.heap.size := by
    intro j rb hj k hk; obtain ⟨hjl, _⟩ := gI.1 hj; obtain ⟨xb, hxb⟩ : ∃ xb, S.ins[j]? = some xb := ⟨_, gE (by omega)⟩
    exact (h5 j rb xb hj hxb).2.2.2.lt hk
   by_cases e : K = p
   · subst e; rw [List.getElem?_set_self hil] at hp; rw [List.getElem?_set_ne hpq] at hq; cases hp; intro h; rcases hfr k hk with h' | h'
     · rw [hevr] at h'; exact h6 K q _ r' hpq hr hq k h' h
     · have := hold q r' hq k h; omega
   · rw [List.getElem?_set_ne e] at hp; by_cases e2 : K = q
     · subst e2; rw [List.getElem?_set_self hil] at hq; cases hq; intro h; rcases hfr k h with h' | h'
       · rw [hevr] at h'; exact h6 K p _ r (fun e => hpq e.symm) hr hp k h' hk
       · have := hold p r hp k hk; omega
     · rw [List.getElem?_set_ne e2] at hq; exact h6 p q r r' hpq hp hq k hk
 · intro i hi hh; rcases hh with hh | hh
   · rw [hevr] at hh; have := a4.ge hh; omega
   · omega
 · intro g _ hh; rcases hh with hh | hh
   · rw [hevr] at hh; rcases a4 with ⟨h0, _⟩ | ⟨g', _, c', h0, _, hb', _⟩
     · rw [h0] at hh; simp [Value.ownBlock] at hh
     · rw [h0] at hh; simp [Value.ownBlock] at hh; subst hh; exact ⟨_, 99, hb', .inr rfl⟩
   · exact ⟨_, 65, by rw [hh]; exact hgb, .inl rfl⟩
theorem pent_one1 (e : PEnt) : ∀ u ∈ e.cells, u.oneCell' = true := fun u h => by
 simp only [PEnt.cells, List.mem_cons, List.not_mem_nil, or_false] at h
 rcases h with rfl | rfl <;> rfl
theorem put118 (B : Nat) (w : World) (ov mv : Value) (S : PSt) (bi cap K : Nat) (x : PIn) (s : ByteArray) (num : Int) (h : StOwn B w (.slice (some ⟨bi, 0, none⟩) S.ins.length cap) ov mv S) (hx : S.ins[K]? = some x) (hB : B ≤ w.heap.size) (hl : x.ents.length ≤ 100000) :
 Calls Tryz.prog 118 #[.pointer (some ⟨bi, K * 4, none⟩), .string s, .int .i64 num] w fun e w' => e = .returned (.tuple #[]) ∧ Below B w w' ∧ Keep (InEn w) w w' ∧ StOwn B w' (.slice (some ⟨bi, 0, none⟩) S.ins.length cap) ov mv (S.ents K x (insAt x.ents (bsE x.ents s) ⟨s, num⟩)) := by
 have hread := h.read
 obtain ⟨ai, capi, he, hat⟩ := hread.ins_at2
 simp only [Value.slice.injEq] at he
 obtain ⟨rfl, -, rfl⟩ := he
 obtain ⟨bi', off', ev, he, iG, hone, hrow, hcl⟩ := hat K x hx
 simp only [Option.some.injEq, Addr.mk.injEq] at he
 obtain ⟨rfl, rfl, -⟩ := he
 obtain ⟨-, -, -, y2, -⟩ := hcl w (Below.refl _ _)
 rw [Nat.zero_add] at y2
 obtain ⟨hKl, _⟩ := gI.1 hx
 have hfz : w.frozen? ⟨bi, K * 4 + 2, none⟩ = false := by
  obtain ⟨_, _, is, h3, _⟩ := h; rcases h3 with ⟨h0, _⟩ | ⟨g, cap', arr, heq, hgB, hgb, _⟩
  · simp at h0
  · simp only [Value.slice.injEq, Option.some.injEq, Addr.mk.injEq] at heq; obtain ⟨⟨rfl, -, -⟩, -, -⟩ := heq; exact hgb.frozen _
 have hown : OwnP B w 99 2 ev (x.ents.map PEnt.cells) := by
  obtain ⟨_, _, is, h3, h4, h5, _⟩ := h; have hr : is[K]? = some is[K] := gE (by omega); rcases h3 with ⟨h0, _⟩ | ⟨g, cap', arr, heq, hgB, hgb, _, _, _, hri⟩
  · simp at h0
  · simp only [Value.slice.injEq, Option.some.injEq, Addr.mk.injEq] at heq; obtain ⟨⟨rfl, -, -⟩, -, -⟩ := heq; have := hri K is[K].cells (by rw [gM, hr]; rfl) 2 _ rfl; rw [hgb.cell, this] at y2; have e : is[K].ev = ev := Option.some.inj y2; rw [← e]; exact (h5 K _ x hr hx).2.2.2
 have hblk : ∃ arr, Blk w bi arr 65 ∧ K * 4 + 2 < arr.size := by
  obtain ⟨_, _, is, h3, h4, h5, _⟩ := h; rcases h3 with ⟨h0, _⟩ | ⟨g, cap', arr, heq, hgB, hgb, hnc, _, hsz, hri⟩
  · simp at h0
  · simp only [Value.slice.injEq, Option.some.injEq, Addr.mk.injEq] at heq; obtain ⟨⟨rfl, -, -⟩, -, -⟩ := heq; rw [lM] at hnc; exact ⟨arr, hgb, by omega⟩
 obtain ⟨arr, hgb, has⟩ := hblk
 have HB := Lib.hid hgb
 have nEv : ∀ k, ev.ownBlock = some k → k ≠ bi := fun k hk => hown.ne_blk hgb (by decide) hk
 have HN := Lib.hid nEv
 clear hgb nEv
 have hent : ∀ ww, Below w.heap.size w ww → Calls Tryz.prog 114 #[ev, .string s] ww _ := fun ww hb => entry114 x.ents ev s ww (hrow.below hb (Nat.le_refl _)) (by omega)
 have hins : ∀ ww gv, Below w.heap.size w ww → w.heap.size ≤ gv → Blk ww gv #[.string s, .int .i64 num] 99 → Calls Tryz.prog 155 #[ev, .int .i64 (bsE x.ents s), .slice (some ⟨gv, 0, none⟩) 1 1] ww _ := fun ww gv hb hg hgv =>
  insert155 B ev (x.ents.map PEnt.cells) (bsE x.ents s) gv (PEnt.cells ⟨s, num⟩) ww (hown.keep (Keep.of_below hb (fun _ => False)) (fun _ _ h => h)) (pent_len _) (pent_one _) (by rw [lM]; exact bsE_le _ _) (by rw [lM]; omega) hgv rfl (pent_one1 _) (fun e => by have := hown.lt e; omega) (Nat.le_trans hB hb.size)
 have hbl := bsE_le x.ents s
 have HH := Lib.hid (And.intro h (And.intro hown hx))
 obtain ⟨ea, en, ec, rfl⟩ := hown.form
 generalize bsE x.ents s = bs at hent hins hbl ⊢
 generalize hitE x.ents s = hh at hent
 clear h hread hat hcl hrow hown hx
 go_enter Tryz.func118, Tryz.ntmps118
 go_wp2_with (first | (go_at_call 114; refine aT (hent _ (bel _ _)) fun p => ?_) | (go_at_call 155; refine (hins _ _ (bel _ _) (by simp) (by repeat (first | exact Blk.new_i _ _ _ _ | refine Blk.alloc ?_ _))).mono ?_; rintro e w2 ⟨v', rfl, ho2, hk2, hf2⟩; have hb2 := hk2.blk (b := bi) (c := arr) (t := 65) (by repeat (first | exact HB.out | refine Blk.alloc ?_ _ | refine Blk.junk ?_ _)) (fun h => HN.out _ h rfl); have hk3 := (Keep.of_below (bel w _) (fun k => (Value.slice ea en ec).ownBlock = some k)).trans hk2 (fun _ _ h => h); have hf3 : ∀ k, v'.ownBlock = some k → (Value.slice ea en ec).ownBlock = some k ∨ w.heap.size ≤ k := fun k hk => (hf2 k hk).imp id (fun h => Nat.le_trans (bel w _).size h); obtain ⟨va, vn, vc, rfl⟩ := ho2.form; have iB2 := hb2.lt; have f2 := hb2.frozen (K * 4 + 2); obtain ⟨u2, c2⟩ : ∃ u2, w2.cell? ⟨bi, K * 4 + 2, none⟩ = some u2 := ⟨arr[K * 4 + 2], by rw [hb2.cell]; exact Array.getElem?_eq_getElem has⟩; have H2 := Lib.hid (And.intro ho2 (And.intro hk3 hf3)); clear ho2 hk2 hf2 hb2 hk3 hf3))
 refine bodyPost_end (v := .tuple #[]) (by simp [results, go_sem]) rfl ?_
 obtain ⟨r1, r2, r3⟩ := HH.out.1.setEnts HH.out.2.2 y2 (es' := insAt x.ents bs ⟨s, num⟩) (by rw [insAt_map]; exact H2.out.1) H2.out.2.1 H2.out.2.2 hB
 exact ⟨rfl, r2, r3, r1⟩
theorem insAt_get {α : Type} (l : List α) (i : Nat) (x : α) (hi : i ≤ l.length) (q : Nat) : (insAt l i x)[q]? = if q < i then l[q]? else if q = i then some x else l[q - 1]? := by
 unfold insAt
 have htl : (l.take i).length = i := by rw [List.length_take]; omega
 by_cases h1 : q < i
 · rw [if_pos h1, List.getElem?_append_left (by omega), List.getElem?_take, if_pos h1]
 · rw [if_neg h1, List.getElem?_append_right (by omega), htl]; by_cases h2 : q = i
   · rw [if_pos h2, h2, Nat.sub_self]; rfl
   · rw [if_neg h2, show q - i = (q - i - 1) + 1 by omega, List.getElem?_cons_succ, List.getElem?_drop]
     congr 1
     omega
theorem insAt_len {α : Type} (l : List α) (i : Nat) (x : α) (hi : i ≤ l.length) : (insAt l i x).length = l.length + 1 := by
 unfold insAt
 rw [lP, List.length_take, List.length_cons, List.length_drop]
 omega
theorem RowsIn.set1 {arr : Array Value} {xs : List Int} (h : RowsIn arr 1 (xs.map intCells)) {k : Nat} (hk : k < xs.length) (hs : k < arr.size) (v : Int) : RowsIn (arr.setIfInBounds k (.int .i64 v)) 1 ((xs.set k v).map intCells) := by
 have := h.set (int_len xs) (q := k) (t := 0) (cs := intCells xs[k]) (by rw [gM, gE hk]; rfl) (by decide) (by omega) (.int .i64 v)
 rw [Nat.mul_one, Nat.add_zero] at this
 rw [List.map_set]
 exact this
theorem StOwn.setMade {B : Nat} {w : World} {iv ov : Value} {S : PSt} {gm cap : Nat} (h : StOwn B w iv ov (.slice (some ⟨gm, 0, none⟩) S.made.length cap) S) {k : Nat} (hk : k < S.made.length) (v : Int) :
 StOwn B (w.setCell ⟨gm, k, none⟩ (.int .i64 v)) iv ov (.slice (some ⟨gm, 0, none⟩) S.made.length cap) { S with made := S.made.set k v } ∧ B ≤ gm ∧ ∃ c, Blk w gm c 3 := by
 obtain ⟨h1, h2, is, h3, h4, h5, h6⟩ := h
 rcases h2 with ⟨h0, _⟩ | ⟨g, cap', arr, heq, hgB, hgb, hnc, hcm, hsz, hri⟩
 · simp at h0
 simp only [Value.slice.injEq, Option.some.injEq, Addr.mk.injEq] at heq
 obtain ⟨⟨rfl, -, -⟩, -, rfl⟩ := heq
 have hK : Keep (fun x => x = gm) w (w.setCell ⟨gm, k, none⟩ (.int .i64 v)) := Keep.setCell (S := fun x => x = gm) (p := ⟨gm, k, none⟩) (Keep.refl _ _) (.inl rfl) _
 have key : ∀ {e : TypeId} {n : Nat} {u : Value} {rows : List (List Value)}, OwnP B w e n u rows → e ≠ 3 → OwnP B (w.setCell ⟨gm, k, none⟩ (.int .i64 v)) e n u rows := by
  intro e n u rows ho he; exact ho.keep hK (fun g hg hx => ho.ne_blk hgb he hg hx)
 rw [lM] at hnc
 refine ⟨⟨key h1 (by decide), .inr ⟨gm, cap, arr.setIfInBounds k (.int .i64 v), ?_, hgB, hgb.set_ _ _, ?_, hcm, by rw [Array.size_setIfInBounds]; exact hsz, hri.set1 hk (by omega) v⟩, is, key h3 (by decide), h4, fun q r x hr hx => ?_, h6⟩, hgB, _, hgb⟩
 · show Value.slice (some ⟨gm, 0, none⟩) S.made.length cap = .slice (some ⟨gm, 0, none⟩) ((S.made.set k v).map intCells).length cap; rw [lM, List.length_set]
 · show ((S.made.set k v).map intCells).length ≤ cap; rw [lM, List.length_set]; exact hnc
 · obtain ⟨a1, a2, a3, a4⟩ := h5 q r x hr hx; exact ⟨a1, a2, a3, key a4 (by decide)⟩
theorem bsND_le (ns : List Int) (n : Int) : bsND ns n ≤ ns.length := bsFrom_le _ _ _ _ (Nat.zero_le _)
theorem nums_ents (S : PSt) (K : Nat) (x : PIn) (es : List PEnt) (hx : S.ins[K]? = some x) : (S.ents K x es).nums = S.nums := by
 unfold PSt.nums PSt.ents
 apply List.ext_getElem?
 intro q
 rw [gM, gM]
 by_cases e : K = q
 · subst e; obtain ⟨hl, _⟩ := gI.1 hx; rw [List.getElem?_set_self hl, hx]; rfl
 · rw [List.getElem?_set_ne e]
def madeSt (S : PSt) (c : PCall) (K : Nat) (x : PIn) (l : ByteArray) (m : Int) : PSt :=
 { ins := insAt (S.ents K x (insAt x.ents (bsE x.ents l) ⟨l, 2 + c.core + 8 * m⟩)).ins (bsND S.nums (2 + c.core + 8 * m)) ⟨2 + c.core + 8 * m, c.kind == 1, [], { data := #[] }⟩, op := S.op, made := S.made.set c.core.toNat (m + 1) }
def createM (S : PSt) (c : PCall) (r : PRes) : Except Int (PSt × PRes) :=
 match parentM S (parseM c.path).2 with
 | .error k => .error k
 | .ok (K, l) => match S.ins[K]? with
   | none => .error 0
   | some x => if hitE x.ents l = true then .error 2 else match S.made[c.core.toNat]? with
     | none => .error 0
     | some m => if (fullM x.ents l { data := #[] } || decide (32 ≤ m)) = true then .error 5 else .ok (madeSt S c K x l m, r)
structure Small (S : PSt) : Prop where
 ins : S.ins.length ≤ 257
 ents : ∀ x ∈ S.ins, x.ents.length ≤ 100000
 made : S.made.length ≤ 8
 each : ∀ m ∈ S.made, 0 ≤ m ∧ m ≤ 32
structure Opened (B : Nat) (w : World) (d b bi gm : Nat) (capi capm : Nat) (ov nv : Value) (S : PSt) (c : PCall) (r : PRes) : Prop where
 hBb : B ≤ b
 hBd : B ≤ d
 hD : Blk w d (doCells b c r nv) 82
 hb : Blk w b #[.slice (some ⟨bi, 0, none⟩) S.ins.length capi, ov, .slice (some ⟨gm, 0, none⟩) S.made.length capm] 27
 st : StOwn B w (.slice (some ⟨bi, 0, none⟩) S.ins.length capi) ov (.slice (some ⟨gm, 0, none⟩) S.made.length capm) S
 nm : OwnP B w 9 1 nv (r.names.map strCells)
theorem DoAt.open_ {B : Nat} {w : World} {d b : Nat} {S : PSt} {c : PCall} {r : PRes} (h : DoAt B w d b S c r) (h1 : 0 < S.ins.length) (h2 : 0 < S.made.length) : ∃ bi gm capi capm ov nv, Opened B w d b bi gm capi capm ov nv S c r := by
 obtain ⟨iv, ov, mv, nv, hBb, hBd, hD, hbk, hst, hnv⟩ := h
 have hst' := hst
 obtain ⟨o1, o2, is, o3, o4, _⟩ := hst'
 obtain ⟨gm, capm, rfl, _⟩ := o2.some_ (by rw [lM]; exact h2)
 obtain ⟨bi, capi, rfl, _⟩ := o3.some_ (by rw [lM, o4]; exact h1)
 rw [lM] at hbk hst
 rw [lM, o4] at hbk hst
 exact ⟨bi, gm, capi, capm, ov, nv, hBb, hBd, hD, hbk, hst, hnv⟩
theorem Opened.below {B : Nat} {w w' : World} {d b bi gm capi capm : Nat} {ov nv : Value} {S : PSt} {c : PCall} {r : PRes} (h : Opened B w d b bi gm capi capm ov nv S c r) (hb : Below w.heap.size w w') : Opened B w' d b bi gm capi capm ov nv S c r := by
 have hk : Keep (fun _ => False) w w' := Keep.of_below hb _
 exact ⟨h.hBb, h.hBd, hk.blk h.hD id, hk.blk h.hb id, h.st.keep hk (fun _ h => h.elim), h.nm.keep hk (fun _ _ h => h)⟩
theorem Opened.at_ {B : Nat} {w : World} {d b bi gm capi capm : Nat} {ov nv : Value} {S : PSt} {c : PCall} {r : PRes} (h : Opened B w d b bi gm capi capm ov nv S c r) : DoAt B w d b S c r :=
 ⟨_, _, _, _, h.hBb, h.hBd, h.hD, h.hb, h.st, h.nm⟩
structure Reads (w : World) (d b bi gm : Nat) (capi capm : Nat) (S : PSt) (c : PCall) : Prop where
 d0 : w.cell? ⟨d, 0, none⟩ = some (.pointer (some ⟨b, 0, none⟩))
 d1 : w.cell? ⟨d, 1, none⟩ = some (.int .i64 c.kind)
 d2 : w.cell? ⟨d, 2, none⟩ = some (.int .i64 c.core)
 d6 : w.cell? ⟨d, 6, none⟩ = some (.string c.path)
 b0 : w.cell? ⟨b, 0, none⟩ = some (.slice (some ⟨bi, 0, none⟩) S.ins.length capi)
 b2 : w.cell? ⟨b, 2, none⟩ = some (.slice (some ⟨gm, 0, none⟩) S.made.length capm)
 fb0 : w.frozen? ⟨b, 0, none⟩ = false
 iD : BlockLt d w
 iB : BlockLt b w
theorem Opened.reads {B : Nat} {w : World} {d b bi gm capi capm : Nat} {ov nv : Value} {S : PSt} {c : PCall} {r : PRes} (h : Opened B w d b bi gm capi capm ov nv S c r) : Reads w d b bi gm capi capm S c :=
 ⟨h.hD.cell 0, h.hD.cell 1, h.hD.cell 2, h.hD.cell 6, h.hb.cell 0, h.hb.cell 2, h.hb.frozen 0, h.hD.lt, h.hb.lt⟩
theorem Opened.made_at {B : Nat} {w : World} {d b bi gm capi capm : Nat} {ov nv : Value} {S : PSt} {c : PCall} {r : PRes} (h : Opened B w d b bi gm capi capm ov nv S c r) {k : Nat} {m : Int} (hm : S.made[k]? = some m) :
 BlockLt gm w ∧ w.cell? ⟨gm, k, none⟩ = some (.int .i64 m) ∧ w.frozen? ⟨gm, k, none⟩ = false := by
 obtain ⟨_, h2, _⟩ := h.st
 rcases h2 with ⟨h0, _⟩ | ⟨g, cap', arr, heq, hgB, hgb, hnc, hcm, hsz, hri⟩
 · simp at h0
 simp only [Value.slice.injEq, Option.some.injEq, Addr.mk.injEq] at heq
 obtain ⟨⟨rfl, -, -⟩, -, rfl⟩ := heq
 refine ⟨hgb.lt, ?_, hgb.frozen _⟩
 have := hri k (intCells m) (by rw [gM, hm]; rfl) 0 _ rfl
 rw [Nat.mul_one, Nat.add_zero] at this
 rw [hgb.cell]
 exact this
theorem Opened.ino_at {B : Nat} {w : World} {d b bi gm capi capm : Nat} {ov nv : Value} {S : PSt} {c : PCall} {r : PRes} (h : Opened B w d b bi gm capi capm ov nv S c r) {K : Nat} {x : PIn} (hx : S.ins[K]? = some x) :
 BlockLt bi w ∧ ∃ ev, w.cell? ⟨bi, K * 4 + 2, none⟩ = some ev ∧ RowAt w 2 ev (x.ents.map PEnt.cells) := by
 obtain ⟨ai, capi', he, hat⟩ := h.st.read.ins_at2
 simp only [Value.slice.injEq] at he
 obtain ⟨rfl, -, rfl⟩ := he
 obtain ⟨bi', off', ev, he, iG, hone, hrow, hcl⟩ := hat K x hx
 simp only [Option.some.injEq, Addr.mk.injEq] at he
 obtain ⟨rfl, rfl, -⟩ := he
 obtain ⟨i1, -, -, y2, -⟩ := hcl w (Below.refl _ _)
 rw [Nat.zero_add] at y2
 exact ⟨i1, ev, y2, hrow⟩
theorem not_inEn {w : World} {g : Nat} {c : Array Value} {t : TypeId} (h : Blk w g c t) (h1 : t ≠ 65) (h2 : t ≠ 99) : ¬ InEn w g := by
 rintro ⟨c', t', hb, ht⟩
 rcases ht with rfl | rfl
 · exact h.ne_ hb h1 rfl
 · exact h.ne_ hb h2 rfl
theorem own_not_inEn {B : Nat} {w : World} {e : TypeId} {k : Nat} {v : Value} {rows : List (List Value)} (h : OwnP B w e k v rows) (h1 : e ≠ 65) (h2 : e ≠ 99) : ∀ g, v.ownBlock = some g → ¬ InEn w g := by
 intro g hg hi
 obtain ⟨c', t', hb, ht⟩ := hi
 rcases ht with rfl | rfl
 · exact h.ne_blk hb h1 hg rfl
 · exact h.ne_blk hb h2 hg rfl
theorem parent_ok {S : PSt} {ns : List ByteArray} {K : Nat} {l : ByteArray} (h : parentM S ns = .ok (K, l)) : ∃ x, S.ins[K]? = some x ∧ x.dir = true := by
 unfold parentM at h
 split at h
 · cases h
 split at h
 · cases h
 split at h
 · rename_i x hx
   split at h
   · rename_i hd
     cases h; exact ⟨x, hx, hd⟩
   · cases h
 · cases h
structure At1 (B : Nat) (w w1 : World) (d b bi gm capi capm : Nat) (ov nv : Value) (S : PSt) (c : PCall) (r : PRes) (K k : Nat) (x : PIn) (m : Int) (l : ByteArray) (ea : Option Addr) (ec : Nat) : Prop where
 below : Below w.heap.size w w1
 o : Opened B w1 d b bi gm capi capm ov nv S c r
 ent : ∀ ww, Below w1.heap.size w1 ww → Calls Tryz.prog 114 #[.slice ea x.ents.length ec, .string l] ww fun e w' => e = .returned (.tuple #[.int .i64 (bsE x.ents l), .bool (hitE x.ents l)]) ∧ Below ww.heap.size ww w'
 ful : ∀ ww, Below w1.heap.size w1 ww → Calls Tryz.prog 116 #[.pointer (some ⟨bi, K * 4, none⟩), .string l, .string { data := #[] }] ww fun e w' => e = .returned (.bool (fullM x.ents l { data := #[] })) ∧ Below ww.heap.size ww w'
 iBi : BlockLt bi w1
 y2 : w1.cell? ⟨bi, K * 4 + 2, none⟩ = some (.slice ea x.ents.length ec)
 iGm : BlockLt gm w1
 m0 : w1.cell? ⟨gm, k, none⟩ = some (.int .i64 m)
theorem at1 {B : Nat} {w w1 : World} {d b bi gm capi capm : Nat} {ov nv : Value} {S : PSt} {c : PCall} {r : PRes} {K k : Nat} {x : PIn} {m : Int} {l : ByteArray} (ho : Opened B w d b bi gm capi capm ov nv S c r) (hb : Below w.heap.size w w1) (hx : S.ins[K]? = some x) (hm : S.made[k]? = some m) (hs : Small S) :
 ∃ ea ec, At1 B w w1 d b bi gm capi capm ov nv S c r K k x m l ea ec := by
 have o1 := ho.below hb
 obtain ⟨iBi, ev, y2, hrow⟩ := o1.ino_at hx
 obtain ⟨iGm, m0, _⟩ := o1.made_at hm
 have hrow' := hrow
 obtain ⟨ea, ec, rfl, _⟩ := hrow'
 have hl := hs.ents x (mG hx)
 rw [lM] at y2 hrow
 refine ⟨ea, ec, hb, o1, fun ww hww => entry114 x.ents _ l ww (hrow.below hww (Nat.le_refl _)) (by omega), fun ww hww => full116 bi (K * 4) x.ents _ l _ ww ⟨by have := iBi.lt; have := hww.size; omega⟩ ((hww.cell (p := ⟨bi, K * 4 + 2, none⟩) iBi.lt).trans y2) (hrow.below hww (Nat.le_refl _)) (by omega), iBi, y2, iGm, m0⟩
theorem Opened.put {B : Nat} {w w3 : World} {d b bi gm capi capm K : Nat} {ov nv : Value} {S : PSt} {c : PCall} {r : PRes} {x : PIn} {es : List PEnt} (o : Opened B w d b bi gm capi capm ov nv S c r) (hk : Keep (InEn w) w w3)
 (hst : StOwn B w3 (.slice (some ⟨bi, 0, none⟩) S.ins.length capi) ov (.slice (some ⟨gm, 0, none⟩) S.made.length capm) (S.ents K x es)) : Opened B w3 d b bi gm capi capm ov nv (S.ents K x es) c r := by
 have hl : (S.ents K x es).ins.length = S.ins.length := by unfold PSt.ents; simp
 have hb := hk.blk o.hb (not_inEn o.hb (by decide) (by decide))
 refine ⟨o.hBb, o.hBd, hk.blk o.hD (not_inEn o.hD (by decide) (by decide)), ?_, ?_, o.nm.keep hk (own_not_inEn o.nm (by decide) (by decide))⟩
 · rw [hl]; exact hb
 · rw [hl]; exact hst
theorem Opened.setMade {B : Nat} {w : World} {d b bi gm capi capm k : Nat} {ov nv : Value} {S : PSt} {c : PCall} {r : PRes} (o : Opened B w d b bi gm capi capm ov nv S c r) (hk : k < S.made.length) (v : Int) :
 Opened B (w.setCell ⟨gm, k, none⟩ (.int .i64 v)) d b bi gm capi capm ov nv { S with made := S.made.set k v } c r ∧ B ≤ gm := by
 obtain ⟨h1, h2, cm, h3⟩ := o.st.setMade hk v
 have hK : Keep (fun x => x = gm) w (w.setCell ⟨gm, k, none⟩ (.int .i64 v)) := Keep.setCell (S := fun x => x = gm) (p := ⟨gm, k, none⟩) (Keep.refl _ _) (.inl rfl) _
 have hl : (S.made.set k v).length = S.made.length := List.length_set
 refine ⟨⟨o.hBb, o.hBd, hK.blk o.hD (o.hD.ne_ h3 (by decide)), ?_, ?_, o.nm.keep hK (fun g hg => o.nm.ne_blk h3 (by decide) hg)⟩, h2⟩
 · show Blk _ b #[_, ov, .slice (some ⟨gm, 0, none⟩) (S.made.set k v).length capm] 27; rw [hl]; exact hK.blk o.hb (o.hb.ne_ h3 (by decide))
 · show StOwn B _ _ ov (.slice (some ⟨gm, 0, none⟩) (S.made.set k v).length capm) _; rw [hl]; exact h1
theorem StOwn.search {B : Nat} {w : World} {iv ov mv : Value} {S : PSt} (h : StOwn B w iv ov mv S) (hl : S.ins.length ≤ 1000000000) (n : Int) : ∀ ww, Below w.heap.size w ww → Calls Tryz.prog 119 #[iv, .int .i64 n, .func (.func 120) #[] #[]] ww fun e w' => (∃ hit, e = .returned (.tuple #[.int .i64 (bsND S.nums n), .bool hit])) ∧ Below ww.heap.size ww w' := by
 intro ww hb
 obtain ⟨_, _, is, h3, h4, h5, _⟩ := h
 have hn : is.map IRec.num = S.nums := by
  apply List.ext_getElem?; intro q; rw [PSt.nums, gM, gM]; by_cases hq : q < is.length
  · have hq2 : q < S.ins.length := by omega
    have := (h5 q is[q] S.ins[q] (gE hq) (gE hq2)).1; rw [gE hq, gE hq2]; simp [this]
  · rw [List.getElem?_eq_none (by omega), List.getElem?_eq_none (by omega)]; rfl
 refine (bs119d is iv n ww (h3.row.below hb (Nat.le_refl _)) (by omega)).mono ?_
 rintro e w' ⟨rfl, hb'⟩
 rw [← hn, ← bsD_num]
 exact ⟨⟨_, rfl⟩, hb'⟩
theorem setIns2 {B : Nat} {w w1 : World} {iv' ov mv : Value} {S : PSt} {X : Nat → Prop} (is : List IRec) (h1 : OwnP B w 88 3 ov (S.op.map PDesc.cells)) (h2 : OwnP B w 3 1 mv (S.made.map intCells)) (h4 : is.length = S.ins.length)
 (h5 : ∀ (q : Nat) (r : IRec) (x : PIn), is[q]? = some r → S.ins[q]? = some x → r.num = x.num ∧ r.dir = x.dir ∧ r.data = x.data ∧ OwnP B w 99 2 r.ev (x.ents.map PEnt.cells)) (h6 : ∀ (p q : Nat) (r r' : IRec), p ≠ q → is[p]? = some r → is[q]? = some r' → ∀ g, r.ev.ownBlock = some g → r'.ev.ownBlock ≠ some g) (hk : Keep X w w1) (hX : ∀ g, X g → ∃ c, Blk w g c 65) (i : Nat) (hi : i ≤ S.ins.length) (num : Int) (dir : Bool)
 (hiv : OwnP B w1 65 4 iv' ((is.map IRec.cells).take i ++ [.int .i64 num, .bool dir, .slice none 0 0, .string { data := #[] }] :: (is.map IRec.cells).drop i)) :
 StOwn B w1 iv' ov mv { S with ins := insAt S.ins i ⟨num, dir, [], { data := #[] }⟩ } := by
 have key : ∀ {e : TypeId} {k : Nat} {v : Value} {rows : List (List Value)}, OwnP B w e k v rows → e ≠ 65 → OwnP B w1 e k v rows := by
  intro e k v rows ho he; refine ho.keep hk (fun g hg hx => ?_); obtain ⟨c, hc⟩ := hX g hx; exact ho.ne_blk hc he hg rfl
 have hrec : ∀ (q : Nat) (r : IRec) (x : PIn), is[q]? = some r → S.ins[q]? = some x → r.num = x.num ∧ r.dir = x.dir ∧ r.data = x.data ∧ OwnP B w1 99 2 r.ev (x.ents.map PEnt.cells) := fun q r x hr hx => by
  obtain ⟨a1, a2, a3, a4⟩ := h5 q r x hr hx; exact ⟨a1, a2, a3, key a4 (by decide)⟩
 refine ⟨key h1 (by decide), key h2 (by decide), insAt is i ⟨num, dir, .slice none 0 0, { data := #[] }, rfl⟩, ?_, ?_, ?_, ?_⟩
 · have := hiv; rw [insAt_map]; exact this
 · show (insAt is i _).length = (insAt S.ins i _).length; rw [insAt_len _ _ _ (by omega), insAt_len _ _ _ hi, h4]
 · intro q r x hr hx; have hx : (insAt S.ins i ⟨num, dir, [], { data := #[] }⟩)[q]? = some x := hx; rw [insAt_get _ _ _ (by omega)] at hr; rw [insAt_get _ _ _ hi] at hx; by_cases c1 : q < i
   · rw [if_pos c1] at hr hx; exact hrec q r x hr hx
   · rw [if_neg c1] at hr hx; by_cases c2 : q = i
     · rw [if_pos c2] at hr hx; cases hr; cases hx; exact ⟨rfl, rfl, rfl, .inl ⟨rfl, rfl⟩⟩
     · rw [if_neg c2] at hr hx; exact hrec (q - 1) r x hr hx
 · intro p q r r' hpq hp hq k hkk; rw [insAt_get _ _ _ (by omega)] at hp hq; have old : ∀ (p : Nat) (r : IRec), (if p < i then is[p]? else if p = i then some (⟨num, dir, .slice none 0 0, { data := #[] }, rfl⟩ : IRec) else is[p - 1]?) = some r → (p = i ∧ r.ev.ownBlock = none) ∨ (p ≠ i ∧ is[if p < i then p else p - 1]? = some r) := by
    intro p r hp; by_cases c1 : p < i
    · rw [if_pos c1] at hp; exact .inr ⟨by omega, by rw [if_pos c1]; exact hp⟩
    · rw [if_neg c1] at hp; by_cases c2 : p = i
      · rw [if_pos c2] at hp; cases hp; exact .inl ⟨c2, rfl⟩
      · rw [if_neg c2] at hp; exact .inr ⟨c2, by rw [if_neg c1]; exact hp⟩
   rcases old p r hp with ⟨_, h0⟩ | ⟨np, h0⟩
   · rw [h0] at hkk; cases hkk
   rcases old q r' hq with ⟨_, h1'⟩ | ⟨nq, h1'⟩
   · rw [h1']; exact fun h => by cases h
   refine h6 _ _ r r' ?_ h0 h1' k hkk
   split <;> split <;> omega
theorem made_state (S : PSt) (c : PCall) (K k : Nat) (x : PIn) (l : ByteArray) (m : Int) (hk : c.core = k) (hx : S.ins[K]? = some x) :
 madeSt S c K x l m = { ({ S.ents K x (insAt x.ents (bsE x.ents l) ⟨l, 2 + (k : Int) + 8 * m⟩) with made := S.made.set k (m + 1) } : PSt) with ins := insAt (S.ents K x (insAt x.ents (bsE x.ents l) ⟨l, 2 + (k : Int) + 8 * m⟩)).ins (bsND ({ S.ents K x (insAt x.ents (bsE x.ents l) ⟨l, 2 + (k : Int) + 8 * m⟩) with made := S.made.set k (m + 1) } : PSt).nums (2 + (k : Int) + 8 * m)) ⟨2 + (k : Int) + 8 * m, c.kind == 1, [], { data := #[] }⟩ } := by
 have hn : ({ S.ents K x (insAt x.ents (bsE x.ents l) ⟨l, 2 + (k : Int) + 8 * m⟩) with made := S.made.set k (m + 1) } : PSt).nums = S.nums := nums_ents S K x _ hx
 rw [hn]
 unfold madeSt
 rw [hk, Int.toNat_natCast]
 rfl
theorem create71 (B d b : Nat) (S : PSt) (c : PCall) (r : PRes) (w : World) (h : DoAt B w d b S c r) (hB : B ≤ w.heap.size) (hf : Fine S) (hs : Small S) (hp : (parseM c.path).1 = 0) (hpl : (parseM c.path).2.length ≤ 1000000000) (hc0 : 0 ≤ c.core) (hc1 : c.core < S.made.length) :
 Calls Tryz.prog 71 #[.pointer (some ⟨d, 0, none⟩)] w (RunOut B w d b c (createM S c r)) := by
 obtain ⟨bi, gm, capi, capm, ov, nv, ho⟩ := h.open_ hf.pos (by omega)
 have hpar : ∀ ww, Below w.heap.size w ww → Calls Tryz.prog 113 #[.pointer (some ⟨d, 0, none⟩), .string c.path] ww _ := fun ww hb => parent113 d b S c c.path ww (h.read.below hb (Nat.le_refl _)) hf hp hpl
 obtain ⟨d0, d1, d2, d6, b0, b2, -, iD, iBk⟩ := ho.reads
 unfold createM
 generalize hPM : parentM S (parseM c.path).2 = PM at hpar ⊢
 have HH := Lib.hid (And.intro ho (And.intro hf hs))
 rcases PM with k | ⟨K, l⟩
 · simp only; clear h ho hf hs hPM hp hpl b0 b2
   go_enter Tryz.func71, Tryz.ntmps71
   go_wp2_with (go_at_call 113; refine (hpar _ (bel _ _)).mono ?_; rintro e w1 ⟨hb1, hr⟩; have hr2 : e = thrown k := hr; clear hr; subst hr2)
   exact ⟨rfl, hb1.mono hB, rfl⟩
 · obtain ⟨x, hx, _⟩ := parent_ok hPM; obtain ⟨k, hk⟩ : ∃ k : Nat, c.core = k := ⟨c.core.toNat, by omega⟩
   have hkl : k < S.made.length := by omega
   obtain ⟨m, hm⟩ : ∃ m, S.made[k]? = some m := ⟨_, gE hkl⟩
   simp only [hx, hk, Int.toNat_natCast, hm]; have hm0 := hs.each m (mG hm); have hk8 : k < 8 := by have := hs.made; omega
   rw [hk] at d2; have hkI : (k : Int) < S.made.length := by omega
   have hat : ∀ w1, Below w.heap.size w w1 → ∃ ea ec, At1 B w w1 d b bi gm capi capm ov nv S c r K k x m l ea ec := fun w1 hb => at1 ho hb hx hm hs
   have HX := Lib.hid (And.intro hat (And.intro hx (And.intro hm (And.intro hk b0)))); clear h ho hf hs hPM hp hpl hat hx hm b0 b2; by_cases hhit : hitE x.ents l = true
   · rw [if_pos hhit]
     go_enter Tryz.func71, Tryz.ntmps71
     go_wp2_with (first | (go_at_call 113; refine (hpar _ (bel _ _)).mono ?_; rintro e w1 ⟨hb1, hr⟩; obtain ⟨bi', off', cap', hci, rfl⟩ : ∃ bi off cap, w.cell? ⟨b, 0, none⟩ = some (.slice (some ⟨bi, off, none⟩) S.ins.length cap) ∧ e = .returned (.tuple #[.pointer (some ⟨bi, off + K * 4, none⟩), .string l]) := hr; have hin := HX.out.2.2.2.2.symm.trans hci; simp only [Option.some.injEq, Value.slice.injEq, Addr.mk.injEq] at hin; obtain ⟨⟨rfl, rfl, -⟩, -, rfl⟩ := hin; rw [Nat.zero_add]; obtain ⟨ea, ec, h1⟩ := HX.out.1 w1 hb1; obtain ⟨e0, e1, e2, e6, g0, g2, fg0, iD1, iK1⟩ := h1.o.reads; rw [HX.out.2.2.2.1] at e2; have iBi := h1.iBi; have y2 := h1.y2; have iGm := h1.iGm; have m0 := h1.m0; have iW1 : Bel w w1 := ⟨hb1⟩; have HW1 := Lib.hid h1; clear hb1 hci) | (go_at_call 114; refine aT (h1.ent _ (bel _ _)) fun p => ?_) | (go_at_call 115; with_reducible refine (throw_yes _ _).mono ?_; rintro e w' ⟨rfl, hb⟩; obtain ⟨p, rfl⟩ := hb.rest; clear hb))
     exact ⟨rfl, ((HW1.out.below).trans ((bel w1 _).mono HW1.out.below.size)).mono hB, rfl⟩
   · rw [if_neg hhit]; have hhit : hitE x.ents l = false := by simpa using hhit
     have HHIT := Lib.hid hhit; generalize hfu : fullM x.ents l { data := #[] } = fu; have HFU := Lib.hid hfu; clear hfu; rcases fu with _ | _
     · by_cases h32 : 32 ≤ m
       · have h32b : decide (32 ≤ m) = true := decide_eq_true h32; rw [h32b]; simp only [Bool.or_true, if_true]
         go_enter Tryz.func71, Tryz.ntmps71
         go_wp2_with (first | (go_at_call 113; refine (hpar _ (bel _ _)).mono ?_; rintro e w1 ⟨hb1, hr⟩; obtain ⟨bi', off', cap', hci, rfl⟩ : ∃ bi off cap, w.cell? ⟨b, 0, none⟩ = some (.slice (some ⟨bi, off, none⟩) S.ins.length cap) ∧ e = .returned (.tuple #[.pointer (some ⟨bi, off + K * 4, none⟩), .string l]) := hr; have hin := HX.out.2.2.2.2.symm.trans hci; simp only [Option.some.injEq, Value.slice.injEq, Addr.mk.injEq] at hin; obtain ⟨⟨rfl, rfl, -⟩, -, rfl⟩ := hin; rw [Nat.zero_add]; obtain ⟨ea, ec, h1⟩ := HX.out.1 w1 hb1; obtain ⟨e0, e1, e2, e6, g0, g2, fg0, iD1, iK1⟩ := h1.o.reads; rw [HX.out.2.2.2.1] at e2; have iBi := h1.iBi; have y2 := h1.y2; have iGm := h1.iGm; have m0 := h1.m0; have iW1 : Bel w w1 := ⟨hb1⟩; have HW1 := Lib.hid h1; clear hb1 hci) | (go_at_call 114; refine aT (h1.ent _ (bel _ _)) fun p => ?_) | (go_at_call 115; with_reducible refine aT (throw_no _ _) fun p => ?_))
         refine wp_region_quiet_rest (by kernel_rfl) (by kernel_rfl) ?_
         repeat
          first
           | go_big_quiet_skip
           | (go_big_quiet_want; go_big_quiet_op; first | go_big_quiet_on | (apply Exists.intro; refine ⟨fun _ => ?_, ?_⟩; (focus (fail)); go_big_quiet_on))
         refine wpQuiet_nil ?_; intro w1 hw1; obtain ⟨p, hw1⟩ := hw1; subst hw1; go_wp2_with (first | (go_at_call 116; refine (h1.ful _ (bel _ _)).mono ?_; rw [HFU.out]; rintro e w' ⟨rfl, hb⟩; obtain ⟨p, rfl⟩ := hb.rest; clear hb) | (go_at_call 115; with_reducible refine (throw_yes _ _).mono ?_; rintro e w' ⟨rfl, hb⟩; obtain ⟨p, rfl⟩ := hb.rest; clear hb))
         exact ⟨rfl, ((HW1.out.below).trans ((bel w1 _).mono HW1.out.below.size)).mono hB, rfl⟩
       · have h32b : decide (32 ≤ m) = false := decide_eq_false h32; rw [h32b]; simp only [Bool.or_false, Bool.false_eq_true, if_false]; rw [made_state S c K k x l m HX.out.2.2.2.1 HX.out.2.1]; obtain ⟨num, hnm⟩ : ∃ num, 2 + (k : Int) + 8 * m = num := ⟨_, rfl⟩
         have hnum : ∀ ww, Calls Tryz.prog 117 #[.int .i64 k, .int .i64 m] ww fun e w' => e = .returned (.int .i64 num) ∧ Below ww.heap.size ww w' := fun ww => by rw [← hnm]; exact num117 k m ⟨by omega, by omega⟩ ⟨hm0.1, by omega⟩ ww
         rw [hnm]; obtain ⟨S1, hS1⟩ : ∃ S1, S.ents K x (insAt x.ents (bsE x.ents l) ⟨l, num⟩) = S1 := ⟨_, rfl⟩
         have hput : ∀ (w1 : World) (ea : Option Addr) (ec : Nat), At1 B w w1 d b bi gm capi capm ov nv S c r K k x m l ea ec → ∀ ww, Below w1.heap.size w1 ww → Calls Tryz.prog 118 #[.pointer (some ⟨bi, K * 4, none⟩), .string l, .int .i64 num] ww _ := fun w1 ea ec h1 ww hb => put118 B ww ov (.slice (some ⟨gm, 0, none⟩) S.made.length capm) S bi capi K x l num (h1.o.below hb).st HX.out.2.1 (Nat.le_trans hB (Nat.le_trans h1.below.size hb.size)) (HH.out.2.2.ents x (mG HX.out.2.1))
         have hk1 : S1.made = S.made := by rw [← hS1]; rfl
         rw [hS1] at hput ⊢; have HS1 := Lib.hid (And.intro hS1 (And.intro hnm hk1)); clear hS1 hnm hk1; have hw8 : wrap64 (m + 1) = m + 1 := by simp only [wrap64]; omega
         have hw9 : IntKind.i64.wrap (m + 1) = m + 1 := I64.wrap ⟨by omega, by omega⟩
         go_enter Tryz.func71, Tryz.ntmps71
         go_wp2_with (first | (go_at_call 113; refine (hpar _ (bel _ _)).mono ?_; rintro e w1 ⟨hb1, hr⟩; obtain ⟨bi', off', cap', hci, rfl⟩ : ∃ bi off cap, w.cell? ⟨b, 0, none⟩ = some (.slice (some ⟨bi, off, none⟩) S.ins.length cap) ∧ e = .returned (.tuple #[.pointer (some ⟨bi, off + K * 4, none⟩), .string l]) := hr; have hin := HX.out.2.2.2.2.symm.trans hci; simp only [Option.some.injEq, Value.slice.injEq, Addr.mk.injEq] at hin; obtain ⟨⟨rfl, rfl, -⟩, -, rfl⟩ := hin; rw [Nat.zero_add]; obtain ⟨ea, ec, h1⟩ := HX.out.1 w1 hb1; obtain ⟨e0, e1, e2, e6, g0, g2, fg0, iD1, iK1⟩ := h1.o.reads; rw [HX.out.2.2.2.1] at e2; have iBi := h1.iBi; have y2 := h1.y2; have iGm := h1.iGm; have m0 := h1.m0; have iW1 : Bel w w1 := ⟨hb1⟩; have HW1 := Lib.hid h1; clear hb1 hci) | (go_at_call 114; refine aT (h1.ent _ (bel _ _)) fun p => ?_) | (go_at_call 115; with_reducible refine aT (throw_no _ _) fun p => ?_))
         refine wp_region_quiet_rest (by kernel_rfl) (by kernel_rfl) ?_
         repeat
          first
           | go_big_quiet_skip
           | (go_big_quiet_want; go_big_quiet_op; first | go_big_quiet_on | (apply Exists.intro; refine ⟨fun _ => ?_, ?_⟩; (focus (fail)); go_big_quiet_on))
         refine wpQuiet_nil ?_; intro w1 hw1; obtain ⟨p, hw1⟩ := hw1; subst hw1; go_wp2_with (first | (go_at_call 116; refine (h1.ful _ (bel _ _)).mono ?_; rw [HFU.out]; rintro e w' ⟨rfl, hb⟩; obtain ⟨p, rfl⟩ := hb.rest; clear hb) | (go_at_call 115; with_reducible refine aT (throw_no _ _) fun p => ?_) | (go_at_call 117; refine aT (hnum _) fun p => ?_) | (go_at_call 118; refine (hput w1 _ _ HW1.out _ (bel w1 _)).mono ?_; rintro e w3 ⟨rfl, hb3, hk3, hs3⟩; rw [← HS1.out.1] at hs3; have o3 := Opened.put (HW1.out.o.below (bel w1 _)) hk3 hs3; rw [HS1.out.1] at o3; have hbw3 : Below B w w3 := ((bel w _).mono hB).trans hb3; obtain ⟨q0, q1, q2, q6, p0, p2, fq0, iD3, iK3⟩ := o3.reads; rw [HX.out.2.2.2.1] at q2; obtain ⟨iGm3, m3, fm3⟩ := o3.made_at (k := k) (m := m) (by rw [HS1.out.2.2]; exact HX.out.2.2.1); have HW3 := Lib.hid (And.intro o3 hbw3); clear hb3 hk3 hs3 o3 hbw3))
         have hk1l : k < S1.made.length := by rw [HS1.out.2.2]; exact hkl
         have hkI1 : (k : Int) < S1.made.length := by omega
         obtain ⟨o4, hBgm⟩ := (HW3.out.1.below ((Below.refl w3.heap.size w3).drew)).setMade hk1l (m + 1); obtain ⟨w4, hw4⟩ : ∃ w4, w3.drew.setCell ⟨gm, k, none⟩ (.int .i64 (m + 1)) = w4 := ⟨_, rfl⟩
         have hbw4 : Below B w w4 := by
          rw [← hw4]; have hk4 : Keep (fun x => x = gm) w3 (w3.drew.setCell ⟨gm, k, none⟩ (.int .i64 (m + 1))) := Keep.setCell (S := fun x => x = gm) (p := ⟨gm, k, none⟩) (Keep.refl _ w3).drew (.inl rfl) _; exact HW3.out.2.trans (hk4.below (Nat.le_trans hB HW3.out.2.size) (fun i hi h => by omega))
         rw [hw4] at o4; have hsch := o4.st.search (by
          have h1 : S1.ins.length = S.ins.length := by rw [← HS1.out.1]; unfold PSt.ents; simp
          show S1.ins.length ≤ 1000000000; have := HH.out.2.2.ins; omega) num
         obtain ⟨z0, z1, z2, z6, t0, t2, ft0, iD4, iK4⟩ := o4.reads; have t0 : w4.cell? ⟨b, 0, none⟩ = some (.slice (some ⟨bi, 0, none⟩) S1.ins.length capi) := t0; have HW4 := Lib.hid (And.intro o4 hbw4); clear o4 hbw4; refine wp_region_eff [16] true (fun w' => w'.cell? ⟨d, 0, none⟩ = some (.pointer (some ⟨b, 0, none⟩)) ∧ w'.cell? ⟨d, 2, none⟩ = some (.int .i64 k) ∧ w'.cell? ⟨b, 2, none⟩ = some (.slice (some ⟨gm, 0, none⟩) S1.made.length capm) ∧ w'.cell? ⟨gm, k, none⟩ = some (.int .i64 m)) (by kernel_rfl) (by kernel_rfl) ?_ ?_
         · (try dsimp only); (repeat' apply And.intro) <;> go_simp
         repeat
          refine wpL_look rfl rfl ?_; apply Exists.intro; refine ⟨?_, ?_⟩
          focus
           rintro w' ⟨s0, s1, s2, s3⟩; go_simp
           first | done | rfl
          simp only [Act.put, sA, sZ, sS]
         refine wpL_skip rfl rfl ?_; refine ⟨w4, ?_, .inr ⟨rfl, rfl⟩, ?_⟩
         focus
          go_simp
          first | done | exact hw4 | rfl
         simp only [Act.put, sA, sZ, sS]; refine wpL_end ?_; have HE4 := Lib.hid hw4; clear hw4; go_wp2_with (go_at_call 119; refine (hsch _ (bel w4 _)).mono ?_; rintro e w' ⟨⟨hit, rfl⟩, hb⟩; obtain ⟨p, rfl⟩ := hb.rest; clear hb)
         have hkd : (c.kind == 1) = (c.kind == 1) := rfl; refine wp_region_eff [20, 21, 24] true (fun w' => w'.cell? ⟨d, 0, none⟩ = some (.pointer (some ⟨b, 0, none⟩)) ∧ w'.cell? ⟨b, 0, none⟩ = some (.slice (some ⟨bi, 0, none⟩) S1.ins.length capi) ∧ w'.cell? ⟨d, 1, none⟩ = some (.int .i64 c.kind)) (by kernel_rfl) (by kernel_rfl) ?_ ?_
         · (try dsimp only); (repeat' apply And.intro) <;> go_simp
         repeat
          refine wpL_look rfl rfl ?_; apply Exists.intro; refine ⟨?_, ?_⟩
          focus
           rintro w' ⟨s0, s1, s2⟩; go_simp
           first | done | rfl
          simp only [Act.put, sA, sZ, sS]
         refine wpL_do rfl rfl ?_; apply Exists.intro; apply Exists.intro; refine ⟨?_, ?_, ?_⟩
         focus
          go_simp; exact ⟨rfl, rfl⟩
         focus
          refine .inl ⟨?_, ?_, ?_⟩ <;> go_simp
         simp only [Act.put, sA, sZ, sS]; obtain ⟨o4, hbw4⟩ := HW4.out; obtain ⟨u1, u2, is, u3, u4, u5, u6⟩ := o4.st; have u4 : is.length = S1.ins.length := u4; have hnl : ({ S1 with made := S1.made.set k (m + 1) } : PSt).nums.length = S1.ins.length := by unfold PSt.nums; rw [lM]
         have hbs := bsND_le ({ S1 with made := S1.made.set k (m + 1) } : PSt).nums num; have hsl : S1.ins.length ≤ 257 := by
          have h1 : S1.ins.length = S.ins.length := by rw [← HS1.out.1]; unfold PSt.ents; simp
          have := HH.out.2.2.ins; omega
         have hBw4 : B ≤ w4.heap.size := Nat.le_trans hB hbw4.size; have hins : ∀ ww gv, Below w4.heap.size w4 ww → w4.heap.size ≤ gv → Blk ww gv #[.int .i64 num, .bool (c.kind == 1), .slice none 0 0, .string { data := #[] }] 65 → Calls Tryz.prog 121 #[.slice (some ⟨bi, 0, none⟩) S1.ins.length capi, .int .i64 (bsND ({ S1 with made := S1.made.set k (m + 1) } : PSt).nums num), .slice (some ⟨gv, 0, none⟩) 1 1] ww _ := fun ww gv hb hg hgv =>
          insert121 B _ (is.map IRec.cells) (bsND ({ S1 with made := S1.made.set k (m + 1) } : PSt).nums num) gv [.int .i64 num, .bool (c.kind == 1), .slice none 0 0, .string { data := #[] }] ww (u3.keep (Keep.of_below hb (fun _ => False)) (fun _ _ h => h)) (irec_len _) (irec_one _) (by rw [lM]; omega) (by rw [lM]; omega) hgv rfl (by intro u hu; simp only [List.mem_cons, List.not_mem_nil, or_false] at hu; rcases hu with rfl | rfl | rfl | rfl <;> rfl) (fun e => by have := u3.lt e; omega) (Nat.le_trans hBw4 hb.size)
         refine wpL_act rfl rfl ?_; refine eff_call 121 #[.slice (some ⟨bi, 0, none⟩) S1.ins.length capi, .int .i64 (bsND ({ S1 with made := S1.made.set k (m + 1) } : PSt).nums num), .slice (some ⟨w4.heap.size + p.drew.len, 0, none⟩) 1 1] ?hr ?_
         case hr =>
          go_simp
          first | done | rfl
         refine (hins ((w4.junk p.drew).alloc (.cells #[.int .i64 num, .bool (c.kind == 1), .slice none 0 0, .string { data := #[] }] 65)) (w4.heap.size + p.drew.len) (bel w4 _) (by omega) (Blk.new_i _ _ _ _)).mono ?_; rintro e w5 ⟨v', rfl, ho5, hk5, _⟩; have hk45 := (Keep.of_below (bel w4 ((w4.junk p.drew).alloc (.cells #[.int .i64 num, .bool (c.kind == 1), .slice none 0 0, .string { data := #[] }] 65))) (fun g => (Value.slice (some ⟨bi, 0, none⟩) S1.ins.length capi).ownBlock = some g)).trans hk5 (fun _ _ h => h); have hbi : ∀ g, (Value.slice (some ⟨bi, 0, none⟩) S1.ins.length capi).ownBlock = some g → ∃ c, Blk w4 g c 65 := by
          intro g hg; rcases u3 with ⟨h0, _⟩ | ⟨g', _, arr, h0, _, hb', _⟩
          · simp at h0
          · simp only [Value.slice.injEq, Option.some.injEq, Addr.mk.injEq] at h0; obtain ⟨⟨rfl, -, -⟩, -, -⟩ := h0; simp only [Value.ownBlock, Option.some.injEq] at hg; subst hg; exact ⟨_, hb'⟩
         have hnb : ∀ {g : Nat} {cc : Array Value} {t : TypeId}, Blk w4 g cc t → t ≠ 65 → ¬ (Value.slice (some ⟨bi, 0, none⟩) S1.ins.length capi).ownBlock = some g := by
          intro g cc t hb ht hg; obtain ⟨c', hc'⟩ := hbi g hg; exact hb.ne_ hc' ht rfl
         have hst5 := setIns2 (S := { S1 with made := S1.made.set k (m + 1) }) is u1 u2 u4 u5 u6 hk45 hbi (bsND ({ S1 with made := S1.made.set k (m + 1) } : PSt).nums num) (by show _ ≤ S1.ins.length; omega) num (c.kind == 1) ho5; have hD5 := hk45.blk o4.hD (hnb o4.hD (by decide)); have hB5 := hk45.blk o4.hb (hnb o4.hb (by decide)); have hN5 := o4.nm.keep hk45 (fun g hg h => by
          obtain ⟨c', hc'⟩ := hbi g h; exact o4.nm.ne_blk hc' (by decide) hg rfl)
         have x0 : w5.cell? ⟨d, 0, none⟩ = some (.pointer (some ⟨b, 0, none⟩)) := hD5.cell 0; have x1 : w5.cell? ⟨d, 1, none⟩ = some (.int .i64 c.kind) := hD5.cell 1; have y0 : w5.cell? ⟨b, 0, none⟩ = some (.slice (some ⟨bi, 0, none⟩) S1.ins.length capi) := hB5.cell 0; have fy0 := hB5.frozen 0; have jD := hD5.lt; have jB := hB5.lt; obtain ⟨va, vn, vc, rfl⟩ := ho5.form; have hbw5 : Below B w w5 := hbw4.trans (hk45.below hBw4 (fun i hi h => by
          obtain ⟨_, _, is', h3', _⟩ := o4.st; have := h3'.ge h; omega))
         have H5 := Lib.hid (And.intro hst5 (And.intro hD5 (And.intro hB5 (And.intro hN5 (And.intro hbw5 (And.intro o4.hBb o4.hBd)))))); clear hst5 hD5 hB5 hN5 hk45 hk5 ho5 hbi hnb hins u1 u2 u3 u5 u6 o4 hbw4 hbw5; refine ⟨_, rfl, .inl ⟨x0, y0, x1⟩, ?_⟩; simp only [Act.put, sA, sZ, sS]
         repeat
          refine wpL_look rfl rfl ?_; apply Exists.intro; refine ⟨?_, ?_⟩
          focus
           rintro w' ⟨s0, s1, s2⟩; go_simp
           first | done | rfl
          simp only [Act.put, sA, sZ, sS]
         refine wpL_skip rfl rfl ?_; apply Exists.intro; refine ⟨?_, .inr ⟨rfl, rfl⟩, ?_⟩
         focus
          go_simp; rfl
         simp only [Act.put]; refine wpL_end ?_; obtain ⟨hst5, hD5, hB5, hN5, hbw5, e1, e2⟩ := H5.out; have hKb : Keep (fun g => g = b) w5 (w5.setCell ⟨b, 0, none⟩ (.slice va vn vc)) := Keep.setCell (S := fun g => g = b) (p := ⟨b, 0, none⟩) (Keep.refl _ _) (.inl rfl) _; have hfin : DoAt B (w5.setCell ⟨b, 0, none⟩ (.slice va vn vc)) d b { ({ S1 with made := S.made.set k (m + 1) } : PSt) with ins := insAt S1.ins (bsND ({ S1 with made := S.made.set k (m + 1) } : PSt).nums num) ⟨num, c.kind == 1, [], { data := #[] }⟩ } c r := by
          rw [← HS1.out.2.2]; exact ⟨_, _, _, nv, e1, e2, hKb.blk hD5 (hD5.ne_ hB5 (by decide)), hB5.set_ 0 _, hst5.keep hKb (fun g hg => by rw [hg]; exact ⟨_, 27, hB5, by decide, by decide, by decide, by decide⟩), hN5.keep hKb (fun g hg => hN5.ne_blk hB5 (by decide) hg)⟩
         exact bodyPost_end (v := .tuple #[]) (by simp [results, go_sem]) rfl ⟨hbw5.trans (hKb.below (Nat.le_trans hB hbw5.size) (fun i hi h => by omega)), rfl, hfin⟩
     · simp only [Bool.true_or, if_true]
       go_enter Tryz.func71, Tryz.ntmps71
       go_wp2_with (first | (go_at_call 113; refine (hpar _ (bel _ _)).mono ?_; rintro e w1 ⟨hb1, hr⟩; obtain ⟨bi', off', cap', hci, rfl⟩ : ∃ bi off cap, w.cell? ⟨b, 0, none⟩ = some (.slice (some ⟨bi, off, none⟩) S.ins.length cap) ∧ e = .returned (.tuple #[.pointer (some ⟨bi, off + K * 4, none⟩), .string l]) := hr; have hin := HX.out.2.2.2.2.symm.trans hci; simp only [Option.some.injEq, Value.slice.injEq, Addr.mk.injEq] at hin; obtain ⟨⟨rfl, rfl, -⟩, -, rfl⟩ := hin; rw [Nat.zero_add]; obtain ⟨ea, ec, h1⟩ := HX.out.1 w1 hb1; obtain ⟨e0, e1, e2, e6, g0, g2, fg0, iD1, iK1⟩ := h1.o.reads; rw [HX.out.2.2.2.1] at e2; have iBi := h1.iBi; have y2 := h1.y2; have iGm := h1.iGm; have m0 := h1.m0; have iW1 : Bel w w1 := ⟨hb1⟩; have HW1 := Lib.hid h1; clear hb1 hci) | (go_at_call 114; refine aT (h1.ent _ (bel _ _)) fun p => ?_) | (go_at_call 115; with_reducible refine aT (throw_no _ _) fun p => ?_))
       refine wp_region_quiet_rest (by kernel_rfl) (by kernel_rfl) ?_
       repeat
        first
         | go_big_quiet_skip
         | (go_big_quiet_want; go_big_quiet_op; first | go_big_quiet_on | (apply Exists.intro; refine ⟨fun _ => ?_, ?_⟩; (focus (fail)); go_big_quiet_on))
       refine wpQuiet_nil ?_; intro w1 hw1; obtain ⟨p, hw1⟩ := hw1; subst hw1; go_wp2_with (first | (go_at_call 116; refine (h1.ful _ (bel _ _)).mono ?_; rw [HFU.out]; rintro e w' ⟨rfl, hb⟩; obtain ⟨p, rfl⟩ := hb.rest; clear hb) | (go_at_call 115; with_reducible refine (throw_yes _ _).mono ?_; rintro e w' ⟨rfl, hb⟩; obtain ⟨p, rfl⟩ := hb.rest; clear hb))
       exact ⟨rfl, ((HW1.out.below).trans ((bel w1 _).mono HW1.out.below.size)).mono hB, rfl⟩
end Go.Proofs.YtjkenolgkkknaaaGreatDoor
