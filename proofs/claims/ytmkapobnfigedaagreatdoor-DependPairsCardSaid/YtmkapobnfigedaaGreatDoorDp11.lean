/- Part of the proof of a law of chapter 15. Conditions: none. -/
import Derived.Test.YtmkapobnfigedaaGreatDoorDp10
import Derived.Test.YtmkapobnfigedaaGreatDoorDp09
set_option linter.unusedVariables false
set_option linter.unusedSimpArgs false
set_option maxRecDepth 100000
set_option maxHeartbeats 8000000
namespace Go.Proofs.YtmkapobnfigedaaGreatDoor
open Go.RowKit
def insAt {α : Type} (l : List α) (i : Nat) (x : α) : List α := l.take i ++ x :: l.drop i
theorem insAt_map {α β : Type} (f : α → β) (l : List α) (i : Nat) (x : α) : (insAt l i x).map f = (l.map f).take i ++ f x :: (l.map f).drop i := by simp [insAt, List.map_take, List.map_drop]
theorem bsFrom_le (f : Nat → Int) : ∀ (b lo hi : Nat), lo ≤ hi → bsFrom f b lo hi ≤ hi
 | 0, lo, hi, h => h
 | b + 1, lo, hi, h => by
   unfold bsFrom
   split
   · split
     · exact bsFrom_le f b _ _ (by omega)
     · have := bsFrom_le f b lo ((lo + hi) / 2) (by omega); omega
   · exact h
theorem bsE_le (es : List PEnt) (s : ByteArray) : bsE es s ≤ es.length := bsFrom_le _ _ _ _ (Nat.zero_le _)
def PSt.ents (S : PSt) (K : Nat) (x : PIn) (es : List PEnt) : PSt := { S with ins := S.ins.set K { x with ents := es } }
def InEn (w : World) (g : Nat) : Prop := ∃ c t, Blk w g c t ∧ (t = 68 ∨ t = 97)
theorem StOwn.setEnts {B : Nat} {w w1 : World} {ov mv : Value} {S : PSt} {bi cap K : Nat} {x : PIn} (h : StOwn B w (.slice (some ⟨bi, 0, none⟩) S.ins.length cap) ov mv S) (hx : S.ins[K]? = some x) {ev : Value} (hev : w.cell? ⟨bi, K * 4 + 2, none⟩ = some ev)
 {ev' : Value} {es' : List PEnt} (he : OwnP B w1 97 2 ev' (es'.map PEnt.cells)) (hk : Keep (fun k => ev.ownBlock = some k) w w1) (hfr : ∀ k, ev'.ownBlock = some k → ev.ownBlock = some k ∨ w.heap.size ≤ k) (hB : B ≤ w.heap.size) :
 StOwn B (w1.setCell ⟨bi, K * 4 + 2, none⟩ ev') (.slice (some ⟨bi, 0, none⟩) S.ins.length cap) ov mv (S.ents K x es') ∧ Below B w (w1.setCell ⟨bi, K * 4 + 2, none⟩ ev') ∧ Keep (InEn w) w (w1.setCell ⟨bi, K * 4 + 2, none⟩ ev') := by
 obtain ⟨h1, h2, is, h3, h4, h5, h6⟩ := h
 obtain ⟨hKl, _⟩ := gI.1 hx
 have hr : is[K]? = some is[K] := gE (by omega)
 obtain ⟨a1, a2, a3, a4⟩ := h5 K _ x hr hx
 rcases h3 with ⟨h0, _⟩ | ⟨g, cap', arr, heq, hgB, hgb, hnc, hcm, hsz, hri⟩
 · simp at h0
 simp only [Value.slice.injEq, Option.some.injEq, Addr.mk.injEq] at heq
 obtain ⟨⟨rfl, -, -⟩, hl, rfl⟩ := heq
 have hevr : ev = is[K].ev := by
  have := hri K is[K].cells (by rw [gM, hr]; rfl) 2 _ rfl; rw [hgb.cell, this] at hev; exact (Option.some.inj hev).symm
 have hone := he.one
 have nEv : ∀ k, ev.ownBlock = some k → k ≠ bi := fun k hk => by rw [hevr] at hk; exact a4.ne_blk hgb (by decide) hk
 have nEv' : ∀ k, ev'.ownBlock = some k → k ≠ bi := fun k hk => by
  rcases hfr k hk with h | h
  · exact nEv k h
  · have := hgb.lt.lt; omega
 have hgb1 : Blk w1 bi arr 68 := hk.blk hgb (fun h => nEv bi h rfl)
 have hS : Keep (fun k => k = bi) w1 (w1.setCell ⟨bi, K * 4 + 2, none⟩ ev') := Keep.setCell (S := fun k => k = bi) (p := ⟨bi, K * 4 + 2, none⟩) (Keep.refl _ _) (.inl rfl) _
 have hT : Keep (fun k => ev.ownBlock = some k ∨ k = bi) w (w1.setCell ⟨bi, K * 4 + 2, none⟩ ev') := (hk.mono (fun i _ h => .inl h)).trans (hS.mono (fun i _ h => .inr h)) (fun i _ h => h)
 have far : ∀ {e : TypeId} {k : Nat} {v : Value} {rows : List (List Value)}, OwnP B w e k v rows → (e = 95 ∨ e = 3) → OwnP B (w1.setCell ⟨bi, K * 4 + 2, none⟩ ev') e k v rows := by
  intro e k v rows ho hee; refine ho.keep hT (fun g hg hh => ?_); rcases hh with hh | hh
  · rw [hevr] at hh; rcases a4 with ⟨h0, _⟩ | ⟨g', _, c', h0, _, hb', _⟩
    · rw [h0] at hh; simp [Value.ownBlock] at hh
    · rw [h0] at hh; simp [Value.ownBlock] at hh; subst hh; exact ho.ne_blk hb' (by rcases hee with rfl | rfl <;> decide) hg rfl
  · exact ho.ne_blk hgb (by rcases hee with rfl | rfl <;> decide) hg hh
 have hil : K < is.length := by omega
 have hmset : (is.map IRec.cells).set K (is[K].cells.set 2 ev') = (is.set K ⟨is[K].num, is[K].dir, ev', is[K].data, hone⟩).map IRec.cells := by
  rw [List.map_set]; rfl
 have hKs : K * 4 + 2 < arr.size := by
  rw [lM] at hnc; omega
 refine ⟨⟨far h1 (.inl rfl), far h2 (.inr rfl), is.set K ⟨is[K].num, is[K].dir, ev', is[K].data, hone⟩, .inr ⟨bi, cap, arr.setIfInBounds (K * 4 + 2) ev', ?_, hgB, hgb1.set_ _ _, ?_, hcm, by rw [Array.size_setIfInBounds]; exact hsz, ?_⟩, ?_, ?_, ?_⟩, hT.below hB ?_, hT.mono ?_⟩
 · rw [lM, List.length_set, h4]
 · rw [lM, List.length_set]; rw [lM] at hnc; exact hnc
 · rw [← hmset]; exact hri.set (irec_len _) (by rw [gM, hr]; rfl) (by decide) hKs _
 · show (is.set K _).length = (S.ins.set K _).length; rw [List.length_set, List.length_set, h4]
 · intro q r x' hq hx'; have hx' : (S.ins.set K { x with ents := es' })[q]? = some x' := hx'; by_cases e : K = q
   · subst e; rw [List.getElem?_set_self hil] at hq; rw [List.getElem?_set_self hKl] at hx'; cases hq; cases hx'; exact ⟨a1, a2, a3, he.keep hS (fun k hk => nEv' k hk)⟩
   · rw [List.getElem?_set_ne e] at hq hx'; obtain ⟨b1, b2, b3, b4⟩ := h5 q r x' hq hx'; refine ⟨b1, b2, b3, b4.keep hT (fun k hk hh => ?_)⟩; rcases hh with hh | hh
     · rw [hevr] at hh; exact h6 K q _ r e hr hq k hh hk
     · exact b4.ne_blk hgb (by decide) hk hh
 · intro p q r r' hpq hp hq k hk; have hold : ∀ (j : Nat) (rb : IRec), is[j]? = some rb → ∀ k, rb.ev.ownBlock = some k → k < w.heap.size := by
    intro j rb hj k hk; obtain ⟨hjl, _⟩ := gI.1 hj; obtain ⟨xb, hxb⟩ : ∃ xb, S.ins[j]? = some xb := ⟨_, gE (by omega)⟩
    exact (h5 j rb xb hj hxb).2.2.2.lt hk
   by_cases e : K = p
   · subst e; rw [List.getElem?_set_self hil] at hp; rw [List.getElem?_set_ne hpq] at hq; cases hp; intro h; rcases hfr k hk with h' | h'
     · rw [hevr] at h'; exact h6 K q _ r' hpq hr hq k h' h
     · have := hold q r' hq k h; omega
   · rw [List.getElem?_set_ne e] at hp; by_cases e2 : K = q
     · subst e2; rw [List.getElem?_set_self hil] at hq; cases hq; intro h; rcases hfr k h with h' | h'
       · rw [hevr] at h'; exact h6 K p _ r (fun e => hpq e.symm) hr hp k h' hk
       · have := hold p r hp k hk; omega
     · rw [List.getElem?_set_ne e2] at hq; exact h6 p q r r' hpq hp hq k hk
 · intro i hi hh; rcases hh with hh | hh
   · rw [hevr] at hh; have := a4.ge hh; omega
   · omega
 · intro g _ hh; rcases hh with hh | hh
   · rw [hevr] at hh; rcases a4 with ⟨h0, _⟩ | ⟨g', _, c', h0, _, hb', _⟩
     · rw [h0] at hh; simp [Value.ownBlock] at hh
     · rw [h0] at hh; simp [Value.ownBlock] at hh; subst hh; exact ⟨_, 97, hb', .inr rfl⟩
   · exact ⟨_, 68, by rw [hh]; exact hgb, .inl rfl⟩
theorem pent_one1 (e : PEnt) : ∀ u ∈ e.cells, u.oneCell' = true := fun u h => by
 simp only [PEnt.cells, List.mem_cons, List.not_mem_nil, or_false] at h
 rcases h with rfl | rfl <;> rfl
theorem put118 (B : Nat) (w : World) (ov mv : Value) (S : PSt) (bi cap K : Nat) (x : PIn) (s : ByteArray) (num : Int) (h : StOwn B w (.slice (some ⟨bi, 0, none⟩) S.ins.length cap) ov mv S) (hx : S.ins[K]? = some x) (hB : B ≤ w.heap.size) (hl : x.ents.length ≤ 100000) :
 Calls Tryz.prog 175 #[.pointer (some ⟨bi, K * 4, none⟩), .string s, .int .i64 num] w fun e w' => e = .returned (.tuple #[]) ∧ Below B w w' ∧ Keep (InEn w) w w' ∧ StOwn B w' (.slice (some ⟨bi, 0, none⟩) S.ins.length cap) ov mv (S.ents K x (insAt x.ents (bsE x.ents s) ⟨s, num⟩)) := by
 have hread := h.read
 obtain ⟨ai, capi, he, hat⟩ := hread.ins_at2
 simp only [Value.slice.injEq] at he
 obtain ⟨rfl, -, rfl⟩ := he
 obtain ⟨bi', off', ev, he, iG, hone, hrow, hcl⟩ := hat K x hx
 simp only [Option.some.injEq, Addr.mk.injEq] at he
 obtain ⟨rfl, rfl, -⟩ := he
 obtain ⟨-, -, -, y2, -⟩ := hcl w (Below.refl _ _)
 rw [Nat.zero_add] at y2
 obtain ⟨hKl, _⟩ := gI.1 hx
 have hfz : w.frozen? ⟨bi, K * 4 + 2, none⟩ = false := by
  obtain ⟨_, _, is, h3, _⟩ := h; rcases h3 with ⟨h0, _⟩ | ⟨g, cap', arr, heq, hgB, hgb, _⟩
  · simp at h0
  · simp only [Value.slice.injEq, Option.some.injEq, Addr.mk.injEq] at heq; obtain ⟨⟨rfl, -, -⟩, -, -⟩ := heq; exact hgb.frozen _
 have hown : OwnP B w 97 2 ev (x.ents.map PEnt.cells) := by
  obtain ⟨_, _, is, h3, h4, h5, _⟩ := h; have hr : is[K]? = some is[K] := gE (by omega); rcases h3 with ⟨h0, _⟩ | ⟨g, cap', arr, heq, hgB, hgb, _, _, _, hri⟩
  · simp at h0
  · simp only [Value.slice.injEq, Option.some.injEq, Addr.mk.injEq] at heq; obtain ⟨⟨rfl, -, -⟩, -, -⟩ := heq; have := hri K is[K].cells (by rw [gM, hr]; rfl) 2 _ rfl; rw [hgb.cell, this] at y2; have e : is[K].ev = ev := Option.some.inj y2; rw [← e]; exact (h5 K _ x hr hx).2.2.2
 have hblk : ∃ arr, Blk w bi arr 68 ∧ K * 4 + 2 < arr.size := by
  obtain ⟨_, _, is, h3, h4, h5, _⟩ := h; rcases h3 with ⟨h0, _⟩ | ⟨g, cap', arr, heq, hgB, hgb, hnc, _, hsz, hri⟩
  · simp at h0
  · simp only [Value.slice.injEq, Option.some.injEq, Addr.mk.injEq] at heq; obtain ⟨⟨rfl, -, -⟩, -, -⟩ := heq; rw [lM] at hnc; exact ⟨arr, hgb, by omega⟩
 obtain ⟨arr, hgb, has⟩ := hblk
 have HB := Lib.hid hgb
 have nEv : ∀ k, ev.ownBlock = some k → k ≠ bi := fun k hk => hown.ne_blk hgb (by decide) hk
 have HN := Lib.hid nEv
 clear hgb nEv
 have hent : ∀ ww, Below w.heap.size w ww → Calls Tryz.prog 171 #[ev, .string s] ww _ := fun ww hb => entry114 x.ents ev s ww (hrow.below hb (Nat.le_refl _)) (by omega)
 have hins : ∀ ww gv, Below w.heap.size w ww → w.heap.size ≤ gv → Blk ww gv #[.string s, .int .i64 num] 97 → Calls Tryz.prog 202 #[ev, .int .i64 (bsE x.ents s), .slice (some ⟨gv, 0, none⟩) 1 1] ww _ := fun ww gv hb hg hgv =>
  insert155 B ev (x.ents.map PEnt.cells) (bsE x.ents s) gv (PEnt.cells ⟨s, num⟩) ww (hown.keep (Keep.of_below hb (fun _ => False)) (fun _ _ h => h)) (pent_len _) (pent_one _) (by rw [lM]; exact bsE_le _ _) (by rw [lM]; omega) hgv rfl (pent_one1 _) (fun e => by have := hown.lt e; omega) (Nat.le_trans hB hb.size)
 have hbl := bsE_le x.ents s
 have HH := Lib.hid (And.intro h (And.intro hown hx))
 obtain ⟨ea, en, ec, rfl⟩ := hown.form
 generalize bsE x.ents s = bs at hent hins hbl ⊢
 generalize hitE x.ents s = hh at hent
 clear h hread hat hcl hrow hown hx
 go_enter Tryz.func175, Tryz.ntmps175
 go_wp2_with (first | (go_at_call 171; refine aT (hent _ (bel _ _)) fun p => ?_) | (go_at_call 202; refine (hins _ _ (bel _ _) (by simp) (by repeat (first | exact Blk.new_i _ _ _ _ | refine Blk.alloc ?_ _))).mono ?_; rintro e w2 ⟨v', rfl, ho2, hk2, hf2⟩; have hb2 := hk2.blk (b := bi) (c := arr) (t := 68) (by repeat (first | exact HB.out | refine Blk.alloc ?_ _ | refine Blk.junk ?_ _)) (fun h => HN.out _ h rfl); have hk3 := (Keep.of_below (bel w _) (fun k => (Value.slice ea en ec).ownBlock = some k)).trans hk2 (fun _ _ h => h); have hf3 : ∀ k, v'.ownBlock = some k → (Value.slice ea en ec).ownBlock = some k ∨ w.heap.size ≤ k := fun k hk => (hf2 k hk).imp id (fun h => Nat.le_trans (bel w _).size h); obtain ⟨va, vn, vc, rfl⟩ := ho2.form; have iB2 := hb2.lt; have f2 := hb2.frozen (K * 4 + 2); obtain ⟨u2, c2⟩ : ∃ u2, w2.cell? ⟨bi, K * 4 + 2, none⟩ = some u2 := ⟨arr[K * 4 + 2], by rw [hb2.cell]; exact Array.getElem?_eq_getElem has⟩; have H2 := Lib.hid (And.intro ho2 (And.intro hk3 hf3)); clear ho2 hk2 hf2 hb2 hk3 hf3))
 refine bodyPost_end (v := .tuple #[]) (by simp [results, go_sem]) rfl ?_
 obtain ⟨r1, r2, r3⟩ := HH.out.1.setEnts HH.out.2.2 y2 (es' := insAt x.ents bs ⟨s, num⟩) (by rw [insAt_map]; exact H2.out.1) H2.out.2.1 H2.out.2.2 hB
 exact ⟨rfl, r2, r3, r1⟩
theorem insAt_get {α : Type} (l : List α) (i : Nat) (x : α) (hi : i ≤ l.length) (q : Nat) : (insAt l i x)[q]? = if q < i then l[q]? else if q = i then some x else l[q - 1]? := by
 unfold insAt
 have htl : (l.take i).length = i := by rw [List.length_take]; omega
 by_cases h1 : q < i
 · rw [if_pos h1, List.getElem?_append_left (by omega), List.getElem?_take, if_pos h1]
 · rw [if_neg h1, List.getElem?_append_right (by omega), htl]; by_cases h2 : q = i
   · rw [if_pos h2, h2, Nat.sub_self]; rfl
   · rw [if_neg h2, show q - i = (q - i - 1) + 1 by omega, List.getElem?_cons_succ, List.getElem?_drop]
     congr 1
     omega
theorem insAt_len {α : Type} (l : List α) (i : Nat) (x : α) (hi : i ≤ l.length) : (insAt l i x).length = l.length + 1 := by
 unfold insAt
 rw [lP, List.length_take, List.length_cons, List.length_drop]
 omega
theorem RowsIn.set1 {arr : Array Value} {xs : List Int} (h : RowsIn arr 1 (xs.map intCells)) {k : Nat} (hk : k < xs.length) (hs : k < arr.size) (v : Int) : RowsIn (arr.setIfInBounds k (.int .i64 v)) 1 ((xs.set k v).map intCells) := by
 have := h.set (int_len xs) (q := k) (t := 0) (cs := intCells xs[k]) (by rw [gM, gE hk]; rfl) (by decide) (by omega) (.int .i64 v)
 rw [Nat.mul_one, Nat.add_zero] at this
 rw [List.map_set]
 exact this
theorem StOwn.setMade {B : Nat} {w : World} {iv ov : Value} {S : PSt} {gm cap : Nat} (h : StOwn B w iv ov (.slice (some ⟨gm, 0, none⟩) S.made.length cap) S) {k : Nat} (hk : k < S.made.length) (v : Int) :
 StOwn B (w.setCell ⟨gm, k, none⟩ (.int .i64 v)) iv ov (.slice (some ⟨gm, 0, none⟩) S.made.length cap) { S with made := S.made.set k v } ∧ B ≤ gm ∧ ∃ c, Blk w gm c 3 := by
 obtain ⟨h1, h2, is, h3, h4, h5, h6⟩ := h
 rcases h2 with ⟨h0, _⟩ | ⟨g, cap', arr, heq, hgB, hgb, hnc, hcm, hsz, hri⟩
 · simp at h0
 simp only [Value.slice.injEq, Option.some.injEq, Addr.mk.injEq] at heq
 obtain ⟨⟨rfl, -, -⟩, -, rfl⟩ := heq
 have hK : Keep (fun x => x = gm) w (w.setCell ⟨gm, k, none⟩ (.int .i64 v)) := Keep.setCell (S := fun x => x = gm) (p := ⟨gm, k, none⟩) (Keep.refl _ _) (.inl rfl) _
 have key : ∀ {e : TypeId} {n : Nat} {u : Value} {rows : List (List Value)}, OwnP B w e n u rows → e ≠ 3 → OwnP B (w.setCell ⟨gm, k, none⟩ (.int .i64 v)) e n u rows := by
  intro e n u rows ho he; exact ho.keep hK (fun g hg hx => ho.ne_blk hgb he hg hx)
 rw [lM] at hnc
 refine ⟨⟨key h1 (by decide), .inr ⟨gm, cap, arr.setIfInBounds k (.int .i64 v), ?_, hgB, hgb.set_ _ _, ?_, hcm, by rw [Array.size_setIfInBounds]; exact hsz, hri.set1 hk (by omega) v⟩, is, key h3 (by decide), h4, fun q r x hr hx => ?_, h6⟩, hgB, _, hgb⟩
 · show Value.slice (some ⟨gm, 0, none⟩) S.made.length cap = .slice (some ⟨gm, 0, none⟩) ((S.made.set k v).map intCells).length cap; rw [lM, List.length_set]
 · show ((S.made.set k v).map intCells).length ≤ cap; rw [lM, List.length_set]; exact hnc
 · obtain ⟨a1, a2, a3, a4⟩ := h5 q r x hr hx; exact ⟨a1, a2, a3, key a4 (by decide)⟩
theorem bsND_le (ns : List Int) (n : Int) : bsND ns n ≤ ns.length := bsFrom_le _ _ _ _ (Nat.zero_le _)
theorem nums_ents (S : PSt) (K : Nat) (x : PIn) (es : List PEnt) (hx : S.ins[K]? = some x) : (S.ents K x es).nums = S.nums := by
 unfold PSt.nums PSt.ents
 apply List.ext_getElem?
 intro q
 rw [gM, gM]
 by_cases e : K = q
 · subst e; obtain ⟨hl, _⟩ := gI.1 hx; rw [List.getElem?_set_self hl, hx]; rfl
 · rw [List.getElem?_set_ne e]
def madeSt (S : PSt) (c : PCall) (K : Nat) (x : PIn) (l : ByteArray) (m : Int) : PSt :=
 { ins := insAt (S.ents K x (insAt x.ents (bsE x.ents l) ⟨l, 2 + c.core + 8 * m⟩)).ins (bsND S.nums (2 + c.core + 8 * m)) ⟨2 + c.core + 8 * m, c.kind == 1, [], { data := #[] }⟩, op := S.op, made := S.made.set c.core.toNat (m + 1) }
def createM (S : PSt) (c : PCall) (r : PRes) : Except Int (PSt × PRes) :=
 match parentM S (parseM c.path).2 with
 | .error k => .error k
 | .ok (K, l) => match S.ins[K]? with
   | none => .error 0
   | some x => if hitE x.ents l = true then .error 2 else match S.made[c.core.toNat]? with
     | none => .error 0
     | some m => if (fullM x.ents l { data := #[] } || decide (32 ≤ m)) = true then .error 5 else .ok (madeSt S c K x l m, r)
structure Small (S : PSt) : Prop where
 ins : S.ins.length ≤ 257
 ents : ∀ x ∈ S.ins, x.ents.length ≤ 100000
 made : S.made.length ≤ 8
 each : ∀ m ∈ S.made, 0 ≤ m ∧ m ≤ 32
structure Opened (B : Nat) (w : World) (d b bi gm : Nat) (capi capm : Nat) (ov nv : Value) (S : PSt) (c : PCall) (r : PRes) : Prop where
 hBb : B ≤ b
 hBd : B ≤ d
 hD : Blk w d (doCells b c r nv) 136
 hb : Blk w b #[.slice (some ⟨bi, 0, none⟩) S.ins.length capi, ov, .slice (some ⟨gm, 0, none⟩) S.made.length capm] 26
 st : StOwn B w (.slice (some ⟨bi, 0, none⟩) S.ins.length capi) ov (.slice (some ⟨gm, 0, none⟩) S.made.length capm) S
 nm : OwnP B w 9 1 nv (r.names.map strCells)
theorem DoAt.open_ {B : Nat} {w : World} {d b : Nat} {S : PSt} {c : PCall} {r : PRes} (h : DoAt B w d b S c r) (h1 : 0 < S.ins.length) (h2 : 0 < S.made.length) : ∃ bi gm capi capm ov nv, Opened B w d b bi gm capi capm ov nv S c r := by
 obtain ⟨iv, ov, mv, nv, hBb, hBd, hD, hbk, hst, hnv⟩ := h
 have hst' := hst
 obtain ⟨o1, o2, is, o3, o4, _⟩ := hst'
 obtain ⟨gm, capm, rfl, _⟩ := o2.some_ (by rw [lM]; exact h2)
 obtain ⟨bi, capi, rfl, _⟩ := o3.some_ (by rw [lM, o4]; exact h1)
 rw [lM] at hbk hst
 rw [lM, o4] at hbk hst
 exact ⟨bi, gm, capi, capm, ov, nv, hBb, hBd, hD, hbk, hst, hnv⟩
theorem Opened.below {B : Nat} {w w' : World} {d b bi gm capi capm : Nat} {ov nv : Value} {S : PSt} {c : PCall} {r : PRes} (h : Opened B w d b bi gm capi capm ov nv S c r) (hb : Below w.heap.size w w') : Opened B w' d b bi gm capi capm ov nv S c r := by
 have hk : Keep (fun _ => False) w w' := Keep.of_below hb _
 exact ⟨h.hBb, h.hBd, hk.blk h.hD id, hk.blk h.hb id, h.st.keep hk (fun _ h => h.elim), h.nm.keep hk (fun _ _ h => h)⟩
theorem Opened.at_ {B : Nat} {w : World} {d b bi gm capi capm : Nat} {ov nv : Value} {S : PSt} {c : PCall} {r : PRes} (h : Opened B w d b bi gm capi capm ov nv S c r) : DoAt B w d b S c r :=
 ⟨_, _, _, _, h.hBb, h.hBd, h.hD, h.hb, h.st, h.nm⟩
structure Reads (w : World) (d b bi gm : Nat) (capi capm : Nat) (S : PSt) (c : PCall) : Prop where
 d0 : w.cell? ⟨d, 0, none⟩ = some (.pointer (some ⟨b, 0, none⟩))
 d1 : w.cell? ⟨d, 1, none⟩ = some (.int .i64 c.kind)
 d2 : w.cell? ⟨d, 2, none⟩ = some (.int .i64 c.core)
 d6 : w.cell? ⟨d, 6, none⟩ = some (.string c.path)
 b0 : w.cell? ⟨b, 0, none⟩ = some (.slice (some ⟨bi, 0, none⟩) S.ins.length capi)
 b2 : w.cell? ⟨b, 2, none⟩ = some (.slice (some ⟨gm, 0, none⟩) S.made.length capm)
 fb0 : w.frozen? ⟨b, 0, none⟩ = false
 iD : BlockLt d w
 iB : BlockLt b w
theorem Opened.reads {B : Nat} {w : World} {d b bi gm capi capm : Nat} {ov nv : Value} {S : PSt} {c : PCall} {r : PRes} (h : Opened B w d b bi gm capi capm ov nv S c r) : Reads w d b bi gm capi capm S c :=
 ⟨h.hD.cell 0, h.hD.cell 1, h.hD.cell 2, h.hD.cell 6, h.hb.cell 0, h.hb.cell 2, h.hb.frozen 0, h.hD.lt, h.hb.lt⟩
theorem Opened.made_at {B : Nat} {w : World} {d b bi gm capi capm : Nat} {ov nv : Value} {S : PSt} {c : PCall} {r : PRes} (h : Opened B w d b bi gm capi capm ov nv S c r) {k : Nat} {m : Int} (hm : S.made[k]? = some m) :
 BlockLt gm w ∧ w.cell? ⟨gm, k, none⟩ = some (.int .i64 m) ∧ w.frozen? ⟨gm, k, none⟩ = false := by
 obtain ⟨_, h2, _⟩ := h.st
 rcases h2 with ⟨h0, _⟩ | ⟨g, cap', arr, heq, hgB, hgb, hnc, hcm, hsz, hri⟩
 · simp at h0
 simp only [Value.slice.injEq, Option.some.injEq, Addr.mk.injEq] at heq
 obtain ⟨⟨rfl, -, -⟩, -, rfl⟩ := heq
 refine ⟨hgb.lt, ?_, hgb.frozen _⟩
 have := hri k (intCells m) (by rw [gM, hm]; rfl) 0 _ rfl
 rw [Nat.mul_one, Nat.add_zero] at this
 rw [hgb.cell]
 exact this
theorem Opened.ino_at {B : Nat} {w : World} {d b bi gm capi capm : Nat} {ov nv : Value} {S : PSt} {c : PCall} {r : PRes} (h : Opened B w d b bi gm capi capm ov nv S c r) {K : Nat} {x : PIn} (hx : S.ins[K]? = some x) :
 BlockLt bi w ∧ ∃ ev, w.cell? ⟨bi, K * 4 + 2, none⟩ = some ev ∧ RowAt w 2 ev (x.ents.map PEnt.cells) := by
 obtain ⟨ai, capi', he, hat⟩ := h.st.read.ins_at2
 simp only [Value.slice.injEq] at he
 obtain ⟨rfl, -, rfl⟩ := he
 obtain ⟨bi', off', ev, he, iG, hone, hrow, hcl⟩ := hat K x hx
 simp only [Option.some.injEq, Addr.mk.injEq] at he
 obtain ⟨rfl, rfl, -⟩ := he
 obtain ⟨i1, -, -, y2, -⟩ := hcl w (Below.refl _ _)
 rw [Nat.zero_add] at y2
 exact ⟨i1, ev, y2, hrow⟩
theorem not_inEn {w : World} {g : Nat} {c : Array Value} {t : TypeId} (h : Blk w g c t) (h1 : t ≠ 68) (h2 : t ≠ 97) : ¬ InEn w g := by
 rintro ⟨c', t', hb, ht⟩
 rcases ht with rfl | rfl
 · exact h.ne_ hb h1 rfl
 · exact h.ne_ hb h2 rfl
theorem own_not_inEn {B : Nat} {w : World} {e : TypeId} {k : Nat} {v : Value} {rows : List (List Value)} (h : OwnP B w e k v rows) (h1 : e ≠ 68) (h2 : e ≠ 97) : ∀ g, v.ownBlock = some g → ¬ InEn w g := by
 intro g hg hi
 obtain ⟨c', t', hb, ht⟩ := hi
 rcases ht with rfl | rfl
 · exact h.ne_blk hb h1 hg rfl
 · exact h.ne_blk hb h2 hg rfl
end Go.Proofs.YtmkapobnfigedaaGreatDoor
