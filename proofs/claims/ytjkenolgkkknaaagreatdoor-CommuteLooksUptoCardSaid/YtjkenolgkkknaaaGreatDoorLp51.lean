/- Part of the proof that the calls that look alone commute. Conditions: none. -/
import Derived.Test.YtjkenolgkkknaaaGreatDoorLp50
import Derived.Test.YtjkenolgkkknaaaGreatDoorLp48
set_option linter.unusedVariables false
set_option linter.unusedSimpArgs false
set_option maxRecDepth 100000
set_option maxHeartbeats 8000000
/- The reference's Copy. Conditions: none. -/
set_option linter.unusedVariables false
set_option linter.unusedSimpArgs false
namespace Go.Proofs.YtjkenolgkkknaaaGreatDoor
open Go.RowKit
/-- A copy under way: q inodes are out. -/
structure CpAt (w0 wr : World) (iv ov mv v0 : Value) (S : PSt) (q : Nat) (is : List IRec) : Prop where
  b0 : Blk wr w0.heap.size #[iv, ov, mv] 27
  b1 : Blk wr (w0.heap.size + 1) #[.slice none 0 0, .slice none 0 0, .slice none 0 0] 27
  b2 : Blk wr (w0.heap.size + 1 + 1) #[v0, .slice none 0 0, .slice none 0 0] 27
  own : OwnP (w0.heap.size + 3) wr 65 4 v0 (is.map IRec.cells)
  len : is.length = q
  each : ∀ (j : Nat) (r : IRec) (x : PIn), is[j]? = some r → S.ins[j]? = some x → r.num = x.num ∧ r.dir = x.dir ∧ r.data = x.data ∧ OwnP (w0.heap.size + 3) wr 99 2 r.ev (x.ents.map PEnt.cells)
  apart : ∀ (p q : Nat) (r r' : IRec), p ≠ q → is[p]? = some r → is[q]? = some r' → ∀ g, r.ev.ownBlock = some g → r'.ev.ownBlock ≠ some g
  below : Below w0.heap.size w0 wr
theorem blk_on {w w' : World} {b : Nat} {c : Array Value} {t : TypeId} (h : Blk w b c t) (hb : Below w.heap.size w w') : Blk w' b c t := (Keep.of_below hb (fun _ => False)).blk h (fun h => h)
theorem CpAt.on {w0 wr w' : World} {iv ov mv v0 : Value} {S : PSt} {q : Nat} {is : List IRec} (h : CpAt w0 wr iv ov mv v0 S q is) (hb : Below wr.heap.size wr w') : CpAt w0 w' iv ov mv v0 S q is :=
  ⟨blk_on h.b0 hb, blk_on h.b1 hb, blk_on h.b2 hb, h.own.below hb, h.len, fun j r x hr hx => by
    obtain ⟨a1, a2, a3, a4⟩ := h.each j r x hr hx
    exact ⟨a1, a2, a3, a4.below hb⟩, h.apart, h.below.trans (hb.mono h.below.size)⟩
theorem CpAt.step {w0 wr wC w2 : World} {iv ov mv v0 v0' : Value} {S : PSt} {q : Nat} {is : List IRec} (h : CpAt w0 wr iv ov mv v0 S q is) {r : IRec} {x : PIn} (hx : S.ins[q]? = some x) (hn : r.num = x.num ∧ r.dir = x.dir ∧ r.data = x.data) (hC : Below wr.heap.size wr wC) (hv : OwnP (w0.heap.size + 3) wC 99 2 r.ev (x.ents.map PEnt.cells)) (hf : ∀ g, r.ev.ownBlock = some g → wr.heap.size ≤ g)
    (hg : Grew (w0.heap.size + 3) 65 4 wC v0 ((is ++ [r]).map IRec.cells) v0' w2) : CpAt w0 (w2.setCell ⟨w0.heap.size + 1 + 1, 0, none⟩ v0') iv ov mv v0' S (q + 1) (is ++ [r]) := by
  have hc := h.on hC
  obtain ⟨g1, g2, g3⟩ := hg
  have hlt2 := hc.b2.lt.lt
  have k2 : Keep (fun g => g = w0.heap.size + 1 + 1) w2 (w2.setCell ⟨w0.heap.size + 1 + 1, 0, none⟩ v0') := Keep.setCell (S := fun g => g = w0.heap.size + 1 + 1) (p := ⟨w0.heap.size + 1 + 1, 0, none⟩) (Keep.refl _ _) (.inl rfl) _
  have nv : ∀ b, b < w0.heap.size + 3 → ¬ v0.ownBlock = some b := fun b hb e => by have := hc.own.ge e; omega
  have ev : ∀ {v : Value} {rows : List (List Value)}, OwnP (w0.heap.size + 3) wC 99 2 v rows → OwnP (w0.heap.size + 3) (w2.setCell ⟨w0.heap.size + 1 + 1, 0, none⟩ v0') 99 2 v rows := by
    intro v rows ho
    have h1 := ho.keep g2 (fun g hg e => by
      rcases hc.own with ⟨h0, _⟩ | ⟨g', cap, arr, h0, _, hb', _⟩
      · rw [h0] at e; simp [Value.ownBlock] at e
      · rw [h0] at e
        simp [Value.ownBlock] at e
        subst e
        exact ho.ne_blk hb' (by decide) hg rfl)
    exact h1.keep k2 (fun g hg e => by have := h1.ge hg; omega)
  have hbB : Below w0.heap.size w0 (w2.setCell ⟨w0.heap.size + 1 + 1, 0, none⟩ v0') := by
    have h1 := hc.below
    have h2 := g2.below (B := w0.heap.size) h1.size (fun i hi e => nv i (by omega) e)
    have h3 := k2.below (B := w0.heap.size) (Nat.le_trans h1.size h2.size) (fun i hi e => by omega)
    exact (h1.trans h2).trans h3
  refine ⟨k2.blk (g2.blk hc.b0 (nv _ (by omega))) (by omega), k2.blk (g2.blk hc.b1 (nv _ (by omega))) (by omega), (g2.blk hc.b2 (nv _ (by omega))).set_ 0 v0', g1.keep k2 (fun g hg e => by have := g1.ge hg; omega), by simp [h.len], ?_, ?_, hbB⟩
  · intro j r' x' hr hx'
    by_cases hj : j < is.length
    · rw [List.getElem?_append_left hj] at hr
      obtain ⟨a1, a2, a3, a4⟩ := hc.each j r' x' hr hx'
      exact ⟨a1, a2, a3, ev a4⟩
    · rw [List.getElem?_append_right (by omega)] at hr
      have : j = q := by
        obtain ⟨hl, _⟩ := List.getElem?_eq_some_iff.1 hr
        have := h.len
        simp at hl
        omega
      subst this
      rw [h.len, Nat.sub_self] at hr
      simp at hr
      subst hr
      rw [hx] at hx'
      cases hx'
      exact ⟨hn.1, hn.2.1, hn.2.2, ev hv⟩
  · intro p1 q1 r1 r2 hne h1 h2 g e1 e2
    have old : ∀ (p : Nat) (rr : IRec), (is ++ [r])[p]? = some rr → (p < is.length ∧ is[p]? = some rr) ∨ (p = is.length ∧ rr = r) := by
      intro p rr hp
      by_cases hj : p < is.length
      · rw [List.getElem?_append_left hj] at hp
        exact .inl ⟨hj, hp⟩
      · rw [List.getElem?_append_right (by omega)] at hp
        obtain ⟨hl, _⟩ := List.getElem?_eq_some_iff.1 hp
        simp at hl
        have : p = is.length := by omega
        subst this
        simp at hp
        exact .inr ⟨rfl, hp.symm⟩
    have lt : ∀ (p : Nat) (rr : IRec), is[p]? = some rr → ∀ g, rr.ev.ownBlock = some g → g < wr.heap.size := by
      intro p rr hp g hg
      obtain ⟨hl, _⟩ := List.getElem?_eq_some_iff.1 hp
      obtain ⟨hq, _⟩ := List.getElem?_eq_some_iff.1 hx
      have hlq := h.len
      exact (h.each p rr _ hp (List.getElem?_eq_getElem (by omega))).2.2.2.lt hg
    rcases old p1 r1 h1 with ⟨hl1, h1'⟩ | ⟨e3, rfl⟩
    · rcases old q1 r2 h2 with ⟨hl2, h2'⟩ | ⟨e4, rfl⟩
      · exact h.apart p1 q1 r1 r2 hne h1' h2' g e1 e2
      · have := lt _ _ h1' g e1
        have := hf g e2
        omega
    · rcases old q1 r2 h2 with ⟨hl2, h2'⟩ | ⟨e4, rfl⟩
      · have := lt _ _ h2' g e2
        have := hf g e1
        omega
      · omega
end Go.Proofs.YtjkenolgkkknaaaGreatDoor
/- The reference's make1, where it makes a name below the root. Conditions: none. -/
set_option linter.unusedVariables false
set_option linter.unusedSimpArgs false
namespace Go.Proofs.YtjkenolgkkknaaaGreatDoor
open Go.RowKit
theorem StOwn.made_at {B : Nat} {w : World} {iv ov : Value} {S : PSt} {gm cap : Nat} (h : StOwn B w iv ov (.slice (some ⟨gm, 0, none⟩) S.made.length cap) S) {k : Nat} {m : Int} (hm : S.made[k]? = some m) : w.cell? ⟨gm, k, none⟩ = some (.int .i64 m) ∧ w.frozen? ⟨gm, k, none⟩ = false ∧ BlockLt gm w := by
  rcases h.2.1 with ⟨h1, _⟩ | ⟨g, cap', arr, he, _, hb, _, _, _, hr⟩
  · cases h1
  · simp only [Value.slice.injEq, Option.some.injEq, Addr.mk.injEq] at he
    obtain ⟨⟨rfl, -, -⟩, -, -⟩ := he
    refine ⟨?_, hb.frozen k, hb.lt⟩
    rw [hb.cell]
    have := hr k (intCells m) (by rw [List.getElem?_map, hm]; rfl) 0 _ rfl
    rw [Nat.mul_one, Nat.add_zero] at this
    exact this
/-- Blocks of states, calls and results but for one stay. -/
def Spared (b : Nat) (w w' : World) : Prop := ∀ g c t, Blk w g c t → g ≠ b → (t = 27 ∨ t = 29 ∨ t = 46) → Blk w' g c t
theorem Spared.trans {b : Nat} {w w1 w2 : World} (h : Spared b w w1) (h' : Spared b w1 w2) : Spared b w w2 := fun g c t hb hn ht => h' g c t (h g c t hb hn ht) hn ht
theorem Spared.of_below {b : Nat} {w w1 : World} (h : Below w.heap.size w w1) : Spared b w w1 := fun g c t hb _ _ => blk_on hb h
theorem Spared.set {b : Nat} {w : World} {g o : Nat} {c : Array Value} {t : TypeId} {v : Value} (h : Blk w g c t) (ht : g = b ∨ (t ≠ 27 ∧ t ≠ 29 ∧ t ≠ 46)) : Spared b w (w.setCell ⟨g, o, none⟩ v) := fun g' c' t' hb hn htt => by
  refine Keep.blk (Keep.setCell (S := fun x => x = g) (p := ⟨g, o, none⟩) (Keep.refl _ w) (.inl rfl) v) hb (fun e => ?_)
  subst e
  rcases ht with ht | ht
  · exact hn ht
  · have : t = t' := by
      have e := h.symm.trans hb
      simp at e
      exact e.2
    subst this
    rcases htt with rfl | rfl | rfl
    · exact ht.1 rfl
    · exact ht.2.1 rfl
    · exact ht.2.2 rfl
end Go.Proofs.YtjkenolgkkknaaaGreatDoor
/- doer.bytes at Read and Size. Conditions: none. -/
set_option linter.unusedVariables false
set_option linter.unusedSimpArgs false
namespace Go.Proofs.YtjkenolgkkknaaaGreatDoor
open Go.RowKit
/-- The file of a call's descriptor: its place, itself. -/
def fileX (S : PSt) (c : PCall) : Option (Nat × PIn) := if idxM (isFd c) S.op < 0 then none else
  match S.op[(idxM (isFd c) S.op).toNat]? with
  | none => none
  | some y => match S.ins[(findN S.nums y.num).toNat]? with
    | none => none
    | some x => some ((findN S.nums y.num).toNat, x)
theorem fileX_at {S : PSt} {c : PCall} {K : Nat} {x : PIn} (h : fileX S c = some (K, x)) : S.ins[K]? = some x ∧ K < S.ins.length := by
  unfold fileX at h
  split at h
  · cases h
  · split at h
    · cases h
    · split at h
      · cases h
      · rename_i hx
        simp only [Option.some.injEq, Prod.mk.injEq] at h
        obtain ⟨rfl, rfl⟩ := h
        obtain ⟨hl, _⟩ := List.getElem?_eq_some_iff.1 hx
        exact ⟨hx, hl⟩
def fileE (S : PSt) (c : PCall) (bi : Nat) (e : Ending) : Prop := match fileX S c with
  | none => e = thrown 4
  | some y => e = .returned (.tuple #[.pointer (some ⟨bi, y.1 * 4, none⟩), .int .i64 (idxM (isFd c) S.op)])
theorem file_x {w : World} {d b bi cap : Nat} {S : PSt} {c : PCall} (h : DR w d b S c) (hf : Fine S) (hc : w.cell? ⟨b, 0, none⟩ = some (.slice (some ⟨bi, 0, none⟩) S.ins.length cap)) :
    Calls Tryz.prog 73 #[.pointer (some ⟨d, 0, none⟩)] w fun e w' => Below w.heap.size w w' ∧ fileE S c bi e := by
  refine (file73 d b S c w h hf).mono ?_
  rintro e w' ⟨hb, ho⟩
  refine ⟨hb, ?_⟩
  unfold fileE fileX
  rcases ho with ⟨hi, y, bi', off, cap', hy, hc', rfl⟩ | ⟨hi, rfl⟩
  · rw [if_neg (by omega), hy]
    rw [hc] at hc'
    simp only [Option.some.injEq, Value.slice.injEq, Addr.mk.injEq] at hc'
    obtain ⟨⟨rfl, rfl, -⟩, -, -⟩ := hc'
    have h0 := hf.opens y (List.mem_of_getElem? hy)
    have hb2 := findN_bounds S.nums y.num
    have hnl : S.nums.length = S.ins.length := by unfold PSt.nums; rw [List.length_map]
    have hlt : (findN S.nums y.num).toNat < S.ins.length := by omega
    simp only [List.getElem?_eq_getElem hlt, Nat.zero_add]
  · rw [if_pos hi]
theorem DoAt.parts {B : Nat} {w : World} {d b : Nat} {S : PSt} {c : PCall} {r : PRes} (h : DoAt B w d b S c r) (h0 : 0 < S.ins.length) :
    ∃ bi cap ov mv nv, B ≤ b ∧ B ≤ d ∧ Blk w d (doCells b c r nv) 82 ∧ Blk w b #[.slice (some ⟨bi, 0, none⟩) S.ins.length cap, ov, mv] 27 ∧ StOwn B w (.slice (some ⟨bi, 0, none⟩) S.ins.length cap) ov mv S ∧ OwnP B w 9 1 nv (r.names.map strCells) := by
  obtain ⟨iv, ov, mv, nv, h1, h2, h3, h4, h5, h6⟩ := h
  obtain ⟨bi, cap, rfl⟩ := h5.ins_form h0
  exact ⟨bi, cap, ov, mv, nv, h1, h2, h3, h4, h5, h6⟩
/-- What a doer's blocks are, by name. -/
structure DPart (B : Nat) (w : World) (d b bi cap : Nat) (ov mv nv : Value) (S : PSt) (c : PCall) (r : PRes) : Prop where
  hBb : B ≤ b
  hBd : B ≤ d
  hD : Blk w d (doCells b c r nv) 82
  hb : Blk w b #[.slice (some ⟨bi, 0, none⟩) S.ins.length cap, ov, mv] 27
  st : StOwn B w (.slice (some ⟨bi, 0, none⟩) S.ins.length cap) ov mv S
  nm : OwnP B w 9 1 nv (r.names.map strCells)
theorem DoAt.part {B : Nat} {w : World} {d b : Nat} {S : PSt} {c : PCall} {r : PRes} (h : DoAt B w d b S c r) (h0 : 0 < S.ins.length) : ∃ bi cap ov mv nv, DPart B w d b bi cap ov mv nv S c r := by
  obtain ⟨bi, cap, ov, mv, nv, h1, h2, h3, h4, h5, h6⟩ := h.parts h0
  exact ⟨bi, cap, ov, mv, nv, h1, h2, h3, h4, h5, h6⟩
section
variable {B : Nat} {w w' : World} {d b bi cap : Nat} {ov mv nv : Value} {S : PSt} {c : PCall} {r : PRes}
theorem DPart.at_ (h : DPart B w d b bi cap ov mv nv S c r) : DoAt B w d b S c r := ⟨_, _, _, _, h.hBb, h.hBd, h.hD, h.hb, h.st, h.nm⟩
theorem DPart.below (h : DPart B w d b bi cap ov mv nv S c r) (hb : Below w.heap.size w w') : DPart B w' d b bi cap ov mv nv S c r := by
  have hk : Keep (fun _ => False) w w' := Keep.of_below hb _
  exact ⟨h.hBb, h.hBd, hk.blk h.hD id, hk.blk h.hb id, h.st.keep hk (fun _ h => h.elim), h.nm.keep hk (fun _ _ h => h)⟩
theorem DPart.file (h : DPart B w d b bi cap ov mv nv S c r) (hf : Fine S) : Calls Tryz.prog 73 #[.pointer (some ⟨d, 0, none⟩)] w fun e w' => Below w.heap.size w w' ∧ fileE S c bi e :=
  file_x (DR.of_blk h.hD (SP.of_blk h.hb h.st.read)) hf (h.hb.cell 0)
theorem DPart.dat {K : Nat} {x : PIn} (h : DPart B w d b bi cap ov mv nv S c r) (hx : S.ins[K]? = some x) : BlockLt bi w ∧ w.cell? ⟨bi, K * 4, none⟩ = some (.int .i64 x.num) ∧ w.cell? ⟨bi, K * 4 + 1, none⟩ = some (.bool x.dir) ∧ w.cell? ⟨bi, K * 4 + 3, none⟩ = some (.string x.data) := by
  obtain ⟨a, cap', e1, hai⟩ := h.st.read.ins_at2
  cases e1
  obtain ⟨bi', oi, ev, he, iI0, hoi, her, hci⟩ := hai K x hx
  cases he
  obtain ⟨i2, x0, x1, -, x3⟩ := hci w (Below.refl _ _)
  simp only [Nat.zero_add] at x0 x1 x3
  exact ⟨i2, x0, x1, x3⟩
/-- A field of the result is laid. -/
theorem DPart.res (h : DPart B w d b bi cap ov mv nv S c r) {t : Nat} {u : Value} {r' : PRes} (hc : (doCells b c r nv).setIfInBounds t u = doCells b c r' nv) (hn : r'.names = r.names) : DPart B (w.setCell ⟨d, t, none⟩ u) d b bi cap ov mv nv S c r' := by
  have hKd : Keep (fun k => k = d) w (w.setCell ⟨d, t, none⟩ u) := Keep.setCell (S := fun k => k = d) (p := ⟨d, t, none⟩) (Keep.refl _ _) (.inl rfl) _
  refine ⟨h.hBb, h.hBd, ?_, hKd.blk h.hb (h.hb.ne_ h.hD (by decide)), h.st.keep hKd (fun g hg => by rw [hg]; exact ⟨_, 82, h.hD, by decide, by decide, by decide, by decide⟩), by rw [hn]; exact h.nm.keep hKd (fun g hg => h.nm.ne_blk h.hD (by decide) hg)⟩
  rw [← hc]
  exact h.hD.set_ t u
end
def readM (S : PSt) (c : PCall) (r : PRes) : Except Int (PSt × PRes) := match fileX S c with
  | none => .error 4
  | some y => if (inM c.off && inM c.num) = true then .ok (S, { r with data := pieceM y.2.data c.off.toNat c.num.toNat }) else .error 9
set_option maxRecDepth 100000 in
set_option maxHeartbeats 4000000 in
theorem bytes_read (B d b : Nat) (S : PSt) (c : PCall) (r : PRes) (w : World) (h : DoAt B w d b S c r) (hB : B ≤ w.heap.size) (hf : Fine S) (hk : c.kind = 4) (hsz : ∀ x ∈ S.ins, x.data.size ≤ 1000000) :
    Calls Tryz.prog 76 #[.pointer (some ⟨d, 0, none⟩)] w (RunOut B w d b c (readM S c r)) := by
  obtain ⟨bi, cap, ov, mv, nv, hP⟩ := h.part hf.pos
  have ht := hP.file hf
  have iD := hP.hD.lt
  unfold fileE at ht
  unfold readM
  generalize hX : fileX S c = X at ht ⊢
  rcases X with _ | ⟨K, x⟩
  · simp only at ht ⊢
    go_enter Tryz.func76, Tryz.ntmps76
    go_wp2_with (go_at_call 73; refine ht.mono ?_; rintro e w1 ⟨hb1, rfl⟩)
    exact ⟨rfl, hb1.mono hB, rfl⟩
  · simp only at ht ⊢
    obtain ⟨hx, hKl⟩ := fileX_at hX
    have hxs := hsz x (List.mem_of_getElem? hx)
    generalize idxM (isFd c) S.op = I at ht
    have HP := Lib.hid hP
    clear h hP hX hsz
    have hoff := fun ww => in126 c.off ww
    have hnum := fun ww => in126 c.num ww
    generalize hpo : inM c.off = po at hoff ⊢
    rcases po with _ | _
    · simp only [Bool.false_and, Bool.false_eq_true, if_false]
      go_enter Tryz.func76, Tryz.ntmps76
      go_upto_region 1 with (go_at_call 73; refine ht.mono ?_; rintro e w1 ⟨hb1, rfl⟩; have HB := Lib.hid hb1; clear hb1)
      refine abs_world (F := fun wA => DPart B wA d b bi cap ov mv nv S c r ∧ Below w.heap.size w wA) ⟨HP.out.below HB.out, HB.out⟩ ?_
      clear ht iD HP HB
      rintro wA ⟨hA, hbA⟩
      have iD := hA.hD.lt
      have a1 : wA.cell? ⟨d, 1, none⟩ = some (.int .i64 c.kind) := hA.hD.cell 1
      have a4 : wA.cell? ⟨d, 4, none⟩ = some (.int .i64 c.off) := hA.hD.cell 4
      have a5 : wA.cell? ⟨d, 5, none⟩ = some (.int .i64 c.num) := hA.hD.cell 5
      have a13 : wA.cell? ⟨d, 13, none⟩ = some (.string r.data) := hA.hD.cell 13
      have f13 := hA.hD.frozen 13
      rw [hk] at a1
      obtain ⟨iI, x0, x1, x3⟩ := hA.dat hx
      have HA := Lib.hid (And.intro hA hbA)
      clear hA hbA hx
      go_wp2_with (first | (go_at_call 126; with_reducible refine (hoff _).mono ?_; rintro e w' ⟨rfl, hb⟩; obtain ⟨p, rfl⟩ := hb.rest; clear hb) | (go_at_call 126; with_reducible refine (hnum _).mono ?_; rintro e w' ⟨rfl, hb⟩; obtain ⟨p, rfl⟩ := hb.rest; clear hb) | (go_at_call 115; refine (throw_yes _ _).mono ?_; rintro e w' ⟨rfl, hb⟩; obtain ⟨p, rfl⟩ := hb.rest; clear hb))
      exact ⟨rfl, (HA.out.2.trans ((bel wA _).mono HA.out.2.size)).mono hB, rfl⟩
    · generalize hpn : inM c.num = pn at hnum ⊢
      rcases pn with _ | _
      · simp only [Bool.and_false, Bool.false_eq_true, if_false]
        go_enter Tryz.func76, Tryz.ntmps76
        go_upto_region 1 with (go_at_call 73; refine ht.mono ?_; rintro e w1 ⟨hb1, rfl⟩; have HB := Lib.hid hb1; clear hb1)
        refine abs_world (F := fun wA => DPart B wA d b bi cap ov mv nv S c r ∧ Below w.heap.size w wA) ⟨HP.out.below HB.out, HB.out⟩ ?_
        clear ht iD HP HB
        rintro wA ⟨hA, hbA⟩
        have iD := hA.hD.lt
        have a1 : wA.cell? ⟨d, 1, none⟩ = some (.int .i64 c.kind) := hA.hD.cell 1
        have a4 : wA.cell? ⟨d, 4, none⟩ = some (.int .i64 c.off) := hA.hD.cell 4
        have a5 : wA.cell? ⟨d, 5, none⟩ = some (.int .i64 c.num) := hA.hD.cell 5
        have a13 : wA.cell? ⟨d, 13, none⟩ = some (.string r.data) := hA.hD.cell 13
        have f13 := hA.hD.frozen 13
        rw [hk] at a1
        obtain ⟨iI, x0, x1, x3⟩ := hA.dat hx
        have HA := Lib.hid (And.intro hA hbA)
        clear hA hbA hx
        go_wp2_with (first | (go_at_call 126; with_reducible refine (hoff _).mono ?_; rintro e w' ⟨rfl, hb⟩; obtain ⟨p, rfl⟩ := hb.rest; clear hb) | (go_at_call 126; with_reducible refine (hnum _).mono ?_; rintro e w' ⟨rfl, hb⟩; obtain ⟨p, rfl⟩ := hb.rest; clear hb) | (go_at_call 115; refine (throw_yes _ _).mono ?_; rintro e w' ⟨rfl, hb⟩; obtain ⟨p, rfl⟩ := hb.rest; clear hb))
        exact ⟨rfl, (HA.out.2.trans ((bel wA _).mono HA.out.2.size)).mono hB, rfl⟩
      · simp only [Bool.and_self, if_true]
        unfold inM at hpo hpn
        simp only [Bool.and_eq_true, decide_eq_true_eq] at hpo hpn
        obtain ⟨o, ho⟩ : ∃ o : Nat, c.off = o := ⟨c.off.toNat, by omega⟩
        obtain ⟨n, hn⟩ : ∃ n : Nat, c.num = n := ⟨c.num.toNat, by omega⟩
        have hpc := fun ww => piece127 x.data o n ww (by omega) (by omega) (by omega)
        have eo : c.off.toNat = o := by omega
        have en : c.num.toNat = n := by omega
        rw [eo, en]
        rw [ho] at hoff
        rw [hn] at hnum
        generalize pieceM x.data o n = pc at hpc ⊢
        have HO := Lib.hid (And.intro ho hn)
        clear eo en hpo hpn ho hn
        go_enter Tryz.func76, Tryz.ntmps76
        go_upto_region 1 with (go_at_call 73; refine ht.mono ?_; rintro e w1 ⟨hb1, rfl⟩; have HB := Lib.hid hb1; clear hb1)
        refine abs_world (F := fun wA => DPart B wA d b bi cap ov mv nv S c r ∧ Below w.heap.size w wA) ⟨HP.out.below HB.out, HB.out⟩ ?_
        clear ht iD HP HB
        rintro wA ⟨hA, hbA⟩
        have iD := hA.hD.lt
        have a1 : wA.cell? ⟨d, 1, none⟩ = some (.int .i64 c.kind) := hA.hD.cell 1
        have a4 : wA.cell? ⟨d, 4, none⟩ = some (.int .i64 c.off) := hA.hD.cell 4
        have a5 : wA.cell? ⟨d, 5, none⟩ = some (.int .i64 c.num) := hA.hD.cell 5
        have a13 : wA.cell? ⟨d, 13, none⟩ = some (.string r.data) := hA.hD.cell 13
        have f13 := hA.hD.frozen 13
        rw [hk] at a1
        rw [HO.out.1] at a4
        rw [HO.out.2] at a5
        obtain ⟨iI, x0, x1, x3⟩ := hA.dat hx
        have HA := Lib.hid (And.intro hA hbA)
        clear hA hbA hx
        go_upto_region 5 with (first | (go_at_call 126; with_reducible refine (hoff _).mono ?_; rintro e w' ⟨rfl, hb⟩; obtain ⟨p, rfl⟩ := hb.rest; clear hb) | (go_at_call 126; with_reducible refine (hnum _).mono ?_; rintro e w' ⟨rfl, hb⟩; obtain ⟨p, rfl⟩ := hb.rest; clear hb) | (go_at_call 115; refine (throw_no _ _).mono ?_; rintro e w' ⟨rfl, hb⟩; obtain ⟨p, rfl⟩ := hb.rest; clear hb))
        refine wp_region_eff [15, 19] true (fun w' => w'.cell? ⟨d, 4, none⟩ = some (.int .i64 o) ∧ w'.cell? ⟨d, 5, none⟩ = some (.int .i64 n) ∧ w'.cell? ⟨bi, K * 4 + 3, none⟩ = some (.string x.data)) (by kernel_rfl) (by kernel_rfl) ?_ ?_
        · (try dsimp only); (repeat' apply And.intro) <;> go_simp
        repeat
          refine wpL_look rfl rfl ?_
          apply Exists.intro
          refine ⟨?_, ?_⟩
          focus
            rintro w' ⟨s0, s1, s2⟩
            go_simp
            first | done | rfl
          simp only [Act.put, List.setIfInBounds_toArray, List.set_cons_zero, List.set_cons_succ]
        refine wpL_act rfl rfl ?_
        refine eff_call 127 #[.string x.data, .int .i64 o, .int .i64 n] ?hr ?_
        case hr =>
          go_simp
          first | done | rfl
        refine (hpc _).mono ?_
        rintro e w' ⟨rfl, hb⟩
        obtain ⟨q1, rfl⟩ := hb.rest
        clear hb
        refine ⟨_, rfl, .inl ?_, ?_⟩
        · (try dsimp only); (repeat' apply And.intro) <;> go_simp
        simp only [Act.put, List.setIfInBounds_toArray, List.set_cons_zero, List.set_cons_succ]
        repeat
          refine wpL_look rfl rfl ?_
          apply Exists.intro
          refine ⟨?_, ?_⟩
          focus
            rintro w' ⟨s0, s1, s2⟩
            go_simp
            first | done | rfl
          simp only [Act.put, List.setIfInBounds_toArray, List.set_cons_zero, List.set_cons_succ]
        refine wpL_skip rfl rfl ?_
        apply Exists.intro
        refine ⟨?_, .inr ⟨rfl, rfl⟩, ?_⟩
        focus
          go_simp
          rfl
        simp only [Act.put, List.setIfInBounds_toArray, List.set_cons_zero, List.set_cons_succ]
        refine wpL_end ?_
        clear a1 a4 a5 a13 f13 x0 x1 x3
        go_wp2_with fail
        have hbs : Below B w (wA.setCell ⟨d, 13, none⟩ (.string pc)) := (HA.out.2.mono hB).setCell (p := ⟨d, 13, none⟩) HA.out.1.hBd _
        exact bodyPost_end (v := .tuple #[]) (by simp [results, go_sem]) rfl ⟨hbs.trans ((bel _ _).mono (Nat.le_trans hB hbs.size)), rfl, ((HA.out.1.res (t := 13) (r' := { r with data := pc }) rfl rfl).below (bel _ _)).at_⟩
def sizeM (S : PSt) (c : PCall) (r : PRes) : Except Int (PSt × PRes) := match fileX S c with
  | none => .error 4
  | some y => .ok (S, { r with num := y.2.data.size })
set_option maxRecDepth 100000 in
set_option maxHeartbeats 4000000 in
theorem bytes_size (B d b : Nat) (S : PSt) (c : PCall) (r : PRes) (w : World) (h : DoAt B w d b S c r) (hB : B ≤ w.heap.size) (hf : Fine S) (hk : c.kind = 7) :
    Calls Tryz.prog 76 #[.pointer (some ⟨d, 0, none⟩)] w (RunOut B w d b c (sizeM S c r)) := by
  obtain ⟨bi, cap, ov, mv, nv, hP⟩ := h.part hf.pos
  have ht := hP.file hf
  have iD := hP.hD.lt
  unfold fileE at ht
  unfold sizeM
  generalize hX : fileX S c = X at ht ⊢
  rcases X with _ | ⟨K, x⟩
  · simp only at ht ⊢
    go_enter Tryz.func76, Tryz.ntmps76
    go_wp2_with (go_at_call 73; refine ht.mono ?_; rintro e w1 ⟨hb1, rfl⟩)
    exact ⟨rfl, hb1.mono hB, rfl⟩
  · simp only at ht ⊢
    obtain ⟨hx, hKl⟩ := fileX_at hX
    generalize idxM (isFd c) S.op = I at ht
    have HP := Lib.hid hP
    clear h hP hX
    go_enter Tryz.func76, Tryz.ntmps76
    go_upto_region 1 with (go_at_call 73; refine ht.mono ?_; rintro e w1 ⟨hb1, rfl⟩; have HB := Lib.hid hb1; clear hb1)
    refine abs_world (F := fun wA => DPart B wA d b bi cap ov mv nv S c r ∧ Below w.heap.size w wA) ⟨HP.out.below HB.out, HB.out⟩ ?_
    clear ht iD HP HB
    rintro wA ⟨hA, hbA⟩
    have iD := hA.hD.lt
    have a1 : wA.cell? ⟨d, 1, none⟩ = some (.int .i64 c.kind) := hA.hD.cell 1
    have a11 : wA.cell? ⟨d, 11, none⟩ = some (.int .i64 r.num) := hA.hD.cell 11
    have f11 := hA.hD.frozen 11
    rw [hk] at a1
    obtain ⟨iI, x0, x1, x3⟩ := hA.dat hx
    have HA := Lib.hid (And.intro hA hbA)
    clear hA hbA hx
    go_wp2_with fail
    exact bodyPost_end (v := .tuple #[]) (by simp [results, go_sem]) rfl ⟨(HA.out.2.mono hB).setCell (p := ⟨d, 11, none⟩) HA.out.1.hBd _, rfl, (HA.out.1.res (t := 11) (r' := { r with num := x.data.size }) rfl rfl).at_⟩
end Go.Proofs.YtjkenolgkkknaaaGreatDoor
/- doer.open. Conditions: none. -/
set_option linter.unusedVariables false
set_option linter.unusedSimpArgs false
namespace Go.Proofs.YtjkenolgkkknaaaGreatDoor
open Go.RowKit
/-- Where a path's walk ends. -/
def PathE (bi : Nat) (W : Nat × Int) (e : Ending) : Prop := (W.2 = 0 ∧ e = .returned (.pointer (some ⟨bi, W.1 * 4, none⟩))) ∨ (W.2 ≠ 0 ∧ e = thrown W.2)
theorem PathE.ok {bi K : Nat} {e : Ending} (h : PathE bi (K, 0) e) : e = .returned (.pointer (some ⟨bi, K * 4, none⟩)) := by
  rcases h with ⟨_, h⟩ | ⟨h, _⟩
  · exact h
  · exact absurd rfl h
theorem PathE.bad {bi K : Nat} {C : Int} {e : Ending} (h : PathE bi (K, C) e) (hC : C ≠ 0) : e = thrown C := by
  rcases h with ⟨h, _⟩ | ⟨_, h⟩
  · exact absurd h hC
  · exact h
section
variable {B : Nat} {w w' : World} {d b bi cap : Nat} {ov mv nv : Value} {S : PSt} {c : PCall} {r : PRes}
theorem DPart.path (h : DPart B w d b bi cap ov mv nv S c r) (hf : Fine S) (s : ByteArray) (hp : (parseM s).1 = 0) (hpl : (parseM s).2.length ≤ 1000000000) :
    Calls Tryz.prog 122 #[.pointer (some ⟨d, 0, none⟩), .string s] w fun e w' => Below w.heap.size w w' ∧ PathE bi (walkM S 0 (parseM s).2) e := by
  refine (at122 d b S c s w (DR.of_blk h.hD (SP.of_blk h.hb h.st.read)) hf hp hpl).mono ?_
  rintro e w' ⟨hb, ho⟩
  refine ⟨hb, ?_⟩
  rcases ho with ⟨hc, bi', off, cap', hc', rfl⟩ | ⟨hc, rfl⟩
  · have h0 := h.hb.cell 0
    simp only [List.getElem?_toArray, List.getElem?_cons_zero] at h0
    rw [h0] at hc'
    simp only [Option.some.injEq, Value.slice.injEq, Addr.mk.injEq] at hc'
    obtain ⟨⟨rfl, rfl, -⟩, -, -⟩ := hc'
    exact .inl ⟨hc, by rw [Nat.zero_add]⟩
  · exact .inr ⟨hc, rfl⟩
end
end Go.Proofs.YtjkenolgkkknaaaGreatDoor
/- doer.tell at List. Conditions: none. -/
set_option linter.unusedVariables false
set_option linter.unusedSimpArgs false
namespace Go.Proofs.YtjkenolgkkknaaaGreatDoor
open Go.RowKit
theorem OwnP.blk_of {B : Nat} {w : World} {e : TypeId} {k : Nat} {v : Value} {rows : List (List Value)} (h : OwnP B w e k v rows) {g : Nat} (hg : v.ownBlock = some g) : ∃ cc, Blk w g cc e := by
  rcases h with ⟨h0, _⟩ | ⟨g', cap', cur, h0, _, hb', _⟩
  · rw [h0] at hg; cases hg
  · rw [h0] at hg
    simp only [Value.ownBlock, Option.some.injEq] at hg
    subst hg
    exact ⟨_, hb'⟩
section
variable {B : Nat} {w w' : World} {d b bi cap : Nat} {ov mv nv : Value} {S : PSt} {c : PCall} {r : PRes}
theorem DPart.ents {K : Nat} {x : PIn} (h : DPart B w d b bi cap ov mv nv S c r) (hx : S.ins[K]? = some x) : ∃ ev, w.cell? ⟨bi, K * 4 + 2, none⟩ = some ev ∧ OwnP B w 99 2 ev (x.ents.map PEnt.cells) := by
  obtain ⟨_, _, is, h3, h4, h5, _⟩ := h.st
  obtain ⟨hl, _⟩ := List.getElem?_eq_some_iff.1 hx
  obtain ⟨rr, hrr⟩ : ∃ rr, is[K]? = some rr := ⟨_, List.getElem?_eq_getElem (by omega)⟩
  obtain ⟨a1, a2, a3, a4⟩ := h5 K rr x hrr hx
  refine ⟨rr.ev, ?_, a4⟩
  obtain ⟨a, c', he, hat⟩ := h3.row.at_
  obtain ⟨g, off, he2, _, _, hc⟩ := hat w (Below.refl _ _) K rr.cells (by rw [List.getElem?_map, hrr]; rfl)
  subst he2
  simp only [Value.slice.injEq, Option.some.injEq, Addr.mk.injEq] at he
  obtain ⟨⟨rfl, rfl, -⟩, -, -⟩ := he
  have := hc 2 _ rfl
  simpa using this
theorem DPart.named {s : ByteArray} {v' : Value} (h : DPart B w d b bi cap ov mv nv S c r) (hg : Grew B 9 1 w nv ((r.names ++ [s]).map strCells) v' w') : DPart B (w'.setCell ⟨d, 14, none⟩ v') d b bi cap ov mv v' S c { r with names := r.names ++ [s] } := by
  obtain ⟨ho, hk, hat⟩ := hg
  have hnb : ∀ {g : Nat} {cc : Array Value} {t : TypeId}, Blk w g cc t → t ≠ 9 → ¬ nv.ownBlock = some g := fun hb ht hg => h.nm.ne_blk hb (fun e => ht e.symm) hg rfl
  have hD := hk.blk h.hD (hnb h.hD (by decide))
  have hb := hk.blk h.hb (hnb h.hb (by decide))
  have hst := h.st.keep hk (fun g hg => by
    obtain ⟨cc, hcc⟩ := h.nm.blk_of hg
    exact ⟨_, 9, hcc, by decide, by decide, by decide, by decide⟩)
  have hKd : Keep (fun k => k = d) w' (w'.setCell ⟨d, 14, none⟩ v') := Keep.setCell (S := fun k => k = d) (p := ⟨d, 14, none⟩) (Keep.refl _ _) (.inl rfl) _
  refine ⟨h.hBb, h.hBd, ?_, hKd.blk hb (hb.ne_ hD (by decide)), hst.keep hKd (fun g hg => by rw [hg]; exact ⟨_, 82, hD, by decide, by decide, by decide, by decide⟩), ho.keep hKd (fun g hg => ho.ne_blk hD (by decide) hg)⟩
  exact hD.set_ 14 v'
theorem DPart.named_ents {rows : List (List Value)} {ev : Value} {s : ByteArray} {v' : Value} (h : DPart B w d b bi cap ov mv nv S c r) (hg : Grew B 9 1 w nv ((r.names ++ [s]).map strCells) v' w') (he : OwnP B w 99 2 ev rows) : OwnP B (w'.setCell ⟨d, 14, none⟩ v') 99 2 ev rows := by
  obtain ⟨ho, hk, hat⟩ := hg
  have h1 : OwnP B w' 99 2 ev rows := he.keep hk (fun g hg hh => by
    obtain ⟨cc, hcc⟩ := h.nm.blk_of hh
    exact he.ne_blk hcc (by decide) hg rfl)
  have hD := hk.blk h.hD (fun hh => by
    obtain ⟨cc, hcc⟩ := h.nm.blk_of hh
    exact h.hD.ne_ hcc (by decide) rfl)
  have hKd : Keep (fun k => k = d) w' (w'.setCell ⟨d, 14, none⟩ v') := Keep.setCell (S := fun k => k = d) (p := ⟨d, 14, none⟩) (Keep.refl _ _) (.inl rfl) _
  exact h1.keep hKd (fun g hg => h1.ne_blk hD (by decide) hg)
end
theorem take_succ_at {α : Type} {l : List α} {q : Nat} {x : α} (h : l[q]? = some x) : l.take (q + 1) = l.take q ++ [x] := by
  rw [List.take_add_one, h]
  rfl
def listM (S : PSt) (c : PCall) (r : PRes) : Except Int (PSt × PRes) :=
  if (walkM S 0 (parseM c.path).2).2 ≠ 0 then .error (walkM S 0 (parseM c.path).2).2 else
  match S.ins[(walkM S 0 (parseM c.path).2).1]? with
  | none => .ok (S, r)
  | some x => if x.dir = true then .ok (S, { r with names := r.names ++ x.ents.map PEnt.name }) else .error 7
set_option maxRecDepth 100000 in
set_option maxHeartbeats 8000000 in
theorem tell_list (B d b : Nat) (S : PSt) (c : PCall) (r : PRes) (w : World) (h : DoAt B w d b S c r) (hB : B ≤ w.heap.size) (hf : Fine S) (hk : c.kind = 12) (hrn : r.names.length ≤ 1000000000) (hp : (parseM c.path).1 = 0) (hpl : (parseM c.path).2.length ≤ 1000000000) :
    Calls Tryz.prog 80 #[.pointer (some ⟨d, 0, none⟩)] w (RunOut B w d b c (listM S c r)) := by
  obtain ⟨i9x, hi9, h90, h91, h92⟩ := info_parts info9
  obtain ⟨bi, cap, ov, mv, nv, hP⟩ := h.part hf.pos
  have ht := hP.path hf c.path hp hpl
  have hlt := walkM_lt hf (parseM c.path).2 0 hf.pos
  have iD := hP.hD.lt
  have d1 : w.cell? ⟨d, 1, none⟩ = some (.int .i64 c.kind) := hP.hD.cell 1
  have d6 : w.cell? ⟨d, 6, none⟩ = some (.string c.path) := hP.hD.cell 6
  rw [hk] at d1
  have HP := Lib.hid hP
  obtain ⟨RR, hRR⟩ : ∃ RR, listM S c r = RR := ⟨_, rfl⟩
  rw [hRR]
  unfold listM at hRR
  generalize walkM S 0 (parseM c.path).2 = W at ht hlt hRR
  obtain ⟨K, C⟩ := W
  simp only at hlt hRR
  clear h hP hp hpl
  by_cases hC : C = 0
  · subst hC
    rw [if_neg (by simp)] at hRR
    obtain ⟨x, hx⟩ : ∃ x, S.ins[K]? = some x := ⟨_, List.getElem?_eq_getElem hlt⟩
    rw [hx] at hRR
    simp only at hRR
    have hel : x.ents.length ≤ 1000000000 := (hf.wf.2.2.2.1 x (List.mem_of_getElem? hx)).2.1
    have HRR := Lib.hid hRR
    clear hRR
    go_enter Tryz.func80, Tryz.ntmps80
    go_upto_region 1 with (go_at_call 122; refine ht.mono ?_; rintro e w1 ⟨hb1, ho⟩; obtain rfl := ho.ok; have HB := Lib.hid hb1; clear hb1 ho)
    refine abs_world (F := fun wA => DPart B wA d b bi cap ov mv nv S c r ∧ Below w.heap.size w wA) ⟨HP.out.below HB.out, HB.out⟩ ?_
    clear ht iD HP HB d6 d1
    rintro wA ⟨hA, hbA⟩
    have iD := hA.hD.lt
    have d1 : wA.cell? ⟨d, 1, none⟩ = some (.int .i64 c.kind) := hA.hD.cell 1
    rw [hk] at d1
    obtain ⟨iI, x0, x1, x3⟩ := hA.dat hx
    obtain ⟨ev, x2, hev⟩ := hA.ents hx
    obtain ⟨xn, xd, xe, xdat⟩ := x
    simp only at x0 x1 x2 hev hel
    have HX := Lib.hid (And.intro hA (And.intro hbA hev))
    have HRR := Lib.hid (show (if xd = true then Except.ok (S, { r with names := r.names ++ xe.map PEnt.name }) else Except.error 7 : Except Int (PSt × PRes)) = RR from HRR.out)
    rcases xd with _ | _
    · obtain rfl : RR = .error 7 := by rw [← HRR.out]; rfl
      clear hA hbA hev hx x2 x3
      go_wp2_with (go_at_call 115; refine (throw_yes _ _).mono ?_; rintro e w' ⟨rfl, hb⟩; obtain ⟨p, rfl⟩ := hb.rest; clear hb)
      exact ⟨rfl, (HX.out.2.1.trans ((bel wA _).mono HX.out.2.1.size)).mono hB, rfl⟩
    · obtain rfl : RR = .ok (S, { r with names := r.names ++ xe.map PEnt.name }) := by rw [← HRR.out]; rfl
      obtain ⟨ae, ce, rfl, -⟩ := hev.row.at_
      rw [List.length_map] at x2
      have HX := Lib.hid (show DPart B wA d b bi cap ov mv nv S c r ∧ Below w.heap.size w wA ∧ OwnP B wA 99 2 (.slice ae xe.length ce) (xe.map PEnt.cells) by have h := HX.out; rw [List.length_map] at h; exact h)
      clear hA hbA hev hx x3 HRR
      go_wp2_with (go_at_call 115; refine (throw_no _ _).mono ?_; rintro e w' ⟨rfl, hb⟩; obtain ⟨p, rfl⟩ := hb.rest; clear hb)
      go_loopw [50] (fun v50 wr => ∃ (q : Nat) (nv' : Value), v50 = .int .i64 q ∧ q ≤ xe.length ∧ DPart B wr d b bi cap ov mv nv' S c { r with names := r.names ++ (xe.take q).map PEnt.name } ∧ OwnP B wr 99 2 (.slice ae xe.length ce) (xe.map PEnt.cells) ∧ Below B w wr) (fun v50 _ => (xe.length - intOf v50).toNat)
      case atStart => exact ⟨0, nv, rfl, by omega, by simpa using HX.out.1.below (bel wA (wA.junk p)), HX.out.2.2.keep (Keep.of_below (bel wA (wA.junk p)) (fun _ => False)) (fun _ _ h => h), (HX.out.2.1.trans ((bel wA (wA.junk p)).mono HX.out.2.1.size)).mono hB⟩
      case round =>
        obtain ⟨q, nv', rfl, hq, hP, hev, hb⟩ := hrel
        have iDr := hP.hD.lt
        by_cases hlt : q < xe.length
        · obtain ⟨e, he⟩ : ∃ e, xe[q]? = some e := ⟨_, List.getElem?_eq_getElem hlt⟩
          obtain ⟨a', c', e', hat⟩ := hev.row.at_
          simp only [Value.slice.injEq] at e'
          obtain ⟨rfl, -, rfl⟩ := e'
          obtain ⟨bo, off, rfl, iG0, iG, hc⟩ := hat wr (Below.refl _ _) q e.cells (by rw [List.getElem?_map, he]; rfl)
          have y0 := hc 0 _ rfl
          have y1 := hc 1 _ rfl
          rw [Nat.add_zero] at y0
          have d14 : wr.cell? ⟨d, 14, none⟩ = some nv' := hP.hD.cell 14
          have f14 := hP.hD.frozen 14
          have hnl : (r.names ++ (xe.take q).map PEnt.name).length ≤ 2000000000 := by simp; omega
          have hno := hP.nm.one
          obtain ⟨an, nn, cn, rfl⟩ := hP.nm.form
          have HR := Lib.hid (And.intro hP (And.intro hev (And.intro hb he)))
          have hqI : (q : Int) < xe.length := by omega
          have hBr : B ≤ wr.heap.size := by have := hP.hBd; have := iDr.lt; omega
          clear hP hev hb he hat hc
          go_upto_region 9 with fail
          refine abs_world (F := fun wz => DPart B wz d b bi cap ov mv (.slice an nn cn) S c { r with names := r.names ++ (xe.take q).map PEnt.name } ∧ OwnP B wz 99 2 (.slice (some ⟨bo, off, none⟩) xe.length ce) (xe.map PEnt.cells) ∧ Below B w wz ∧ Blk wz wr.heap.size #[.string e.name, .int .i64 e.num] 99) ⟨HR.out.1.below (bel wr _), HR.out.2.1.keep (Keep.of_below (bel wr _) (fun _ => False)) (fun _ _ h => h), HR.out.2.2.1.trans ((bel wr _).mono hBr), Blk.new _ _ _⟩ ?_
          obtain ⟨g4, hg4⟩ : ∃ g, wr.heap.size = g := ⟨_, rfl⟩
          rw [hg4]
          clear y0 y1 d14 f14 iG iDr
          rintro wz ⟨hP, hev, hb, h4⟩
          have iDz := hP.hD.lt
          have d14 : wz.cell? ⟨d, 14, none⟩ = some (.slice an nn cn) := hP.hD.cell 14
          have i4 := h4.lt
          have z0 := h4.cell 0
          simp at z0
          have hBz : B ≤ wz.heap.size := by have := hP.hBd; have := iDz.lt; omega
          have HZ := Lib.hid (And.intro hP (And.intro hev hb))
          have H4 := Lib.hid h4
          clear hP hev hb h4
          refine wp_region_eff [8, 9, 13] true (fun w' => w'.cell? ⟨d, 14, none⟩ = some (.slice an nn cn) ∧ w'.cell? ⟨g4, 0, none⟩ = some (.string e.name)) (by kernel_rfl) (by kernel_rfl) ?_ ?_
          · (try dsimp only); (repeat' apply And.intro) <;> go_simp
          repeat
            refine wpL_look rfl rfl ?_
            apply Exists.intro
            refine ⟨?_, ?_⟩
            focus
              rintro w' ⟨s0, s1⟩
              go_simp
              first | done | rfl
            simp only [Act.put, List.setIfInBounds_toArray, List.set_cons_zero, List.set_cons_succ]
          refine wpL_do rfl rfl ?_
          apply Exists.intro
          apply Exists.intro
          refine ⟨?_, ?_, ?_⟩
          focus
            go_simp
            exact ⟨rfl, rfl⟩
          focus
            refine .inl ?_
            (try dsimp only); (repeat' apply And.intro) <;> go_simp
          simp only [Act.put, List.setIfInBounds_toArray, List.set_cons_zero, List.set_cons_succ]
          refine wpL_act rfl rfl ?_
          refine eff_append_P (.tmp 59) (.tmp 62) 44 ?e00 B 9 1 16 i9x _ Tryz.underlying44 hi9 h90 h91 h92 ?e9 ?e10 (.slice an nn cn) (.slice (some ⟨wz.heap.size, 0, none⟩) 1 1) ((r.names ++ (xe.take q).map PEnt.name).map strCells) [strCells e.name] ?e1 ?e3 ?e2 ?e4 ?e5 ?e6 ?e11 ?e12 ?e13 ?e14 ?_
          case e00 => rfl
          case e9 => rfl
          case e10 => decide
          case e1 => rfl
          case e3 => rfl
          case e2 => exact str_len _
          case e4 => intro cs hcs; simp at hcs; subst hcs; rfl
          case e5 => intro cs hcs u hu; simp at hcs; subst hcs; simp [strCells] at hu; subst hu; rfl
          case e6 => exact (HZ.out.1.below (bel wz (wz.drew.alloc (Obj.cells #[.string e.name] 9)))).nm
          case e11 => exact RowAt.single (Blk.new wz.drew #[.string e.name] 9) 1 1
          case e12 => rw [List.length_map]; unfold maxLen; simp at hnl ⊢; omega
          case e13 => rw [List.length_map]; simp at hnl ⊢; omega
          case e14 => simp; omega
          intro v' w5 hg5
          have hP1 := HZ.out.1.below (bel wz (wz.drew.alloc (Obj.cells #[.string e.name] 9)))
          have hg6 : Grew B 9 1 (wz.drew.alloc (Obj.cells #[.string e.name] 9)) (.slice an nn cn) ((({ r with names := r.names ++ (xe.take q).map PEnt.name } : PRes).names ++ [e.name]).map strCells) v' w5 := by
            rw [List.map_append]
            exact hg5
          have hfin := hP1.named hg6
          have hevf := hP1.named_ents hg6 (HZ.out.2.1.keep (Keep.of_below (bel wz (wz.drew.alloc (Obj.cells #[.string e.name] 9))) (fun _ => False)) (fun _ _ h => h))
          have hnb : ∀ {g : Nat} {cc : Array Value} {t : TypeId}, Blk (wz.drew.alloc (Obj.cells #[.string e.name] 9)) g cc t → t ≠ 9 → ¬ (Value.slice an nn cn).ownBlock = some g := fun hb ht hg => hP1.nm.ne_blk hb (fun e => ht e.symm) hg rfl
          have hD5 := hg5.2.1.blk hP1.hD (hnb hP1.hD (by decide))
          have t14 : w5.cell? ⟨d, 14, none⟩ = some (.slice an nn cn) := hD5.cell 14
          have ft14 := hD5.frozen 14
          have iD5 := hD5.lt
          obtain ⟨va, vn, vc, rfl⟩ := hg5.1.form
          have hbf : Below B w (w5.setCell ⟨d, 14, none⟩ (.slice va vn vc)) := (HZ.out.2.2.trans (((bel wz (wz.drew.alloc (Obj.cells #[.string e.name] 9))).mono hBz).trans (hg5.2.1.below (by simp; omega) (fun i hi h => by have := hP1.nm.ge h; omega)))).setCell (p := ⟨d, 14, none⟩) HZ.out.1.hBd _
          have h45 := hg5.2.1.blk (blk_on H4.out (bel wz (wz.drew.alloc (Obj.cells #[.string e.name] 9)))) (hnb (blk_on H4.out (bel wz (wz.drew.alloc (Obj.cells #[.string e.name] 9)))) (by decide))
          have t4 : w5.cell? ⟨g4, 0, none⟩ = some (.string e.name) := by have := h45.cell 0; simpa using this
          have i45 := h45.lt
          have HF := Lib.hid (And.intro hfin (And.intro hevf hbf))
          clear hg5 hg6 hfin hevf hbf hP1 hnb hD5 h45
          refine ⟨.inl ⟨t14, t4⟩, ?_⟩
          simp only [Act.put, List.setIfInBounds_toArray, List.set_cons_zero, List.set_cons_succ]
          repeat
            refine wpL_look rfl rfl ?_
            apply Exists.intro
            refine ⟨?_, ?_⟩
            focus
              rintro w' ⟨s0, s1⟩
              go_simp
              first | done | rfl
            simp only [Act.put, List.setIfInBounds_toArray, List.set_cons_zero, List.set_cons_succ]
          refine wpL_skip rfl rfl ?_
          apply Exists.intro
          refine ⟨?_, .inr ⟨rfl, rfl⟩, ?_⟩
          focus
            go_simp
            rfl
          simp only [Act.put, List.setIfInBounds_toArray, List.set_cons_zero, List.set_cons_succ]
          refine wpL_end ?_
          clear t14 ft14 t4 i45 d14 i4 z0 iDz
          go_wp2_with fail
          go_roundw
          case rel => exact ⟨q + 1, _, by go_num, by omega, by have h := HF.out.1; rw [show (({ r with names := r.names ++ (xe.take q).map PEnt.name } : PRes).names ++ [e.name]) = r.names ++ (xe.take (q + 1)).map PEnt.name by rw [take_succ_at HR.out.2.2.2]; simp] at h; exact h, HF.out.2.1, HF.out.2.2⟩
          case measure => simp [intOf]; omega
        · have hqe : q = xe.length := by omega
          subst hqe
          rw [List.take_of_length_le (Nat.le_refl _)] at hP
          have HR := Lib.hid (And.intro hP hb)
          clear hP hb hev
          go_wp2_with fail
          exact bodyPost_end (v := .tuple #[]) (by simp [results, go_sem]) rfl ⟨HR.out.2, rfl, HR.out.1.at_⟩
  · rw [if_pos hC] at hRR
    subst hRR
    go_enter Tryz.func80, Tryz.ntmps80
    go_wp2_with (go_at_call 122; refine ht.mono ?_; rintro e w1 ⟨hb1, ho⟩; obtain rfl := ho.bad hC)
    exact ⟨rfl, hb1.mono hB, rfl⟩
end Go.Proofs.YtjkenolgkkknaaaGreatDoor
/- Stat, List and Links where the path is refused; Links. Conditions: none. -/
set_option linter.unusedVariables false
set_option linter.unusedSimpArgs false
namespace Go.Proofs.YtjkenolgkkknaaaGreatDoor
open Go.RowKit
theorem parse_len {s : ByteArray} (h : (parseM s).1 = 0) : (parseM s).2.length ≤ 4 := by
  unfold parseM at h ⊢
  by_cases h1 : 64 < s.size
  · rw [if_pos h1] at h; cases h
  · rw [if_neg h1] at h ⊢
    by_cases h2 : 0 < s.size
    · rw [dif_pos h2] at h ⊢
      by_cases h3 : (((s[0]'h2).toNat : Int) == 47) = false
      · rw [if_pos h3] at h; cases h
      · rw [if_neg h3] at h ⊢
        by_cases h4 : s.size = 1
        · rw [if_pos h4]; exact Nat.zero_le _
        · rw [if_neg h4] at h ⊢
          simp only at h ⊢
          generalize parseFrom s (s ++ ⟨#[47]⟩) (s ++ ⟨#[47]⟩ : ByteArray).size 0 1 [] = r at h ⊢
          by_cases h5 : r.1 = 0 ∧ 4 < r.2.length
          · rw [if_pos h5] at h; cases h
          · rw [if_neg h5] at h ⊢
            omega
    · rw [dif_neg h2] at h; cases h
set_option maxRecDepth 100000 in
set_option maxHeartbeats 2000000 in
theorem tell_x (B d b : Nat) (S : PSt) (c : PCall) (r : PRes) (w : World) (h : DoAt B w d b S c r) (hB : B ≤ w.heap.size) (hp : (parseM c.path).1 ≠ 0) :
    Calls Tryz.prog 80 #[.pointer (some ⟨d, 0, none⟩)] w (RunOut B w d b c (.error (codeM (parseM c.path).1))) := by
  have hat : ∀ ww, Below w.heap.size w ww → Calls Tryz.prog 122 #[.pointer (some ⟨d, 0, none⟩), .string c.path] ww _ := fun ww hb => at122x d b S c c.path ww (h.read.below hb (Nat.le_refl _)) hp
  obtain ⟨iv, ov, mv, nv, hBb, hBd, hD, hbk, hst, hnv⟩ := h
  have iD := hD.lt
  have d6 : w.cell? ⟨d, 6, none⟩ = some (.string c.path) := hD.cell 6
  clear hD hbk hst hnv
  go_enter Tryz.func80, Tryz.ntmps80
  go_wp2_with (go_at_call 122; refine (hat _ (bel _ _)).mono ?_; rintro e w1 ⟨rfl, hb1⟩)
  exact ⟨rfl, hb1.mono hB, rfl⟩
def countM (S : PSt) (c : PCall) (r : PRes) : Except Int (PSt × PRes) :=
  if (walkM S 0 (parseM c.path).2).2 ≠ 0 then .error (walkM S 0 (parseM c.path).2).2 else
  match S.ins[(walkM S 0 (parseM c.path).2).1]? with
  | none => .ok (S, r)
  | some x => if x.dir = true then .error 8 else .ok (S, { r with num := linksM S x.num })
set_option maxRecDepth 100000 in
set_option maxHeartbeats 8000000 in
theorem tell_links (B d b : Nat) (S : PSt) (c : PCall) (r : PRes) (w : World) (h : DoAt B w d b S c r) (hB : B ≤ w.heap.size) (hf : Fine S) (hk : c.kind = 14) (hp : (parseM c.path).1 = 0) :
    Calls Tryz.prog 80 #[.pointer (some ⟨d, 0, none⟩)] w (RunOut B w d b c (countM S c r)) := by
  obtain ⟨bi, cap, ov, mv, nv, hP⟩ := h.part hf.pos
  have ht := hP.path hf c.path hp (Nat.le_trans (parse_len hp) (by decide))
  have hlt := walkM_lt hf (parseM c.path).2 0 hf.pos
  have iD := hP.hD.lt
  have d1 : w.cell? ⟨d, 1, none⟩ = some (.int .i64 c.kind) := hP.hD.cell 1
  have d6 : w.cell? ⟨d, 6, none⟩ = some (.string c.path) := hP.hD.cell 6
  rw [hk] at d1
  have HP := Lib.hid hP
  obtain ⟨RR, hRR⟩ : ∃ RR, countM S c r = RR := ⟨_, rfl⟩
  rw [hRR]
  unfold countM at hRR
  generalize walkM S 0 (parseM c.path).2 = W at ht hlt hRR
  obtain ⟨K, C⟩ := W
  simp only at hlt hRR
  clear h hP hp
  by_cases hC : C = 0
  · subst hC
    rw [if_neg (by simp)] at hRR
    obtain ⟨x, hx⟩ : ∃ x, S.ins[K]? = some x := ⟨_, List.getElem?_eq_getElem hlt⟩
    rw [hx] at hRR
    simp only at hRR
    have HRR := Lib.hid hRR
    clear hRR
    go_enter Tryz.func80, Tryz.ntmps80
    go_upto_region 1 with (go_at_call 122; refine ht.mono ?_; rintro e w1 ⟨hb1, ho⟩; obtain rfl := ho.ok; have HB := Lib.hid hb1; clear hb1 ho)
    refine abs_world (F := fun wA => DPart B wA d b bi cap ov mv nv S c r ∧ Below w.heap.size w wA) ⟨HP.out.below HB.out, HB.out⟩ ?_
    clear ht iD HP HB d6 d1
    rintro wA ⟨hA, hbA⟩
    have iD := hA.hD.lt
    have iL := hA.hb.lt
    have d1 : wA.cell? ⟨d, 1, none⟩ = some (.int .i64 c.kind) := hA.hD.cell 1
    rw [hk] at d1
    obtain ⟨iI, x0, x1, x3⟩ := hA.dat hx
    have HX := Lib.hid (And.intro hA hbA)
    generalize hdd : x.dir = xd at x1
    rcases xd with _ | _
    · obtain rfl : RR = .ok (S, { r with num := linksM S x.num }) := by rw [← HRR.out, hdd]; rfl
      have d0 : wA.cell? ⟨d, 0, none⟩ = some (.pointer (some ⟨b, 0, none⟩)) := hA.hD.cell 0
      have d11 : wA.cell? ⟨d, 11, none⟩ = some (.int .i64 r.num) := hA.hD.cell 11
      have f11 := hA.hD.frozen 11
      have b0 : wA.cell? ⟨b, 0, none⟩ = some (.slice (some ⟨bi, 0, none⟩) S.ins.length cap) := hA.hb.cell 0
      have b1 : wA.cell? ⟨b, 1, none⟩ = some ov := hA.hb.cell 1
      have b2 : wA.cell? ⟨b, 2, none⟩ = some mv := hA.hb.cell 2
      have hov := hA.st.read.1.one
      have hmv := hA.st.read.2.1.one
      have hcl : ∀ ww, Below wA.heap.size wA ww → Calls Tryz.prog 82 #[.agg #[.slice (some ⟨bi, 0, none⟩) S.ins.length cap, ov, mv], .int .i64 x.num] ww fun e w' => e = .returned (.int .i64 (linksM S x.num)) ∧ Below ww.heap.size ww w' := fun ww hb => links82 _ ov mv S x.num ww (hA.st.read.below hb (Nat.le_refl _)) hf.wf
      obtain ⟨ln, hln⟩ : ∃ l, linksM S x.num = l := ⟨_, rfl⟩
      rw [hln] at hcl
      have HLN := Lib.hid hln
      clear hln
      clear hA hbA hx HRR hdd x3
      go_upto_region 3 with (go_at_call 115; refine (throw_no _ _).mono ?_; rintro e w' ⟨rfl, hb⟩; obtain ⟨p, rfl⟩ := hb.rest; clear hb)
      refine wp_region_eff [11, 15] true (fun w' => w'.cell? ⟨d, 0, none⟩ = some (.pointer (some ⟨b, 0, none⟩)) ∧ w'.cell? ⟨b, 0, none⟩ = some (.slice (some ⟨bi, 0, none⟩) S.ins.length cap) ∧ w'.cell? ⟨b, 1, none⟩ = some ov ∧ w'.cell? ⟨b, 2, none⟩ = some mv ∧ w'.cell? ⟨bi, K * 4, none⟩ = some (.int .i64 x.num)) (by kernel_rfl) (by kernel_rfl) ?_ ?_
      · (try dsimp only); (repeat' apply And.intro) <;> go_simp
      repeat
        refine wpL_look rfl rfl ?_
        apply Exists.intro
        refine ⟨?_, ?_⟩
        focus
          rintro w' ⟨s0, s1, s2, s3, s4⟩
          go_simp
          first | done | rfl
        simp only [Act.put, List.setIfInBounds_toArray, List.set_cons_zero, List.set_cons_succ]
      refine wpL_act rfl rfl ?_
      refine eff_call 82 #[.agg #[.slice (some ⟨bi, 0, none⟩) S.ins.length cap, ov, mv], .int .i64 x.num] ?hr ?_
      case hr =>
        go_simp
        first | done | rfl
      refine (hcl _ (bel _ _)).mono ?_
      rintro e w' ⟨rfl, hb⟩
      obtain ⟨q1, rfl⟩ := hb.rest
      clear hb
      refine ⟨_, rfl, .inl ?_, ?_⟩
      · (try dsimp only); (repeat' apply And.intro) <;> go_simp
      simp only [Act.put, List.setIfInBounds_toArray, List.set_cons_zero, List.set_cons_succ]
      repeat
        refine wpL_look rfl rfl ?_
        apply Exists.intro
        refine ⟨?_, ?_⟩
        focus
          rintro w' ⟨s0, s1, s2, s3, s4⟩
          go_simp
          first | done | rfl
        simp only [Act.put, List.setIfInBounds_toArray, List.set_cons_zero, List.set_cons_succ]
      refine wpL_skip rfl rfl ?_
      apply Exists.intro
      refine ⟨?_, .inr ⟨rfl, rfl⟩, ?_⟩
      focus
        go_simp
        rfl
      simp only [Act.put, List.setIfInBounds_toArray, List.set_cons_zero, List.set_cons_succ]
      refine wpL_end ?_
      clear d0 d1 d11 f11 b0 b1 b2 x0 x1
      go_wp2_with fail
      have hln := HLN.out
      subst hln
      have hbs : Below B w (wA.setCell ⟨d, 11, none⟩ (.int .i64 (linksM S x.num : Nat))) := (HX.out.2.mono hB).setCell (p := ⟨d, 11, none⟩) HX.out.1.hBd _
      exact bodyPost_end (v := .tuple #[]) (by simp [results, go_sem]) rfl ⟨hbs.trans ((bel _ _).mono (Nat.le_trans hB hbs.size)), rfl, ((HX.out.1.res (t := 11) (r' := { r with num := linksM S x.num }) rfl rfl).below (bel _ _)).at_⟩
    · obtain rfl : RR = .error 8 := by rw [← HRR.out, hdd]; rfl
      clear hA hbA hx x3 hdd
      go_wp2_with (go_at_call 115; refine (throw_yes _ _).mono ?_; rintro e w' ⟨rfl, hb⟩; obtain ⟨p, rfl⟩ := hb.rest; clear hb)
      exact ⟨rfl, (HX.out.2.trans ((bel wA _).mono HX.out.2.size)).mono hB, rfl⟩
  · rw [if_pos hC] at hRR
    subst hRR
    go_enter Tryz.func80, Tryz.ntmps80
    go_wp2_with (go_at_call 122; refine ht.mono ?_; rintro e w1 ⟨hb1, ho⟩; obtain rfl := ho.bad hC)
    exact ⟨rfl, hb1.mono hB, rfl⟩
end Go.Proofs.YtjkenolgkkknaaaGreatDoor
/- Calls that look alone, done: whatever they look at. Conditions: none. -/
set_option linter.unusedVariables false
set_option linter.unusedSimpArgs false
namespace Go.Proofs.YtjkenolgkkknaaaGreatDoor
open Go.RowKit
set_option maxRecDepth 100000 in
set_option maxHeartbeats 4000000 in
theorem run_told (B d b : Nat) (S : PSt) (c : PCall) (r : PRes) (w : World) (h : DoAt B w d b S c r) (hk : c.kind = 12 ∨ c.kind = 13 ∨ c.kind = 14) (R : Except Int (PSt × PRes)) (ht : Calls Tryz.prog 80 #[.pointer (some ⟨d, 0, none⟩)] w (RunOut B w d b c R)) :
    Calls Tryz.prog 41 #[.pointer (some ⟨d, 0, none⟩)] w (RunOut B w d b c R) := by
  obtain ⟨iD, d1⟩ := h.kind
  rcases hk with hk | hk | hk
  all_goals
    rw [hk] at d1
    clear h
    rcases R with k | ⟨S', r'⟩
    all_goals (go_enter Tryz.func41, Tryz.ntmps41)
    · go_wp2_with (go_at_call 80; refine ht.mono ?_; rintro e w1 ⟨hb1, hr1⟩; obtain rfl : e = thrown k := hr1)
      exact ⟨rfl, hb1, rfl⟩
    · go_wp2_with (go_at_call 80; refine ht.mono ?_; rintro e w1 ⟨hb1, hr1⟩; have hr2 : e = .returned (.tuple #[]) ∧ DoAt B w1 d b S' c r' := hr1; clear hr1; obtain ⟨rfl, hd1⟩ := hr2; have HD := Lib.hid hd1; clear hd1)
      exact bodyPost_end (v := .tuple #[]) (by simp [results, go_sem]) rfl ⟨hb1, rfl, HD.out⟩
/-- What a call that looks alone comes to. -/
def lookM (S : PSt) (c : PCall) : Except Int (PSt × PRes) :=
  if c.kind = 4 then readM S c PRes.zero else if c.kind = 7 then sizeM S c PRes.zero else
  if (parseM c.path).1 ≠ 0 then .error (codeM (parseM c.path).1) else
  if c.kind = 12 then listM S c PRes.zero else if c.kind = 13 then statM S c PRes.zero else countM S c PRes.zero
/-- Does a call look alone? -/
def Looks (c : PCall) : Prop := c.kind = 4 ∨ c.kind = 7 ∨ c.kind = 12 ∨ c.kind = 13 ∨ c.kind = 14
theorem may_data {S : PSt} (h : mayM S = true) : ∀ x ∈ S.ins, x.data.size ≤ 256 := by
  intro x hx
  unfold mayM at h
  split at h
  · rename_i h1
    simp only [Bool.and_eq_true] at h1
    have h2 := h1.1.2
    unfold mayInsM at h2
    split at h2
    · rename_i e
      rw [e] at hx
      cases hx
    · rename_i y r e
      split at h2
      · split at h2
        · rw [Bool.and_eq_true] at h2
          have h3 := List.all_eq_true.1 h2.2 x hx
          unfold inB at h3
          split at h3
          · rw [Bool.and_eq_true] at h3
            have h4 := h3.1
            rw [ByteArray.toList_eq] at h4
            have : x.data.size = 0 := by
              have h5 := List.isEmpty_iff.1 h4
              have := congrArg List.length h5
              simpa using this
            omega
          · simp only [Bool.and_eq_true, decide_eq_true_eq] at h3
            exact h3.2
        · cases h2
      · cases h2
  · cases h
theorem look_same {S : PSt} {c : PCall} (hc : Looks c) : (doM S c (lookM S c)).1 = S := by
  unfold doM
  split
  · rcases e : lookM S c with k | ⟨S', r'⟩
    · rfl
    · show S' = S
      unfold lookM at e
      split at e
      · unfold readM at e
        split at e
        · cases e
        · split at e
          · cases e; rfl
          · cases e
      split at e
      · unfold sizeM at e
        split at e
        · cases e
        · cases e; rfl
      split at e
      · cases e
      split at e
      · unfold listM at e
        split at e
        · cases e
        · split at e
          · cases e; rfl
          · split at e
            · cases e; rfl
            · cases e
      split at e
      · unfold statM at e
        split at e
        · cases e
        · split at e
          · cases e; rfl
          · cases e; rfl
      · unfold countM at e
        split at e
        · cases e
        · split at e
          · cases e; rfl
          · split at e
            · cases e
            · cases e; rfl
  · rfl
theorem did_look {S : PSt} {c : PCall} (hwf : S.wf) (hc : Looks c) : Did S c S (doM S c (lookM S c)).2 := by
  refine did_of (lookM S c) hwf (Prod.ext (look_same hc) rfl) fun hm B ww d b hd hB => ?_
  have hmay := (mayc_may hm).1
  have hf := fine_of_may hwf hmay
  have hdat := may_data hmay
  unfold lookM
  by_cases k4 : c.kind = 4
  · rw [if_pos k4]
    exact run_bytes B d b S c PRes.zero ww hd (.inl k4) _ (bytes_read B d b S c PRes.zero ww hd hB hf k4 fun x hx => by have := hdat x hx; omega)
  rw [if_neg k4]
  by_cases k7 : c.kind = 7
  · rw [if_pos k7]
    exact run_bytes B d b S c PRes.zero ww hd (.inr (.inr k7)) _ (bytes_size B d b S c PRes.zero ww hd hB hf k7)
  rw [if_neg k7]
  have hk : c.kind = 12 ∨ c.kind = 13 ∨ c.kind = 14 := by
    rcases hc with h | h | h | h | h
    · exact absurd h k4
    · exact absurd h k7
    · exact .inl h
    · exact .inr (.inl h)
    · exact .inr (.inr h)
  refine run_told B d b S c PRes.zero ww hd hk _ ?_
  by_cases hp : (parseM c.path).1 = 0
  · rw [if_neg (by simpa using hp)]
    have hl := parse_len hp
    rcases hk with k | k | k
    · rw [if_pos k]
      exact tell_list B d b S c PRes.zero ww hd hB hf k (by simp [PRes.zero]) hp (by omega)
    · rw [if_neg (by omega), if_pos k]
      exact tell_stat B d b S c PRes.zero ww hd hB hf k hp (by omega)
    · rw [if_neg (by omega), if_neg (by omega)]
      exact tell_links B d b S c PRes.zero ww hd hB hf k hp
  · rw [if_pos hp]
    exact tell_x B d b S c PRes.zero ww hd hB hp
end Go.Proofs.YtjkenolgkkknaaaGreatDoor
/- A state that may be is a tree; its shape is not long. Conditions: none. -/
set_option linter.unusedVariables false
set_option linter.unusedSimpArgs false
namespace Go.Proofs.YtjkenolgkkknaaaGreatDoor
open Go.RowKit
theorem numsB_at {made : List Int} : ∀ (l : List Int) (p : Int), numsB made p l = true → (∀ (i : Nat) (x : Int), l[i]? = some x → p < x ∧ mayNumM made x = true) ∧ Rise l
  | [], p, _ => ⟨fun i x h => by simp at h, fun i j x y h => by simp at h⟩
  | n :: r, p, h => by
    unfold numsB at h
    split at h
    · cases h
    · rename_i h1
      split at h
      · cases h
      · rename_i h2
        obtain ⟨h3, h4⟩ := numsB_at r n h
        refine ⟨fun i x hx => ?_, fun i j x y hx hy hij => ?_⟩
        · rcases i with _ | i
          · simp at hx; subst hx
            exact ⟨by omega, by simpa using h2⟩
          · have := h3 i x (by simpa using hx)
            exact ⟨by omega, this.2⟩
        · rcases j with _ | j
          · omega
          · rcases i with _ | i
            · simp at hx; subst hx
              exact (h3 j y (by simpa using hy)).1
            · exact h4 i j x y (by simpa using hx) (by simpa using hy) (by omega)
theorem rise_ge {ns : List Int} (h : Rise ns) : ∀ (i : Nat) (x y : Int), ns[0]? = some x → ns[i]? = some y → x + i ≤ y
  | 0, x, y, hx, hy => by rw [hx] at hy; have := Option.some.inj hy; omega
  | i + 1, x, y, hx, hy => by
    obtain ⟨hl, _⟩ := List.getElem?_eq_some_iff.1 hy
    have hz : ns[i]? = some ns[i] := List.getElem?_eq_getElem (by omega)
    have h1 := rise_ge h i x _ hx hz
    have h2 := h i (i + 1) _ _ hz hy (by omega)
    omega
theorem name_small {s : ByteArray} (h : nameB s = true) : s.size ≤ 12 := by
  unfold nameB checkM at h
  by_cases e : 12 < s.size
  · rw [if_pos e] at h; cases h
  · omega
theorem set_sum : ∀ (sl : List Int) (k : Nat) (x : Int), sl[k]? = some x → (sl.set k (x + 1)).sum = sl.sum + 1
  | [], k, x, h => by simp at h
  | y :: r, 0, x, h => by
    simp at h; subst h
    simp only [List.set_cons_zero, List.sum_cons]
    omega
  | y :: r, k + 1, x, h => by
    simp only [List.set_cons_succ, List.sum_cons]
    rw [set_sum r k x (by simpa using h)]
    omega
theorem sum_le4 : ∀ (sl : List Int), (∀ x ∈ sl, x ≤ 4) → sl.sum ≤ 4 * sl.length
  | [], _ => by simp
  | x :: r, h => by
    have h1 := sum_le4 r fun y hy => h y (List.mem_cons_of_mem _ hy)
    have h2 := h x List.mem_cons_self
    simp only [List.sum_cons, List.length_cons]
    omega
theorem entsB_all {ns : List Int} : ∀ (es : List PEnt) (prev : Option ByteArray) (sl : List Int), entsB ns prev sl es = true → (∀ x ∈ sl, x ≤ 4) → (∀ e ∈ es, e.name.size ≤ 12 ∧ e.num ≠ 1 ∧ 0 ≤ findN ns e.num) ∧ es.length + sl.sum ≤ 4 * sl.length
  | [], _, sl, _, h4 => ⟨fun e he => (by cases he), by have := sum_le4 sl h4; simp; omega⟩
  | e :: r, prev, sl, h, h4 => by
    unfold entsB at h
    split at h
    · cases h
    rename_i h1
    split at h
    · cases h
    split at h
    · cases h
    rename_i h3
    split at h
    · cases h
    rename_i h5
    rcases hs : sl[(bucketM e.name).toNat]? with _ | x
    · rw [hs] at h; cases h
    · rw [hs] at h
      simp only at h
      split at h
      · cases h
      · rename_i h6
        obtain ⟨a1, a2⟩ := entsB_all r _ _ h (fun y hy => by
          rcases List.mem_or_eq_of_mem_set hy with hy | hy
          · exact h4 y hy
          · omega)
        rw [set_sum sl _ x hs, List.length_set] at a2
        refine ⟨fun e' he => ?_, by simp only [List.length_cons]; omega⟩
        rcases List.mem_cons.1 he with rfl | he
        · exact ⟨name_small (by simpa using h1), h3, by omega⟩
        · exact a1 e' he
theorem lkI_append (n : Int) : ∀ (xs ys : List PIn) (a : Int), lkI n (xs ++ ys) a = lkI n ys (lkI n xs a)
  | [], _, _ => rfl
  | x :: r, ys, a => by
    show lkI n (r ++ ys) _ = _
    rw [lkI_append n r ys]
    rfl
theorem lkE_count {S : PSt} (hr : Rise S.nums) {j : Nat} {y : PIn} (hj : S.ins[j]? = some y) : ∀ (es : List PEnt) (a : Int), (∀ e ∈ es, 0 ≤ atR S e.num) → lkE y.num es a = a + (((es.map fun e => (atR S e.num).toNat).count j : Nat) : Int)
  | [], a, _ => by simp [lkE]
  | e :: r, a, h => by
    unfold lkE
    rw [lkE_count hr hj r _ fun e' he => h e' (List.mem_cons_of_mem _ he), List.map_cons, List.count_cons]
    have he := h e List.mem_cons_self
    by_cases e1 : e.num = y.num
    · rw [if_pos (by simpa using e1)]
      have : (atR S e.num).toNat = j := by rw [e1, atR_hit hr hj]; simp
      rw [this]
      simp
      omega
    · rw [if_neg (by simpa using e1)]
      have : ((atR S e.num).toNat == j) = false := by
        rw [beq_eq_false_iff_ne]
        intro e2
        rcases atR_cases S e.num with ⟨k, x, hk, e3⟩ | ⟨_, e3⟩
        · rw [← e3, atR_hit hr hk] at e2
          have : k = j := by omega
          subst this
          rw [hk] at hj
          cases hj
          exact e1 e3.symm
        · omega
      rw [this]
      simp
theorem lkI_sum {S : PSt} (hr : Rise S.nums) (hf : ∀ x ∈ S.ins, ∀ e ∈ x.ents, 0 ≤ atR S e.num) {j : Nat} {y : PIn} (hj : S.ins[j]? = some y) : ∀ m, m ≤ S.ins.length → lkI y.num (S.ins.take m) 0 = ((sumU (fun k => (kidsI S k).count j) m : Nat) : Int)
  | 0, _ => rfl
  | m + 1, hm => by
    have hx : S.ins[m]? = some (S.ins[m]'(by omega)) := List.getElem?_eq_getElem (by omega)
    rw [List.take_add_one, hx]
    simp only [Option.toList_some]
    rw [lkI_append, lkI_sum hr hf hj m (by omega)]
    rw [show sumU (fun k => (kidsI S k).count j) (m + 1) = sumU (fun k => (kidsI S k).count j) m + (kidsI S m).count j from rfl]
    show (if (S.ins[m]'(by omega)).dir = true then lkE y.num (S.ins[m]'(by omega)).ents _ else _) = _
    have hk : kidsI S m = if (S.ins[m]'(by omega)).dir = true then (S.ins[m]'(by omega)).ents.map fun e => (atR S e.num).toNat else [] := by unfold kidsI; rw [hx]
    rw [hk]
    split
    · rw [lkE_count hr hj _ _ (hf _ (List.getElem_mem (by omega)))]
      omega
    · simp
theorem mayLoop_at {many : List Int} {found : List Bool} {op : List PDesc} : ∀ (xs : List PIn) (i j : Nat) (x : PIn), mayLoop many found op i xs = true → xs[j]? = some x → x.dir = true → i + j ≠ 0 → many.getD (i + j) 0 = 1
  | [], _, _, _, _, h, _, _ => by simp at h
  | y :: r, i, 0, x, h, hx, hd, hn => by
    simp at hx; subst hx
    unfold mayLoop at h
    rw [if_neg (by omega)] at h
    split at h
    · cases h
    · rename_i h1
      rw [hd] at h1
      simp only [Bool.true_and, Bool.or_eq_true, Bool.not_eq_true', not_or, beq_eq_false_iff_ne] at h1
      have := h1.1
      exact Classical.not_not.1 this
  | y :: r, i, j + 1, x, h, hx, hd, hn => by
    have hr : mayLoop many found op (i + 1) r = true := by
      unfold mayLoop at h
      split at h
      · exact h
      · split at h
        · cases h
        · split at h
          · cases h
          · exact h
    have := mayLoop_at r (i + 1) j x hr (by simpa using hx) hd (by omega)
    rw [show i + (j + 1) = i + 1 + j by omega]
    exact this
theorem tree_of_may {S : PSt} (hwf : S.wf) (hm : mayM S = true) : Tree S := by
  have hdata := may_data hm
  unfold mayM at hm
  split at hm
  rotate_left
  · cases hm
  rename_i h1
  simp only [Bool.and_eq_true] at h1
  obtain ⟨⟨hmade, hins⟩, hop⟩ := h1
  unfold mayInsM at hins
  rcases e : S.ins with _ | ⟨x0, r⟩
  · rw [e] at hins; cases hins
  rw [e] at hins
  simp only at hins
  split at hins
  rotate_left
  · cases hins
  rename_i hn0
  split at hins
  rotate_left
  · cases hins
  rename_i hd0
  rw [← e, Bool.and_eq_true, List.all_eq_true] at hins
  obtain ⟨hnb, hall⟩ := hins
  obtain ⟨n1, n2⟩ := numsB_at _ _ hnb
  have hnums : S.nums = 1 :: r.map PIn.num := by unfold PSt.nums; rw [e, List.map_cons, hn0]
  have hr : Rise S.nums := by
    rw [hnums]
    intro i j x y hx hy hij
    rcases j with _ | j
    · omega
    · rcases i with _ | i
      · simp at hx; subst hx
        exact (n1 j y (by simpa using hy)).1
      · exact n2 i j x y (by simpa using hx) (by simpa using hy) (by omega)
  have hx0 : S.ins[0]? = some x0 := by rw [e]; rfl
  have hents : ∀ x ∈ S.ins, (∀ e ∈ x.ents, e.name.size ≤ 12 ∧ e.num ≠ 1 ∧ 0 ≤ findN S.nums e.num) ∧ x.ents.length ≤ 32 ∧ (x.dir = false → x.ents = []) := fun x hx => by
    have := hall x hx
    unfold inB at this
    split at this
    · rename_i hd
      rw [Bool.and_eq_true] at this
      obtain ⟨a1, a2⟩ := entsB_all x.ents none [0, 0, 0, 0, 0, 0, 0, 0] this.2 (fun y hy => by simp at hy; omega)
      refine ⟨a1, by simp at a2; omega, fun h => by rw [hd] at h; cases h⟩
    · simp only [Bool.and_eq_true, decide_eq_true_eq] at this
      have h0 := List.eq_nil_of_length_eq_zero this.1
      rw [h0]
      exact ⟨fun e he => (by cases he), by simp, fun _ => rfl⟩
  have hfound : ∀ x ∈ S.ins, ∀ e ∈ x.ents, 0 ≤ atR S e.num ∧ atR S e.num < S.ins.length := fun x hx e' he => by
    have h2 := ((hents x hx).1 e' he).2.2
    rw [find_atR hr] at h2
    have := atR_bounds S e'.num
    omega
  have hlen : S.ins.length ≤ 257 := by
    apply Classical.byContradiction
    intro hl
    obtain ⟨v, hy⟩ : ∃ v, S.nums[257]? = some v := ⟨_, List.getElem?_eq_getElem (by unfold PSt.nums; rw [List.length_map]; omega)⟩
    have h2 := rise_ge hr 257 1 _ (by rw [hnums]; rfl) hy
    have h3 : (r.map PIn.num)[256]? = some v := by
      rw [hnums] at hy
      simpa using hy
    have h4 := (n1 256 _ h3).2
    unfold mayNumM at h4
    rw [if_neg (by omega)] at h4
    split at h4
    · rename_i m hmk
      simp only [decide_eq_true_eq] at h4
      unfold mayMadeM at hmade
      simp only [Bool.and_eq_true, Bool.not_eq_true', List.any_eq_false] at hmade
      have h5 := hmade.2 m (List.mem_of_getElem? hmk)
      unfold badMade at h5
      simp only [Bool.or_eq_true, decide_eq_true_eq, not_or] at h5
      omega
    · cases h4
  refine ⟨hr, by rw [e]; simp, hlen, hfound, fun k hk => ?_, fun j x hx hd hj => ?_, fun x hx => (hents x hx).2.1, fun x hx e' he => ((hents x hx).1 e' he).1, hdata⟩
  · unfold kidsI at hk
    split at hk
    · rename_i x hx
      split at hk
      · obtain ⟨e', he, h0⟩ := List.mem_map.1 hk
        have hxm := List.mem_of_getElem? hx
        have hf := hfound x hxm e' he
        rcases atR_cases S e'.num with ⟨k2, y, hk2, e3⟩ | ⟨_, e3⟩
        · rw [← e3, atR_hit hr hk2] at h0
          have : k2 = 0 := by omega
          subst this
          rw [hx0] at hk2
          cases hk2
          exact ((hents x hxm).1 e' he).2.1 (by rw [← e3]; exact hn0)
        · omega
      · cases hk
    · cases hk
  · have h2 := mayLoop_at S.ins 0 j x hm hx hd (by omega)
    rw [Nat.zero_add] at h2
    have h0 : (List.replicate S.ins.length (0 : Int)).getD j 0 = 0 := by
      rw [List.getD_eq_getElem?_getD, List.getElem?_replicate]; split <;> rfl
    have hel : entsLen S.ins < 9000000000000000000 := by
      have key : ∀ (xs : List PIn), (∀ x ∈ xs, x.ents.length ≤ 32) → entsLen xs ≤ xs.length * 32 := by
        intro xs
        induction xs with
        | nil => intro _; simp [entsLen]
        | cons x r ih =>
          intro hx
          have h1 := ih fun y hy => hx y (List.mem_cons_of_mem _ hy)
          have h2 := hx x List.mem_cons_self
          simp only [entsLen, List.map_cons, List.sum_cons, List.length_cons] at h1 ⊢
          omega
      have := key S.ins fun x hx => (hents x hx).2.1
      omega
    have h3 := manyM_at hr (nums_at hx) S.ins (List.replicate S.ins.length 0) (by simp [PSt.nums]) (fun x hx e' he => ((hents x hx).1 e' he).2.2) (fun x hx => (hents x hx).2.2) (by rw [h0]; omega) (by rw [h0]; omega)
    unfold manyOf at h2
    rw [h3, h0] at h2
    have h4 := lkI_sum hr (fun x hx e' he => (hfound x hx e' he).1) hx S.ins.length (Nat.le_refl _)
    rw [List.take_length, h2] at h4
    omega
/-- The walk of a state that may be ends. -/
theorem may_ok {S : PSt} (hwf : S.wf) (hm : mayM S = true) : wlkOk S 258 1 = true := by
  have T := tree_of_may hwf hm
  have hf := fine_of_may hwf hm
  have h1 : atR S 1 = 0 := by
    have hx : S.ins[0]? = some (S.ins[0]'T.pos) := List.getElem?_eq_getElem T.pos
    have hn : (S.ins[0]'T.pos).num = 1 := by
      unfold mayM at hm
      split at hm
      · rename_i h1
        simp only [Bool.and_eq_true] at h1
        have h2 := h1.1.2
        unfold mayInsM at h2
        split at h2
        · cases h2
        · rename_i x r e
          split at h2
          · rename_i h3
            simp only [e, List.getElem_cons_zero]
            exact h3
          · cases h2
      · cases hm
    have := atR_hit T.rise hx
    rw [hn] at this
    simpa using this
  refine T.ok 258 1 (by omega) (by have := T.pos; omega) ?_
  rw [h1]
  exact T.ends
theorem sum_map_le {α : Type} (f : α → Nat) (c : Nat) : ∀ (l : List α), (∀ x ∈ l, f x ≤ c) → (l.map f).sum ≤ l.length * c
  | [], _ => by simp
  | x :: r, h => by
    have h1 := sum_map_le f c r fun y hy => h y (List.mem_cons_of_mem _ hy)
    have h2 := h x List.mem_cons_self
    simp only [List.map_cons, List.sum_cons, List.length_cons, Nat.add_mul, Nat.one_mul]
    omega
theorem may_shape {S : PSt} (hwf : S.wf) (hm : mayM S = true) : (shapeT S 258).length ≤ 1000000000000 := by
  have T := tree_of_may hwf hm
  refine Nat.le_trans (shape_le hwf (may_ok hwf hm)) ?_
  unfold shLen
  have h1 := T.len 258 1 0
  have h2 : cntN S 258 (atR S 1).toNat ≤ 258 * 8225 := by
    have h3 : (atR S 1).toNat = 0 := by
      have := may_ok hwf hm
      rcases Nat.lt_or_ge 0 (atR S 1).toNat with h4 | h4
      · exfalso
        have hx : S.ins[0]? = some (S.ins[0]'T.pos) := List.getElem?_eq_getElem T.pos
        have hn : (S.ins[0]'T.pos).num = 1 := by
          unfold mayM at hm
          split at hm
          · rename_i h1
            simp only [Bool.and_eq_true] at h1
            have h2 := h1.1.2
            unfold mayInsM at h2
            split at h2
            · cases h2
            · rename_i x r e
              split at h2
              · rename_i h3
                simp only [e, List.getElem_cons_zero]
                exact h3
              · cases h2
          · cases hm
        have := atR_hit T.rise hx
        rw [hn] at this
        omega
      · omega
    rw [h3, cntN_lev]
    have h5 := sumU_mono (f := fun i => (levL S i [0]).length) (g := fun _ => 8225) (n := 258) fun i _ => T.lev_len i
    rw [sumU_const] at h5
    exact h5
  have h3 := Nat.le_trans h1 (Nat.mul_le_mul_right _ h2)
  have h4 := sum_map_le (fun x : PIn => 2 * x.data.size + 40) 552 S.ins fun x hx => by have := T.data x hx; omega
  have h5 := sum_map_le (fun _ : PDesc => 80) 80 S.op fun _ _ => Nat.le_refl _
  have h6 := sum_map_le (fun _ : Int => 22) 22 S.made fun _ _ => Nat.le_refl _
  have h7 := T.small
  have h8 := hwf.2.1
  have h9 := hwf.2.2.1
  have h10 : S.op.length * 80 ≤ 1000000000 * 80 := Nat.mul_le_mul_right _ h8
  have h11 : S.made.length * 22 ≤ 1000000000 * 22 := Nat.mul_le_mul_right _ h9
  have h12 : S.ins.length * 552 ≤ 257 * 552 := Nat.mul_le_mul_right _ h7
  omega
end Go.Proofs.YtjkenolgkkknaaaGreatDoor
/- Calls that look alone commute: Commute answers what 'asked' answers. Conditions: none. -/
set_option linter.unusedVariables false
set_option linter.unusedSimpArgs false
namespace Go.Proofs.YtjkenolgkkknaaaGreatDoor
open Go.RowKit
theorem eqL_refl : ∀ l : List ByteArray, eqL l l = true
  | [] => rfl
  | x :: r => by
    unfold eqL
    rw [if_pos (by simp)]
    exact eqL_refl r
theorem eqNames_refl (l : List ByteArray) : eqNames l l = true := by
  unfold eqNames
  rw [eqL_refl]
  simp
theorem sameM_refl (a : PRes) : sameM a a = true := by
  unfold sameM
  rw [eqNames_refl]
  simp
theorem look_names {S : PSt} (hwf : S.wf) (c : PCall) : (doM S c (lookM S c)).2.names.length ≤ 1000000000 := by
  unfold doM
  split
  rotate_left
  · exact Nat.zero_le _
  rcases e : lookM S c with k | ⟨S', r'⟩
  · exact Nat.zero_le _
  · show r'.names.length ≤ _
    have z : (PRes.zero.names).length = 0 := rfl
    unfold lookM at e
    split at e
    · unfold readM at e
      split at e
      · cases e
      · split at e
        · cases e; exact Nat.zero_le _
        · cases e
    split at e
    · unfold sizeM at e
      split at e
      · cases e
      · cases e; exact Nat.zero_le _
    split at e
    · cases e
    split at e
    · unfold listM at e
      split at e
      · cases e
      · split at e
        · cases e; exact Nat.zero_le _
        · rename_i x hx
          split at e
          · cases e
            show (PRes.zero.names ++ x.ents.map PEnt.name).length ≤ _
            rw [List.length_append, z, List.length_map]
            have := (hwf.2.2.2.1 x (List.mem_of_getElem? hx)).2.1
            omega
          · cases e
    split at e
    · unfold statM at e
      split at e
      · cases e
      · split at e
        · cases e; exact Nat.zero_le _
        · cases e; exact Nat.zero_le _
    · unfold countM at e
      split at e
      · cases e
      · split at e
        · cases e; exact Nat.zero_le _
        · split at e
          · cases e
          · cases e; exact Nat.zero_le _
theorem commute_looks (iv ov mv : Value) {S : PSt} {x y : PCall} (w : World) (h : StRead w iv ov mv S) (hwf : S.wf) (hx : Looks x) (hy : Looks y) (hp : Laid w.heap.size Pow10 w) :
    Calls Tryz.prog 9 #[.agg #[iv, ov, mv], x.val, y.val] w fun e w' => e = .returned (.bool (askedM S x y)) ∧ Below w.heap.size w w' := by
  rcases ha : askedM S x y with _ | _
  · exact commute_not iv ov mv S x y w h hwf ha
  · have hm : mayM S = true := by
      unfold askedM at ha
      simp only [Bool.and_eq_true] at ha
      first | exact ha.1 | exact ha.1.1 | exact ha.1.1.1
    have hd : ∀ z ∈ S.ins, z.data.size ≤ 1000000 := fun z hz => by have := may_data hm z hz; omega
    have := commute_yes iv ov mv S S S S S x y _ _ _ _ true w h hwf ha (did_look hwf hx) (did_look hwf hy) (did_look hwf hy) (did_look hwf hx) (look_names hwf x) (look_names hwf y) (fun _ _ ww iv ov mv iv' ov' mv' hb h1 h2 => same22 iv ov mv iv' ov' mv' S 258 ww h1 h2 hwf hm hd (may_ok hwf hm) (may_shape hwf hm) ((hp.below hb).up hb.size))
    rw [sameM_refl, sameM_refl] at this
    exact this
end Go.Proofs.YtjkenolgkkknaaaGreatDoor
