/- Part of the proof that the calls that look alone commute. Conditions: none. -/
import Derived.Test.YtjkenolgkkknaaaGreatDoorLp34
set_option linter.unusedVariables false
set_option linter.unusedSimpArgs false
set_option maxRecDepth 100000
set_option maxHeartbeats 8000000
/- A view as it lies in memory, and what its walk turns. Conditions: none. -/
set_option linter.unusedVariables false
set_option linter.unusedSimpArgs false
namespace Go.Proofs.YtjkenolgkkknaaaGreatDoor
open Go.RowKit
/-- A view's other parts. -/
structure VX where
  c : PCall
  fine : Bool
  tv : Value
  bytes : Int
  counts : Int
  gone : Int
def vwCells (p : Nat) (X : VX) (lv mv : Value) : Array Value :=
  #[.pointer (some ⟨p, 0, none⟩), .int .i64 X.c.kind, .int .i64 X.c.core, .int .i64 X.c.fd, .int .i64 X.c.off, .int .i64 X.c.num, .string X.c.path, .string X.c.path2, .string X.c.data, .bool X.fine, lv, X.tv, mv, .int .i64 X.bytes, .int .i64 X.counts, .int .i64 X.gone]
structure VwOwn (B : Nat) (w : World) (k p b3 : Nat) (c3 : Array Value) (X : VX) (L : List (Int × Int)) (M : List Int) (lv mv : Value) : Prop where
  hB : B ≤ k
  ex : Blk w b3 c3 91
  ne3 : lv.ownBlock ≠ some b3
  blk : Blk w k (vwCells p X lv mv) 62
  lo : w.ownsRow B 91 2 lv L.length (L.map prCells).flatten
  mo : w.ownsRow B 3 1 mv M.length (M.map (Value.int .i64))
theorem own_ne_own {w : World} {B B' : Nat} {e e' : TypeId} {s s' n n' : Nat} {v v' : Value} {xs xs' : List Value} (h : w.ownsRow B e s v n xs) (h' : w.ownsRow B' e' s' v' n' xs') (hne : e ≠ e') {g : Nat} (hg : v'.ownBlock = some g) : v.ownBlock ≠ some g := by
  rcases h'.2 with ⟨rfl, _⟩ | ⟨g', cap, cur, rfl, _, hh, _⟩
  · simp [Value.ownBlock] at hg
  · have : g' = g := by simpa [Value.ownBlock] using hg
    subst this
    exact own_ne_blk h (c := cur) (t := e') hh hne
theorem VwOwn.keep {B : Nat} {w w' : World} {k p b3 : Nat} {c3 : Array Value} {X : VX} {L : List (Int × Int)} {M : List Int} {lv mv : Value} (h : VwOwn B w k p b3 c3 X L M lv mv) {S : Nat → Prop} (hk : Keep S w w') (h1 : ¬ S k) (h2 : ∀ g, lv.ownBlock = some g → ¬ S g) (h3 : ∀ g, mv.ownBlock = some g → ¬ S g) (h6 : ¬ S b3) : VwOwn B w' k p b3 c3 X L M lv mv :=
  ⟨h.hB, hk.blk h.ex h6, h.ne3, hk.blk h.blk h1, hk.own h.lo h2, hk.own h.mo h3⟩
theorem VwOwn.below {B : Nat} {w w' : World} {k p b3 : Nat} {c3 : Array Value} {X : VX} {L : List (Int × Int)} {M : List Int} {lv mv : Value} (h : VwOwn B w k p b3 c3 X L M lv mv) (hb : Below w.heap.size w w') : VwOwn B w' k p b3 c3 X L M lv mv :=
  h.keep (Keep.of_below hb (fun _ => False)) id (fun _ _ => id) (fun _ _ => id) id
/-- A view that is walked: with the pair's block, the names. -/
structure VF (B k p b3 : Nat) (c3 : Array Value) (b4 : Nat) (X : VX) (nv : Value) (names : List ByteArray) (L : List (Int × Int)) (M : List Int) (last : Int × Int) (lv mv : Value) (w : World) : Prop where
  vw : VwOwn B w k p b3 c3 X L M lv mv
  n34 : b3 ≠ b4
  pr : Blk w b4 #[.int .i64 last.1, .int .i64 last.2] 91
  ge : B ≤ b4
  ne : lv.ownBlock ≠ some b4
  nm : w.ownsRow 0 9 1 nv names.length (names.map Value.string)
section
variable {B k p b3 b4 : Nat} {c3 : Array Value} {X : VX} {nv : Value} {names : List ByteArray} {L : List (Int × Int)} {M : List Int} {last : Int × Int} {lv mv : Value} {w w' w1 : World}
theorem VF.keep (h : VF B k p b3 c3 b4 X nv names L M last lv mv w) {S : Nat → Prop} (hk : Keep S w w') (h1 : ¬ S k) (h2 : ∀ g, lv.ownBlock = some g → ¬ S g) (h3 : ∀ g, mv.ownBlock = some g → ¬ S g) (h4 : ¬ S b4) (h5 : ∀ g, nv.ownBlock = some g → ¬ S g) (h6 : ¬ S b3) : VF B k p b3 c3 b4 X nv names L M last lv mv w' :=
  ⟨h.vw.keep hk h1 h2 h3 h6, h.n34, hk.blk h.pr h4, h.ge, h.ne, hk.own h.nm h5⟩
theorem VF.below (h : VF B k p b3 c3 b4 X nv names L M last lv mv w) (hb : Below w.heap.size w w') : VF B k p b3 c3 b4 X nv names L M last lv mv w' :=
  h.keep (Keep.of_below hb (fun _ => False)) id (fun _ _ => id) (fun _ _ => id) id (fun _ _ => id) id
/-- What a row's growing and a cell of the view may turn. -/
def Turned (k : Nat) (v : Value) (b : Nat) : Prop := b = k ∨ v.ownBlock = some b
theorem keep_grown (hg : w.grownBy w1 lv.ownBlock) (k i : Nat) (x : Value) : Keep (Turned k lv) w (w1.setCell ⟨k, i, none⟩ x) :=
  Keep.setCell (S := Turned k lv) (p := ⟨k, i, none⟩) ((Keep.refl _ w).grown hg (fun g hg => .inl (.inr hg))) (.inl (.inl rfl)) _
theorem own_set {e : TypeId} {s n : Nat} {v : Value} {xs : List Value} {c : Array Value} (h : w.ownsRow B e s v n xs) (hb : Blk w k c 62) (hne : e ≠ 62) (i : Nat) (x : Value) : (w.setCell ⟨k, i, none⟩ x).ownsRow B e s v n xs :=
  Keep.own (S := fun b => b = k) (Keep.setCell (S := fun b => b = k) (p := ⟨k, i, none⟩) (Keep.refl _ w) (.inl rfl) _) h (fun g hg hgk => by
    have := own_ne_blk h hb hne
    rw [hg, hgk] at this
    exact this rfl)
theorem VF.looks (h : VF B k p b3 c3 b4 X nv names L M last lv mv w) {lv' : Value} {q : Int × Int} (hg : w.grownBy w1 lv.ownBlock) (hown : w1.ownsRow B 91 2 lv' (L.length + 1) ((L.map prCells).flatten ++ prCells q)) (hl : lv'.ownBlock = lv.ownBlock ∨ lv'.ownBlock = some w.heap.size) :
    VF B k p b3 c3 b4 X nv names (L ++ [q]) M last lv' mv (w1.setCell ⟨k, 10, none⟩ lv') := by
  have hkp := keep_grown (lv := lv) hg k 10 lv'
  have hnk := own_ne_blk h.vw.lo h.vw.blk (by decide)
  have hb4k : b4 ≠ k := h.pr.ne_ h.vw.blk (by decide)
  have hblk1 : Blk w1 k (vwCells p X lv mv) 62 := (hg.block k h.vw.blk.lt.lt (fun e => hnk e.symm)).trans h.vw.blk
  have hb3k : b3 ≠ k := h.vw.ex.ne_ h.vw.blk (by decide)
  refine ⟨⟨h.vw.hB, hkp.blk h.vw.ex ?_, ?_, ?_, ?_, ?_⟩, h.n34, hkp.blk h.pr ?_, h.ge, ?_, hkp.own h.nm ?_⟩
  · rintro (hT | hT)
    · exact hb3k hT
    · exact h.vw.ne3 hT
  · rcases hl with hl | hl
    · rw [hl]; exact h.vw.ne3
    · rw [hl]
      intro e
      have := h.vw.ex.lt.lt
      simp only [Option.some.injEq] at e
      omega
  · have := hblk1.set_ 10 lv'
    simpa [vwCells] using this
  · have := own_set hown hblk1 (by decide) 10 lv'
    simpa using this
  · refine hkp.own h.vw.mo (fun g hg hT => ?_)
    rcases hT with rfl | hT
    · exact own_ne_blk h.vw.mo h.vw.blk (by decide) hg
    · exact own_ne_own h.vw.lo h.vw.mo (by decide) hg hT
  · rintro (hT | hT)
    · exact hb4k hT
    · exact h.ne hT
  · rcases hl with hl | hl
    · rw [hl]; exact h.ne
    · rw [hl]
      intro e
      have := h.pr.lt.lt
      simp only [Option.some.injEq] at e
      omega
  · intro g hg hT
    rcases hT with rfl | hT
    · exact own_ne_blk h.nm h.vw.blk (by decide) hg
    · exact own_ne_own h.vw.lo h.nm (by decide) hg hT
theorem VF.met (h : VF B k p b3 c3 b4 X nv names L M last lv mv w) {mv' : Value} {n : Int} (hg : w.grownBy w1 mv.ownBlock) (hown : w1.ownsRow B 3 1 mv' (M.length + 1) (M.map (Value.int .i64) ++ [.int .i64 n])) :
    VF B k p b3 c3 b4 X nv names L (M ++ [n]) last lv mv' (w1.setCell ⟨k, 12, none⟩ mv') := by
  have hkp := keep_grown (lv := mv) hg k 12 mv'
  have hnk := own_ne_blk h.vw.mo h.vw.blk (by decide)
  have hb4k : b4 ≠ k := h.pr.ne_ h.vw.blk (by decide)
  have hblk1 : Blk w1 k (vwCells p X lv mv) 62 := (hg.block k h.vw.blk.lt.lt (fun e => hnk e.symm)).trans h.vw.blk
  have hb3k : b3 ≠ k := h.vw.ex.ne_ h.vw.blk (by decide)
  refine ⟨⟨h.vw.hB, hkp.blk h.vw.ex ?_, h.vw.ne3, ?_, ?_, ?_⟩, h.n34, hkp.blk h.pr ?_, h.ge, h.ne, hkp.own h.nm ?_⟩
  · rintro (hT | hT)
    · exact hb3k hT
    · exact own_ne_blk h.vw.mo h.vw.ex (by decide) hT
  · have := hblk1.set_ 12 mv'
    simpa [vwCells] using this
  · refine hkp.own h.vw.lo (fun g hg hT => ?_)
    rcases hT with rfl | hT
    · exact own_ne_blk h.vw.lo h.vw.blk (by decide) hg
    · exact own_ne_own h.vw.mo h.vw.lo (by decide) hg hT
  · have := own_set hown hblk1 (by decide) 12 mv'
    simpa using this
  · rintro (hT | hT)
    · exact hb4k hT
    · exact own_ne_blk h.vw.mo h.pr (by decide) hT
  · intro g hg hT
    rcases hT with rfl | hT
    · exact own_ne_blk h.nm h.vw.blk (by decide) hg
    · exact own_ne_own h.vw.mo h.nm (by decide) hg hT
theorem VF.lastSet (h : VF B k p b3 c3 b4 X nv names L M last lv mv w) (q : Int × Int) :
    VF B k p b3 c3 b4 X nv names L M q lv mv ((w.setCell ⟨b4, 0, none⟩ (.int .i64 q.1)).setCell ⟨b4, 1, none⟩ (.int .i64 q.2)) := by
  have hkp : Keep (fun b => b = b4) w ((w.setCell ⟨b4, 0, none⟩ (.int .i64 q.1)).setCell ⟨b4, 1, none⟩ (.int .i64 q.2)) :=
    Keep.setCell (S := fun b => b = b4) (p := ⟨b4, 1, none⟩) (Keep.setCell (S := fun b => b = b4) (p := ⟨b4, 0, none⟩) (Keep.refl _ w) (.inl rfl) _) (.inl rfl) _
  have hb4k : b4 ≠ k := h.pr.ne_ h.vw.blk (by decide)
  refine ⟨h.vw.keep hkp (fun e => hb4k e.symm) (fun g hg e => h.ne (by rw [hg, e])) (fun g hg e => ?_) h.n34, h.n34, ?_, h.ge, h.ne, hkp.own h.nm (fun g hg e => ?_)⟩
  · subst e
    exact own_ne_blk h.vw.mo h.pr (by decide) hg
  · have := (h.pr.set_ 0 (.int .i64 q.1)).set_ 1 (.int .i64 q.2)
    simpa using this
  · subst e
    exact own_ne_blk h.nm h.pr (by decide) hg
end
theorem turned_below {B k i : Nat} {v x : Value} {w w1 : World} (hg : w.grownBy w1 v.ownBlock) (hB : B ≤ w.heap.size) (hk : B ≤ k) (hv : ∀ g, v.ownBlock = some g → B ≤ g) : Below B w (w1.setCell ⟨k, i, none⟩ x) :=
  (keep_grown (lv := v) hg k i x).below hB (fun b hb hT => by
    rcases hT with rfl | hT
    · omega
    · have := hv b hT; omega)
/-- A walk's end: the last name's pair, the number; what it looks at, what it goes through. -/
structure VRes where
  last : Int × Int
  num : Int
  L : List (Int × Int)
  M : List Int
def vwalkF (S : PSt) : List ByteArray → (Int × Int) → Int → List (Int × Int) → List Int → VRes
  | [], last, num, L, M => ⟨last, num, L, M⟩
  | n :: r, last, num, L, M => match S.ins[(idxM (isNum num) S.ins).toNat]? with
    | none => ⟨(0, 0), 0, L, M⟩
    | some x => if x.dir = false then ⟨(0, 0), 0, L, M⟩ else
      if idxM (isName n) x.ents < 0 then ⟨if r.isEmpty = true then (num, bucketM n) else last, 0, L ++ [(num, bucketM n)], M⟩ else
      match x.ents[(idxM (isName n) x.ents).toNat]? with
      | none => ⟨(0, 0), 0, L, M⟩
      | some e => vwalkF S r (if r.isEmpty = true then (num, bucketM n) else last) e.num (L ++ [(num, bucketM n)]) (M ++ [e.num])
def linkedB (S : PSt) : Bool := decide (0 ≤ idxM (isNum 1) S.ins) && S.ins.all fun x => x.ents.all fun e => decide (0 ≤ idxM (isNum e.num) S.ins)
end Go.Proofs.YtjkenolgkkknaaaGreatDoor
