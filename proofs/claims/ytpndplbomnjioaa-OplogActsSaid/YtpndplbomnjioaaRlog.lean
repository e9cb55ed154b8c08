/- A log of cores apart from what else was made beside it: New, Add, Merge, Last over it. Conditions: none. -/
import Derived.Test.YtpndplbomnjioaaMerge
set_option linter.unusedVariables false
namespace Go.Proofs.Ytpndplbomnjioaa
open Go.RowKit
/-- Blocks behind B that are none of ex. -/
def Out (B : Nat) (ex : List Nat) (b : Nat) : Prop := B ≤ b ∧ b ∉ ex
/-- A log of n cores that holds the records rs (lc: the last counts); all of it lies behind B, in no block of ex. -/
def RLog (B : Nat) (ex : List Nat) (w : World) (L n : Nat) (rs : Nat → List Rec) (lc : Nat → Int) : Prop :=
  ∃ A T tc rv tv, LogAt B w L A T n tc rv tv (lenOf rs) (fun j => recs (rs j)) lc ∧ L ∉ ex ∧ A ∉ ex ∧ T ∉ ex ∧ ∀ (j : Nat) (v : Value) (b : Nat), rv[j]? = some v → v.ownBlock = some b → b ∉ ex
namespace RLog
variable {B : Nat} {ex : List Nat} {w w' : World} {L n : Nat} {rs : Nat → List Rec} {lc : Nat → Int}
theorem below (h : RLog B ex w L n rs lc) (hb : Below w.heap.size w w') : RLog B ex w' L n rs lc := by
  obtain ⟨A, T, tc, rv, tv, h, h1, h2, h3, h4⟩ := h
  exact ⟨A, T, tc, rv, tv, h.below hb, h1, h2, h3, h4⟩
theorem row_lt {A T tc : Nat} {rv tv : Array Value} {ms : Nat → Nat} {xs : Nat → List Value} (h : LogAt B w L A T n tc rv tv ms xs lc) {j : Nat} {v : Value} {b : Nat} (hv : rv[j]? = some v) (hb : v.ownBlock = some b) : b < w.heap.size ∧ B ≤ b := by
  have hj : j < n := by have := (Array.getElem?_eq_some_iff.1 hv).1; have := h.szA; omega
  obtain ⟨a, cp, e, ho, hB⟩ := h.row j hj
  rw [hv] at e
  injection e with e
  subst e
  exact ⟨own_lt ho hb, hB b hb⟩
/-- Whatever touches only blocks of ex, and makes new ones. -/
theorem keep (h : RLog B ex w L n rs lc) (hk : Keep (fun b => b ∈ ex) w w') : RLog B ex w' L n rs lc := by
  obtain ⟨A, T, tc, rv, tv, h, h1, h2, h3, h4⟩ := h
  refine ⟨A, T, tc, rv, tv, ⟨hk.blk h.hL h1, hk.blk h.hA h2, hk.blk h.hT h3, h.bL, h.bA, h.bT, h.n8, h.szA, h.szT, h.t0, h.t1, fun j hj => ?_, h.far⟩, h1, h2, h3, h4⟩
  obtain ⟨a, cp, e1, e2, e3⟩ := h.row j hj
  exact ⟨a, cp, e1, hk.own e2 (fun b hb hx => h4 j _ b e1 hb hx), e3⟩
theorem alloc (h : RLog B ex w L n rs lc) (o : Obj) : RLog B ex (w.alloc o) L n rs lc := h.keep ((Keep.refl _ w).alloc o)
theorem junk (h : RLog B ex w L n rs lc) (p : Behind) : RLog B ex (w.junk p) L n rs lc := h.keep ((Keep.refl _ w).junk p)
theorem drew (h : RLog B ex w L n rs lc) : RLog B ex w.drew L n rs lc := h.keep (Keep.refl _ w).drew
theorem set_ (h : RLog B ex w L n rs lc) {a : Addr} (ha : a.block ∈ ex) (v : Value) : RLog B ex (w.setCell a v) L n rs lc := h.keep ((Keep.refl _ w).setCell (.inl ha) v)
/-- A block that is not there yet may be named. -/
theorem more (h : RLog B ex w L n rs lc) {y : Nat} (hy : w.heap.size ≤ y) : RLog B (y :: ex) w L n rs lc := by
  obtain ⟨A, T, tc, rv, tv, h, h1, h2, h3, h4⟩ := h
  have a1 := h.hL.lt.lt
  have a2 := h.hA.lt.lt
  have a3 := h.hT.lt.lt
  refine ⟨A, T, tc, rv, tv, h, ?_, ?_, ?_, fun j v b hv hb => ?_⟩
  · intro e
    rcases List.mem_cons.1 e with e | e
    · omega
    · exact h1 e
  · intro e
    rcases List.mem_cons.1 e with e | e
    · omega
    · exact h2 e
  · intro e
    rcases List.mem_cons.1 e with e | e
    · omega
    · exact h3 e
  · have := row_lt h hv hb
    intro e
    rcases List.mem_cons.1 e with e | e
    · omega
    · exact h4 j v b hv hb e
theorem less (h : RLog B ex w L n rs lc) {ex' : List Nat} (hs : ∀ x ∈ ex', x ∈ ex) : RLog B ex' w L n rs lc := by
  obtain ⟨A, T, tc, rv, tv, h, h1, h2, h3, h4⟩ := h
  exact ⟨A, T, tc, rv, tv, h, fun e => h1 (hs _ e), fun e => h2 (hs _ e), fun e => h3 (hs _ e), fun j v b hv hb e => h4 j v b hv hb (hs _ e)⟩
theorem lt (h : RLog B ex w L n rs lc) : L < w.heap.size := by
  obtain ⟨A, T, tc, rv, tv, h, _⟩ := h
  exact h.hL.lt.lt
theorem n8 (h : RLog B ex w L n rs lc) : n ≤ 8 := by
  obtain ⟨A, T, tc, rv, tv, h, _⟩ := h
  exact h.n8
theorem congr (h : RLog B ex w L n rs lc) {rs' : Nat → List Rec} {lc' : Nat → Int} (h1 : rs' = rs) (h2 : lc' = lc) : RLog B ex w L n rs' lc' := by subst h1; subst h2; exact h
/-- Add to a core that has room. -/
theorem add (h : RLog B ex w L n rs lc) (hB : B ≤ w.heap.size) (hex : ∀ x ∈ ex, x < w.heap.size) (j : Nat) (kind fd off num : Int) (path path2 data : ByteArray) (sc sk : Int)
    (hj : j < n) (hm : (rs j).length < 256) (hk0 : 0 ≤ kind) (hk1 : kind ≤ 16) (hs : mayB sc sk = true) :
    Calls Try.prog 21 #[.pointer (some ⟨L, 0, none⟩), .agg #[.int .i64 kind, .int .i64 j, .int .i64 fd, .int .i64 off, .int .i64 num, .string path, .string path2, .string data], .agg #[.int .i64 sc, .int .i64 sk]] w fun e w' =>
      e = .returned (.tuple #[.agg #[.int .i64 (nextC (lc j) j sc sk), .int .i64 j], .int .i64 0]) ∧ Keep (Out B ex) w w' ∧
      RLog B ex w' L n (upd rs j (rs j ++ [⟨nextC (lc j) j sc sk, j, kind, j, fd, off, num, path, path2, data⟩])) (upd lc j (nextC (lc j) j sc sk)) := by
  obtain ⟨A, T, tc, rv, tv, h, x1, x2, x3, x4⟩ := h
  obtain ⟨a, cp, h1, h2, h3⟩ := h.row j hj
  refine (add_ok L A T n tc j kind fd off num path path2 data sc sk (lc j) j (lenOf rs j) rv tv a cp w h.hL h.hA h.hT h1 (h.t0 j hj) (h.t1 j hj) (recs (rs j)) h2 hj h.n8 hm hk0 hk1 hs).mono ?_
  rintro e w' ⟨rfl, v', g⟩
  have hT2 := g.hT
  obtain ⟨rv', tv', g1, g2⟩ := h.added hj h1 h3 hB g
  refine ⟨rfl, g.keep.mono ?_, A, T, tc, rv', tv', ?_, x1, x2, x3, ?_⟩
  · rintro i hi (rfl | rfl | e)
    · exact ⟨h.bT, x3⟩
    · exact ⟨h.bA, x2⟩
    · exact ⟨h3 i e, x4 j _ i h1 e⟩
  · have e1 : lenOf (upd rs j (rs j ++ [⟨nextC (lc j) j sc sk, j, kind, j, fd, off, num, path, path2, data⟩])) = upd (lenOf rs) j (lenOf rs j + 1) := by
      funext i
      unfold lenOf upd
      split <;> simp
    have e2 : (fun i => recs (upd rs j (rs j ++ [⟨nextC (lc j) j sc sk, j, kind, j, fd, off, num, path, path2, data⟩]) i)) = upd (fun i => recs (rs i)) j (recs (rs j) ++ [.int .i64 (nextC (lc j) j sc sk), .int .i64 j, .int .i64 kind, .int .i64 j, .int .i64 fd, .int .i64 off, .int .i64 num, .string path, .string path2, .string data]) := by
      funext i
      unfold upd
      split
      · rw [recs_add]; rfl
      · rfl
    rw [e1, e2]
    exact g1
  · intro i v b hv hb
    have hA1 := g1.hA.inj g.hA
    rw [hA1] at hv
    by_cases e : j = i
    · subst e
      rw [Array.getElem?_setIfInBounds_self_of_lt (by have := h.szA; omega)] at hv
      injection hv with hv
      subst hv
      rcases g.loc with e | ⟨k, e, hk⟩
      · exact x4 j _ b h1 (e.symm.trans hb)
      · rw [hb] at e; injection e with e
        intro hx
        have := hex b hx
        omega
    · rw [Array.getElem?_setIfInBounds_ne e] at hv
      exact x4 i v b hv hb
/-- Add to a core that has room, with the stamp's count told. -/
theorem addc (h : RLog B ex w L n rs lc) (hB : B ≤ w.heap.size) (hex : ∀ x ∈ ex, x < w.heap.size) (j : Nat) (ji kind fd off num : Int) (path path2 data : ByteArray) (sc sk c : Int)
    (hji : ji = j) (hj : j < n) (hm : (rs j).length < 256) (hk0 : 0 ≤ kind) (hk1 : kind ≤ 16) (hs : mayB sc sk = true) (hc : nextC (lc j) j sc sk = c) :
    Calls Try.prog 21 #[.pointer (some ⟨L, 0, none⟩), .agg #[.int .i64 kind, .int .i64 ji, .int .i64 fd, .int .i64 off, .int .i64 num, .string path, .string path2, .string data], .agg #[.int .i64 sc, .int .i64 sk]] w fun e w' =>
      e = .returned (.tuple #[.agg #[.int .i64 c, .int .i64 ji], .int .i64 0]) ∧ Keep (Out B ex) w w' ∧
      RLog B ex w' L n (upd rs j (rs j ++ [⟨c, ji, kind, ji, fd, off, num, path, path2, data⟩])) (upd lc j c) := by
  subst hji
  subst hc
  exact h.add hB hex j kind fd off num path path2 data sc sk hj hm hk0 hk1 hs
/-- Add with an argument of no good form. -/
theorem refused (h : RLog B ex w L n rs lc) (kind core fd off num : Int) (path path2 data : ByteArray) (sc sk : Int) (hf : kind < 0 ∨ 16 < kind ∨ ¬ (0 ≤ core ∧ core < n) ∨ mayB sc sk = false) :
    Calls Try.prog 21 #[.pointer (some ⟨L, 0, none⟩), .agg #[.int .i64 kind, .int .i64 core, .int .i64 fd, .int .i64 off, .int .i64 num, .string path, .string path2, .string data], .agg #[.int .i64 sc, .int .i64 sk]] w fun e w' => e = .returned (.tuple #[.agg #[.int .i64 0, .int .i64 0], .int .i64 1700]) ∧ Below w.heap.size w w' := by
  obtain ⟨A, T, tc, rv, tv, h, _⟩ := h
  exact add_form L A n kind core fd off num path path2 data sc sk w (by have := h.hL.cell 0; simpa using this) h.hL.lt hf
/-- Add to a core that is full. -/
theorem full (h : RLog B ex w L n rs lc) (j : Nat) (kind fd off num : Int) (path path2 data : ByteArray) (sc sk : Int)
    (hj : j < n) (hm : 256 ≤ (rs j).length) (hk0 : 0 ≤ kind) (hk1 : kind ≤ 16) (hs : mayB sc sk = true) :
    Calls Try.prog 21 #[.pointer (some ⟨L, 0, none⟩), .agg #[.int .i64 kind, .int .i64 j, .int .i64 fd, .int .i64 off, .int .i64 num, .string path, .string path2, .string data], .agg #[.int .i64 sc, .int .i64 sk]] w fun e w' => e = .returned (.tuple #[.agg #[.int .i64 0, .int .i64 0], .int .i64 1701]) ∧ Below w.heap.size w w' := by
  obtain ⟨A, T, tc, rv, tv, h, _⟩ := h
  obtain ⟨a, cp, h1, _, _⟩ := h.row j hj
  exact add_full L A n j kind fd off num path path2 data sc sk a _ cp w (by have := h.hL.cell 0; simpa using this) h.hL.lt (by rw [h.hA.cell j]; exact h1) h.hA.lt hj h.n8 hm hk0 hk1 hs
theorem last (h : RLog B ex w L n rs lc) (j : Nat) (hj : j < n) :
    Calls Try.prog 23 #[.pointer (some ⟨L, 0, none⟩), .int .i64 j] w fun e w' => e = .returned (.agg #[.int .i64 (lc j), .int .i64 j]) ∧ Below w.heap.size w w' := by
  obtain ⟨A, T, tc, rv, tv, h, _⟩ := h
  exact last_in L A T n tc j (lc j) j w (by have := h.hL.cell 0; simpa using this) (by have := h.hL.cell 1; simpa using this) h.hL.lt h.hT.lt (by rw [h.hT.cell]; exact h.t0 j hj) (by rw [h.hT.cell]; exact h.t1 j hj) hj h.n8
theorem lastc (h : RLog B ex w L n rs lc) (j : Nat) (ji c : Int) (hji : ji = j) (hj : j < n) (hc : lc j = c) :
    Calls Try.prog 23 #[.pointer (some ⟨L, 0, none⟩), .int .i64 ji] w fun e w' => e = .returned (.agg #[.int .i64 c, .int .i64 ji]) ∧ Below w.heap.size w w' := by
  subst hji
  subst hc
  exact h.last j hj
theorem merge (h : RLog B ex w L n rs lc) (hms : ∀ j, j < n → (rs j).length ≤ 256) :
    Calls Try.prog 22 #[.pointer (some ⟨L, 0, none⟩)] w fun e w' => ∃ v, e = .returned v ∧ Below w.heap.size w w' ∧ w'.ownsRow 0 45 10 v (pickOf rs (mergeAll rs n)).length (recs (pickOf rs (mergeAll rs n))) ∧ ∀ b, v.ownBlock = some b → w.heap.size < b := by
  obtain ⟨A, T, tc, rv, tv, h, _⟩ := h
  exact merge_ok h hms
end RLog
/-- New of a good number of cores. -/
theorem new_log (n : Nat) (h1 : 1 ≤ n) (h8 : n ≤ 8) (w : World) :
    Calls Try.prog 20 #[.int .i64 n] w fun e w' => e = .returned (.tuple #[.pointer (some ⟨w.heap.size + 1, 0, none⟩), .int .i64 0]) ∧ Below w.heap.size w w' ∧ RLog w.heap.size [] w' (w.heap.size + 1) n (fun _ => []) (fun _ => 0) := by
  refine (new_ok n h1 h8 w).mono ?_
  rintro e w' ⟨rfl, v, g⟩
  obtain ⟨T, tc, rv, tv, h⟩ := g.log h1 h8
  exact ⟨rfl, g.bel, w.heap.size, T, tc, rv, tv, h, by simp, by simp, by simp, by simp⟩
end Go.Proofs.Ytpndplbomnjioaa
namespace Go.Keep
open Go.RowKit Go.Proofs.Ytpndplbomnjioaa
theorem out_blk {B : Nat} {ex : List Nat} {w w' : World} (h : Keep (Out B ex) w w') {b : Nat} {c : Array Value} {t : TypeId} (hb : Blk w b c t) (hn : b ∈ ex) : Blk w' b c t := h.blk hb (fun e => e.2 hn)
theorem out_below {B : Nat} {ex : List Nat} {w w' : World} (h : Keep (Out B ex) w w') (hB : B ≤ w.heap.size) : Below B w w' := h.below hB (fun i hi e => by have := e.1; omega)
end Go.Keep
