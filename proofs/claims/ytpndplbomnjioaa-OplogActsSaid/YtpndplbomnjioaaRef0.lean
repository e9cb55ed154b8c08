/- The document's log of cores, as it lies in memory. Conditions: none. -/
import Derived.Test.YtpndplbomnjioaaDLaw
import Derived.Test.YtpndplbomnjioaaSame
set_option linter.unusedVariables false
namespace Go.Proofs.Ytpndplbomnjioaa
open Go.RowKit
/-- A log of n cores: where its parts lie, and what it holds. B: all of it lies at or behind B. -/
structure RefAt (B : Nat) (w : World) (L A T n tc : Nat) (rv tv : Array Value) (ms : Nat → Nat) (xs : Nat → List Value) (lc : Nat → Int) : Prop where
  hL : Blk w L #[.slice (some ⟨A, 0, none⟩) n n, .slice (some ⟨T, 0, none⟩) n tc] 65
  hA : Blk w A rv 42
  hT : Blk w T tv 23
  bL : B ≤ L
  bA : B ≤ A
  bT : B ≤ T
  n8 : n ≤ 8
  szA : rv.size = n
  szT : n * 2 ≤ tv.size
  t0 : ∀ j, j < n → tv[j * 2]? = some (.int .i64 (lc j))
  t1 : ∀ j, j < n → tv[j * 2 + 1]? = some (.int .i64 j)
  row : ∀ j, j < n → ∃ a cp, rv[j]? = some (.slice a (ms j) cp) ∧ w.ownsRow 0 45 10 (.slice a (ms j) cp) (ms j) (xs j) ∧ (∀ k, (Value.slice a (ms j) cp).ownBlock = some k → B ≤ k)
  far : ∀ (i j : Nat) (u v : Value) (k : Nat), i ≠ j → rv[i]? = some u → rv[j]? = some v → u.ownBlock = some k → v.ownBlock ≠ some k
theorem RefAt.added {B : Nat} {w wx : World} {L A T n tc j : Nat} {rv tv : Array Value} {ms : Nat → Nat} {xs : Nat → List Value} {lc : Nat → Int} (h : RefAt B w L A T n tc rv tv ms xs lc) (hj : j < n) {a : Option Addr} {cp : Nat} (hr : rv[j]? = some (.slice a (ms j) cp)) (hb : ∀ k, (Value.slice a (ms j) cp).ownBlock = some k → B ≤ k) (hBw : B ≤ w.heap.size)
    {s : Int} {r : List Value} {v' : Value} (g : Added w A T j (ms j) rv ((tv.setIfInBounds (j * 2) (.int .i64 s)).setIfInBounds (j * 2 + 1) (.int .i64 j)) (xs j ++ r) (Value.slice a (ms j) cp).ownBlock v' wx) :
    ∃ rv' tv', RefAt B wx L A T n tc rv' tv' (upd ms j (ms j + 1)) (upd xs j (xs j ++ r)) (upd lc j s) ∧ Below B w wx := by
  have hjt := h.szT
  obtain ⟨a', cp', rfl⟩ := own_form g.own
  obtain ⟨aj, cj, hrj, hoj, _⟩ := h.row j hj
  rw [hr] at hrj
  injection hrj with hrj
  have nLT := h.hL.ne_ h.hT (by decide)
  have nLA := h.hL.ne_ h.hA (by decide)
  have hoj' : w.ownsRow 0 45 10 (.slice a (ms j) cp) (ms j) (xs j) := by rw [hrj]; exact hoj
  have nR := own_ne_blk hoj' h.hL (by decide)
  refine ⟨_, _, ⟨g.keep.blk h.hL (fun e => e.elim nLT (fun e => e.elim nLA nR)), g.hA, g.hT, h.bL, h.bA, h.bT, h.n8, by simpa using h.szA, by simpa using h.szT, ?_, ?_, ?_, ?_⟩, g.keep.below hBw ?_⟩
  · intro i hi
    unfold upd
    by_cases e : i = j
    · subst e
      rw [if_pos rfl, Array.getElem?_setIfInBounds_ne (by omega), Array.getElem?_setIfInBounds_self_of_lt (by omega)]
    · rw [if_neg e, Array.getElem?_setIfInBounds_ne (by omega), Array.getElem?_setIfInBounds_ne (by omega)]
      exact h.t0 i hi
  · intro i hi
    by_cases e : i = j
    · subst e
      rw [Array.getElem?_setIfInBounds_self_of_lt (by simp; omega)]
    · rw [Array.getElem?_setIfInBounds_ne (by omega), Array.getElem?_setIfInBounds_ne (by omega)]
      exact h.t1 i hi
  · intro i hi
    unfold upd
    by_cases e : i = j
    · subst e
      rw [if_pos rfl, if_pos rfl]
      refine ⟨a', cp', by rw [Array.getElem?_setIfInBounds_self_of_lt (by have := h.szA; omega)], g.own, ?_⟩
      intro k hk
      rcases g.loc with e | ⟨k', e, hk'⟩
      · exact hb k (e.symm.trans hk)
      · rw [hk] at e; injection e with e; omega
    · rw [if_neg e, if_neg e]
      obtain ⟨ai, ci, hri, hoi, hbi⟩ := h.row i hi
      refine ⟨ai, ci, by rw [Array.getElem?_setIfInBounds_ne (fun e' => e e'.symm)]; exact hri, g.keep.own hoi ?_, hbi⟩
      intro k hk hs
      rcases hs with e' | e' | e'
      · exact own_ne_blk hoi h.hT (by decide) (by rw [hk, e'])
      · exact own_ne_blk hoi h.hA (by decide) (by rw [hk, e'])
      · exact h.far i j _ _ k e hri hr hk e'
  · intro i i' u v k hne hu hv hk hk'
    by_cases e : j = i
    · subst e
      rw [Array.getElem?_setIfInBounds_self_of_lt (by have := h.szA; omega)] at hu
      rw [Array.getElem?_setIfInBounds_ne hne] at hv
      injection hu with hu
      subst hu
      rcases g.loc with e | ⟨k1, e, hk1⟩
      · exact h.far j i' _ _ k hne hr hv (e.symm.trans hk) hk'
      · rw [hk] at e; injection e with e
        have hi' : i' < n := by have := (Array.getElem?_eq_some_iff.1 hv).1; have := h.szA; omega
        obtain ⟨ai, ci, hri, hoi, _⟩ := h.row i' hi'
        rw [hv] at hri
        injection hri with hri
        have := own_lt hoi (by rw [← hri]; exact hk')
        omega
    · by_cases e2 : j = i'
      · subst e2
        rw [Array.getElem?_setIfInBounds_self_of_lt (by have := h.szA; omega)] at hv
        rw [Array.getElem?_setIfInBounds_ne e] at hu
        injection hv with hv
        subst hv
        rcases g.loc with e3 | ⟨k1, e3, hk1⟩
        · exact h.far i j _ _ k hne hu hr hk (e3.symm.trans hk')
        · rw [hk'] at e3; injection e3 with e3
          have hi' : i < n := by have := (Array.getElem?_eq_some_iff.1 hu).1; have := h.szA; omega
          obtain ⟨ai, ci, hri, hoi, _⟩ := h.row i hi'
          rw [hu] at hri
          injection hri with hri
          have := own_lt hoi (by rw [← hri]; exact hk)
          omega
      · rw [Array.getElem?_setIfInBounds_ne e] at hu
        rw [Array.getElem?_setIfInBounds_ne e2] at hv
        exact h.far i i' u v k hne hu hv hk hk'
  · intro i hi hs
    rcases hs with e | e | e
    · have := h.bT; omega
    · have := h.bA; omega
    · have := hb i e; omega
theorem RefAt.below {B : Nat} {w wx : World} {L A T n tc : Nat} {rv tv : Array Value} {ms : Nat → Nat} {xs : Nat → List Value} {lc : Nat → Int} (h : RefAt B w L A T n tc rv tv ms xs lc) (hb : Below w.heap.size w wx) : RefAt B wx L A T n tc rv tv ms xs lc :=
  ⟨h.hL.below hb h.hL.lt.lt, h.hA.below hb h.hA.lt.lt, h.hT.below hb h.hT.lt.lt, h.bL, h.bA, h.bT, h.n8, h.szA, h.szT, h.t0, h.t1, fun j hj => by
    obtain ⟨a, cp, h1, h2, h3⟩ := h.row j hj
    exact ⟨a, cp, h1, (Keep.of_below hb (fun _ => False)).own h2 (fun _ _ e => e), h3⟩, h.far⟩
theorem RefAt.congr {B : Nat} {w : World} {L A T n tc : Nat} {rv tv : Array Value} {ms ms' : Nat → Nat} {xs xs' : Nat → List Value} {lc : Nat → Int} (h : RefAt B w L A T n tc rv tv ms xs lc) (e : ∀ j, j < n → ms' j = ms j ∧ xs' j = xs j) : RefAt B w L A T n tc rv tv ms' xs' lc :=
  ⟨h.hL, h.hA, h.hT, h.bL, h.bA, h.bT, h.n8, h.szA, h.szT, h.t0, h.t1, fun j hj => by rw [(e j hj).1, (e j hj).2]; exact h.row j hj, h.far⟩
/-- A log of n cores that holds the records rs (lc: the last counts); all of it lies behind B, in no block of ex. -/
def RRef (B : Nat) (ex : List Nat) (w : World) (L n : Nat) (rs : Nat → List Rec) (lc : Nat → Int) : Prop :=
  ∃ A T tc rv tv, RefAt B w L A T n tc rv tv (lenOf rs) (fun j => recs (rs j)) lc ∧ L ∉ ex ∧ A ∉ ex ∧ T ∉ ex ∧ ∀ (j : Nat) (v : Value) (b : Nat), rv[j]? = some v → v.ownBlock = some b → b ∉ ex
namespace RRef
variable {B : Nat} {ex : List Nat} {w w' : World} {L n : Nat} {rs : Nat → List Rec} {lc : Nat → Int}
theorem below (h : RRef B ex w L n rs lc) (hb : Below w.heap.size w w') : RRef B ex w' L n rs lc := by
  obtain ⟨A, T, tc, rv, tv, h, h1, h2, h3, h4⟩ := h
  exact ⟨A, T, tc, rv, tv, h.below hb, h1, h2, h3, h4⟩
theorem row_lt {A T tc : Nat} {rv tv : Array Value} {ms : Nat → Nat} {xs : Nat → List Value} (h : RefAt B w L A T n tc rv tv ms xs lc) {j : Nat} {v : Value} {b : Nat} (hv : rv[j]? = some v) (hb : v.ownBlock = some b) : b < w.heap.size ∧ B ≤ b := by
  have hj : j < n := by have := (Array.getElem?_eq_some_iff.1 hv).1; have := h.szA; omega
  obtain ⟨a, cp, e, ho, hB⟩ := h.row j hj
  rw [hv] at e
  injection e with e
  subst e
  exact ⟨own_lt ho hb, hB b hb⟩
/-- Whatever touches only blocks of ex, and makes new ones. -/
theorem keep (h : RRef B ex w L n rs lc) (hk : Keep (fun b => b ∈ ex) w w') : RRef B ex w' L n rs lc := by
  obtain ⟨A, T, tc, rv, tv, h, h1, h2, h3, h4⟩ := h
  refine ⟨A, T, tc, rv, tv, ⟨hk.blk h.hL h1, hk.blk h.hA h2, hk.blk h.hT h3, h.bL, h.bA, h.bT, h.n8, h.szA, h.szT, h.t0, h.t1, fun j hj => ?_, h.far⟩, h1, h2, h3, h4⟩
  obtain ⟨a, cp, e1, e2, e3⟩ := h.row j hj
  exact ⟨a, cp, e1, hk.own e2 (fun b hb hx => h4 j _ b e1 hb hx), e3⟩
theorem alloc (h : RRef B ex w L n rs lc) (o : Obj) : RRef B ex (w.alloc o) L n rs lc := h.keep ((Keep.refl _ w).alloc o)
theorem junk (h : RRef B ex w L n rs lc) (p : Behind) : RRef B ex (w.junk p) L n rs lc := h.keep ((Keep.refl _ w).junk p)
theorem drew (h : RRef B ex w L n rs lc) : RRef B ex w.drew L n rs lc := h.keep (Keep.refl _ w).drew
theorem set_ (h : RRef B ex w L n rs lc) {a : Addr} (ha : a.block ∈ ex) (v : Value) : RRef B ex (w.setCell a v) L n rs lc := h.keep ((Keep.refl _ w).setCell (.inl ha) v)
/-- A block that is not there yet may be named. -/
theorem more (h : RRef B ex w L n rs lc) {y : Nat} (hy : w.heap.size ≤ y) : RRef B (y :: ex) w L n rs lc := by
  obtain ⟨A, T, tc, rv, tv, h, h1, h2, h3, h4⟩ := h
  have a1 := h.hL.lt.lt
  have a2 := h.hA.lt.lt
  have a3 := h.hT.lt.lt
  refine ⟨A, T, tc, rv, tv, h, ?_, ?_, ?_, fun j v b hv hb => ?_⟩
  · intro e
    rcases List.mem_cons.1 e with e | e
    · omega
    · exact h1 e
  · intro e
    rcases List.mem_cons.1 e with e | e
    · omega
    · exact h2 e
  · intro e
    rcases List.mem_cons.1 e with e | e
    · omega
    · exact h3 e
  · have := row_lt h hv hb
    intro e
    rcases List.mem_cons.1 e with e | e
    · omega
    · exact h4 j v b hv hb e
theorem less (h : RRef B ex w L n rs lc) {ex' : List Nat} (hs : ∀ x ∈ ex', x ∈ ex) : RRef B ex' w L n rs lc := by
  obtain ⟨A, T, tc, rv, tv, h, h1, h2, h3, h4⟩ := h
  exact ⟨A, T, tc, rv, tv, h, fun e => h1 (hs _ e), fun e => h2 (hs _ e), fun e => h3 (hs _ e), fun j v b hv hb e => h4 j v b hv hb (hs _ e)⟩
theorem lt (h : RRef B ex w L n rs lc) : L < w.heap.size := by
  obtain ⟨A, T, tc, rv, tv, h, _⟩ := h
  exact h.hL.lt.lt
theorem n8 (h : RRef B ex w L n rs lc) : n ≤ 8 := by
  obtain ⟨A, T, tc, rv, tv, h, _⟩ := h
  exact h.n8
theorem congr (h : RRef B ex w L n rs lc) {rs' : Nat → List Rec} {lc' : Nat → Int} (h1 : rs' = rs) (h2 : lc' = lc) : RRef B ex w L n rs' lc' := by subst h1; subst h2; exact h
end RRef
end Go.Proofs.Ytpndplbomnjioaa
