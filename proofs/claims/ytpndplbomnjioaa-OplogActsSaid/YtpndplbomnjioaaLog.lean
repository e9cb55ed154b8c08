/- A log of cores, as it lies in memory, and what Add leaves of it. Conditions: none. -/
import Derived.Test.YtpndplbomnjioaaForm
set_option linter.unusedVariables false
namespace Go.Proofs.Ytpndplbomnjioaa
open Go.RowKit
/-- A log of n cores: where its parts lie, and what it holds. B: all of it lies at or behind B. -/
structure LogAt (B : Nat) (w : World) (L A T n tc : Nat) (rv tv : Array Value) (ms : Nat → Nat) (xs : Nat → List Value) (lc : Nat → Int) : Prop where
  hL : Blk w L #[.slice (some ⟨A, 0, none⟩) n n, .slice (some ⟨T, 0, none⟩) n tc] 69
  hA : Blk w A rv 42
  hT : Blk w T tv 23
  bL : B ≤ L
  bA : B ≤ A
  bT : B ≤ T
  n8 : n ≤ 8
  szA : rv.size = n
  szT : n * 2 ≤ tv.size
  t0 : ∀ j, j < n → tv[j * 2]? = some (.int .i64 (lc j))
  t1 : ∀ j, j < n → tv[j * 2 + 1]? = some (.int .i64 j)
  row : ∀ j, j < n → ∃ a cp, rv[j]? = some (.slice a (ms j) cp) ∧ w.ownsRow 0 45 10 (.slice a (ms j) cp) (ms j) (xs j) ∧ (∀ k, (Value.slice a (ms j) cp).ownBlock = some k → B ≤ k)
  far : ∀ (i j : Nat) (u v : Value) (k : Nat), i ≠ j → rv[i]? = some u → rv[j]? = some v → u.ownBlock = some k → v.ownBlock ≠ some k
def upd {α : Type} (f : Nat → α) (j : Nat) (x : α) : Nat → α := fun i => if i = j then x else f i
theorem own_lt {w : World} {base : Nat} {e : TypeId} {size n k : Nat} {v : Value} {xs : List Value} (h : w.ownsRow base e size v n xs) (hk : v.ownBlock = some k) : k < w.heap.size := by
  rcases h.2 with ⟨rfl, _⟩ | ⟨g', cap, cur, rfl, _, hh, _⟩
  · simp [Value.ownBlock] at hk
  · have : g' = k := by simpa [Value.ownBlock] using hk
    subst this
    exact (Array.getElem?_eq_some_iff.1 hh).1
theorem LogAt.added {B : Nat} {w wx : World} {L A T n tc j : Nat} {rv tv : Array Value} {ms : Nat → Nat} {xs : Nat → List Value} {lc : Nat → Int} (h : LogAt B w L A T n tc rv tv ms xs lc) (hj : j < n) {a : Option Addr} {cp : Nat} (hr : rv[j]? = some (.slice a (ms j) cp)) (hb : ∀ k, (Value.slice a (ms j) cp).ownBlock = some k → B ≤ k) (hBw : B ≤ w.heap.size)
    {s : Int} {r : List Value} {v' : Value} (g : Added w A T j (ms j) rv ((tv.setIfInBounds (j * 2) (.int .i64 s)).setIfInBounds (j * 2 + 1) (.int .i64 j)) (xs j ++ r) (Value.slice a (ms j) cp).ownBlock v' wx) :
    ∃ rv' tv', LogAt B wx L A T n tc rv' tv' (upd ms j (ms j + 1)) (upd xs j (xs j ++ r)) (upd lc j s) ∧ Below B w wx := by
  have hjt := h.szT
  obtain ⟨a', cp', rfl⟩ := own_form g.own
  obtain ⟨aj, cj, hrj, hoj, _⟩ := h.row j hj
  rw [hr] at hrj
  injection hrj with hrj
  have nLT := h.hL.ne_ h.hT (by decide)
  have nLA := h.hL.ne_ h.hA (by decide)
  have hoj' : w.ownsRow 0 45 10 (.slice a (ms j) cp) (ms j) (xs j) := by rw [hrj]; exact hoj
  have nR := own_ne_blk hoj' h.hL (by decide)
  refine ⟨_, _, ⟨g.keep.blk h.hL (fun e => e.elim nLT (fun e => e.elim nLA nR)), g.hA, g.hT, h.bL, h.bA, h.bT, h.n8, by simpa using h.szA, by simpa using h.szT, ?_, ?_, ?_, ?_⟩, g.keep.below hBw ?_⟩
  · intro i hi
    unfold upd
    by_cases e : i = j
    · subst e
      rw [if_pos rfl, Array.getElem?_setIfInBounds_ne (by omega), Array.getElem?_setIfInBounds_self_of_lt (by omega)]
    · rw [if_neg e, Array.getElem?_setIfInBounds_ne (by omega), Array.getElem?_setIfInBounds_ne (by omega)]
      exact h.t0 i hi
  · intro i hi
    by_cases e : i = j
    · subst e
      rw [Array.getElem?_setIfInBounds_self_of_lt (by simp; omega)]
    · rw [Array.getElem?_setIfInBounds_ne (by omega), Array.getElem?_setIfInBounds_ne (by omega)]
      exact h.t1 i hi
  · intro i hi
    unfold upd
    by_cases e : i = j
    · subst e
      rw [if_pos rfl, if_pos rfl]
      refine ⟨a', cp', by rw [Array.getElem?_setIfInBounds_self_of_lt (by have := h.szA; omega)], g.own, ?_⟩
      intro k hk
      rcases g.loc with e | ⟨k', e, hk'⟩
      · exact hb k (e.symm.trans hk)
      · rw [hk] at e; injection e with e; omega
    · rw [if_neg e, if_neg e]
      obtain ⟨ai, ci, hri, hoi, hbi⟩ := h.row i hi
      refine ⟨ai, ci, by rw [Array.getElem?_setIfInBounds_ne (fun e' => e e'.symm)]; exact hri, g.keep.own hoi ?_, hbi⟩
      intro k hk hs
      rcases hs with e' | e' | e'
      · exact own_ne_blk hoi h.hT (by decide) (by rw [hk, e'])
      · exact own_ne_blk hoi h.hA (by decide) (by rw [hk, e'])
      · exact h.far i j _ _ k e hri hr hk e'
  · intro i i' u v k hne hu hv hk hk'
    by_cases e : j = i
    · subst e
      rw [Array.getElem?_setIfInBounds_self_of_lt (by have := h.szA; omega)] at hu
      rw [Array.getElem?_setIfInBounds_ne hne] at hv
      injection hu with hu
      subst hu
      rcases g.loc with e | ⟨k1, e, hk1⟩
      · exact h.far j i' _ _ k hne hr hv (e.symm.trans hk) hk'
      · rw [hk] at e; injection e with e
        have hi' : i' < n := by have := (Array.getElem?_eq_some_iff.1 hv).1; have := h.szA; omega
        obtain ⟨ai, ci, hri, hoi, _⟩ := h.row i' hi'
        rw [hv] at hri
        injection hri with hri
        have := own_lt hoi (by rw [← hri]; exact hk')
        omega
    · by_cases e2 : j = i'
      · subst e2
        rw [Array.getElem?_setIfInBounds_self_of_lt (by have := h.szA; omega)] at hv
        rw [Array.getElem?_setIfInBounds_ne e] at hu
        injection hv with hv
        subst hv
        rcases g.loc with e3 | ⟨k1, e3, hk1⟩
        · exact h.far i j _ _ k hne hu hr hk (e3.symm.trans hk')
        · rw [hk'] at e3; injection e3 with e3
          have hi' : i < n := by have := (Array.getElem?_eq_some_iff.1 hu).1; have := h.szA; omega
          obtain ⟨ai, ci, hri, hoi, _⟩ := h.row i hi'
          rw [hu] at hri
          injection hri with hri
          have := own_lt hoi (by rw [← hri]; exact hk)
          omega
      · rw [Array.getElem?_setIfInBounds_ne e] at hu
        rw [Array.getElem?_setIfInBounds_ne e2] at hv
        exact h.far i i' u v k hne hu hv hk hk'
  · intro i hi hs
    rcases hs with e | e | e
    · have := h.bT; omega
    · have := h.bA; omega
    · have := hb i e; omega
end Go.Proofs.Ytpndplbomnjioaa
