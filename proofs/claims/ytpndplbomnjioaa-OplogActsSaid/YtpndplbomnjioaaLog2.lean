/- New and Add over a log of cores as it lies in memory. Conditions: none. -/
import Derived.Test.YtpndplbomnjioaaLog
set_option linter.unusedVariables false
namespace Go.Proofs.Ytpndplbomnjioaa
open Go.RowKit
theorem stamps_len : ∀ k, (stampsTo k).length = k * 2
  | 0 => rfl
  | k + 1 => by simp [stampsTo, stamps_len k]; omega
theorem stamps_at : ∀ k j, j < k → (stampsTo k)[j * 2]? = some (.int .i64 0) ∧ (stampsTo k)[j * 2 + 1]? = some (.int .i64 j)
  | 0, j, h => by omega
  | k + 1, j, h => by
    have hl := stamps_len k
    unfold stampsTo
    by_cases e : j < k
    · obtain ⟨h1, h2⟩ := stamps_at k j e
      rw [List.getElem?_append_left (by omega), List.getElem?_append_left (by omega)]
      exact ⟨h1, h2⟩
    · obtain rfl : j = k := by omega
      rw [List.getElem?_append_right (by omega), List.getElem?_append_right (by omega), hl]
      simp
theorem NewAt.log {w wr : World} {n : Nat} {v : Value} (h : NewAt w n n v wr) (h1 : 1 ≤ n) (h8 : n ≤ 8) :
    ∃ T tc rv tv, LogAt w.heap.size wr (w.heap.size + 1) w.heap.size T n tc rv tv (fun _ => 0) (fun _ => []) (fun _ => 0) := by
  obtain ⟨hl, h0 | ⟨T, tc, tv, rfl, _, hT, hc, _, hs, ht⟩⟩ := h.own
  · omega
  · have hm : ∀ j, j < n → (madeCells #[.slice none 0 0] n)[j]? = some (.slice none 0 0) := fun j hj => by
      simp [madeCells, hj, Nat.mod_one]
    refine ⟨T, tc, _, tv, h.hL, h.hA, hT, by omega, by omega, by have := h.loc T rfl; omega, h8, by simp [madeCells], by omega, ?_, ?_, ?_, ?_⟩
    · intro j hj
      have := (stamps_at n j hj).1
      rw [← ht, List.getElem?_take] at this
      simpa [show j * 2 < n * 2 by omega] using this
    · intro j hj
      have := (stamps_at n j hj).2
      rw [← ht, List.getElem?_take] at this
      simpa [show j * 2 + 1 < n * 2 by omega] using this
    · intro j hj
      exact ⟨none, 0, hm j hj, ⟨rfl, .inl ⟨rfl, rfl⟩⟩, by simp [Value.ownBlock]⟩
    · intro i j u v k hne hu hv hk
      have hi : i < n := by have := (Array.getElem?_eq_some_iff.1 hu).1; simpa [madeCells] using this
      rw [hm i hi] at hu
      injection hu with hu
      subst hu
      simp [Value.ownBlock] at hk
theorem LogAt.below {B : Nat} {w wx : World} {L A T n tc : Nat} {rv tv : Array Value} {ms : Nat → Nat} {xs : Nat → List Value} {lc : Nat → Int} (h : LogAt B w L A T n tc rv tv ms xs lc) (hb : Below w.heap.size w wx) : LogAt B wx L A T n tc rv tv ms xs lc :=
  ⟨h.hL.below hb h.hL.lt.lt, h.hA.below hb h.hA.lt.lt, h.hT.below hb h.hT.lt.lt, h.bL, h.bA, h.bT, h.n8, h.szA, h.szT, h.t0, h.t1, fun j hj => by
    obtain ⟨a, cp, h1, h2, h3⟩ := h.row j hj
    exact ⟨a, cp, h1, (Keep.of_below hb (fun _ => False)).own h2 (fun _ _ e => e), h3⟩, h.far⟩
/-- Add to a core that has room, of a log. -/
theorem add_log {B : Nat} {w : World} {L A T n tc : Nat} {rv tv : Array Value} {ms : Nat → Nat} {xs : Nat → List Value} {lc : Nat → Int} (h : LogAt B w L A T n tc rv tv ms xs lc) (hB : B ≤ w.heap.size) (j : Nat) (kind fd off num : Int) (path path2 data : ByteArray) (sc sk : Int)
    (hj : j < n) (hm : ms j < 256) (hk0 : 0 ≤ kind) (hk1 : kind ≤ 16) (hs : mayB sc sk = true) :
    Calls Try.prog 21 #[.pointer (some ⟨L, 0, none⟩), .agg #[.int .i64 kind, .int .i64 j, .int .i64 fd, .int .i64 off, .int .i64 num, .string path, .string path2, .string data], .agg #[.int .i64 sc, .int .i64 sk]] w fun e w' =>
      e = .returned (.tuple #[.agg #[.int .i64 (nextC (lc j) j sc sk), .int .i64 j], .int .i64 0]) ∧ Below B w w' ∧
      ∃ rv' tv', LogAt B w' L A T n tc rv' tv' (upd ms j (ms j + 1)) (upd xs j (xs j ++ [.int .i64 (nextC (lc j) j sc sk), .int .i64 j, .int .i64 kind, .int .i64 j, .int .i64 fd, .int .i64 off, .int .i64 num, .string path, .string path2, .string data])) (upd lc j (nextC (lc j) j sc sk)) := by
  obtain ⟨a, cp, h1, h2, h3⟩ := h.row j hj
  refine (add_ok L A T n tc j kind fd off num path path2 data sc sk (lc j) j (ms j) rv tv a cp w h.hL h.hA h.hT h1 (h.t0 j hj) (h.t1 j hj) (xs j) h2 hj h.n8 hm hk0 hk1 hs).mono ?_
  rintro e w' ⟨rfl, v', g⟩
  obtain ⟨rv', tv', g1, g2⟩ := h.added hj h1 h3 hB g
  exact ⟨rfl, g2, rv', tv', g1⟩
end Go.Proofs.Ytpndplbomnjioaa
