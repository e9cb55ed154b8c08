/- slices.IndexFunc over the records of a row, at the predicate that Drop hands over. Conditions: none. -/
import Derived.Test.YtpndplbomnjioaaMLaw
import Derived.Laws.IdiomCopy
set_option linter.unusedVariables false
namespace Go.Proofs.Ytpndplbomnjioaa
open Go.RowKit
/-- Is the record let go? -/
def gone (uc uk : Int) (r : Rec) : Bool := !lessB uc uk r.c r.k
theorem pred34 (uc uk : Int) (X : Nat) (r : Rec) (w : World) (iX : BlockLt X w) (c0 : w.cell? ⟨X, 0, none⟩ = some (.int .i64 uc)) (c1 : w.cell? ⟨X, 1, none⟩ = some (.int .i64 uk)) :
    Calls Try.prog 34 #[.agg #[.int .i64 r.c, .int .i64 r.k, .int .i64 r.kind, .int .i64 r.core, .int .i64 r.fd, .int .i64 r.off, .int .i64 r.num, .string r.path, .string r.path2, .string r.data], .pointer (some ⟨X, 0, none⟩)] w fun e w' => e = .returned (.bool (gone uc uk r)) ∧ Below w.heap.size w w' := by
  unfold gone
  go_enter Try.func34, Try.ntmps34
  go_wp2_with (go_at_call 13; refine (less_any _ _ _ _ _).mono ?_; rintro e w' ⟨rfl, hb⟩; obtain ⟨p, rfl⟩ := hb.rest; clear hb)
  go_ret
  exact ⟨rfl, bel _ _⟩
/-- The first record that is let go: its place, or -1. -/
def firstGone (f : Rec → Bool) : List Rec → Nat → Int
  | [], _ => -1
  | r :: l, i => if f r then i else firstGone f l (i + 1)
theorem firstGone_none (f : Rec → Bool) : ∀ (l : List Rec) (i : Nat), (∀ (j : Nat) (r : Rec), l[j]? = some r → f r = false) → firstGone f l i = -1
  | [], _, _ => rfl
  | r :: l, i, h => by
    unfold firstGone
    rw [if_neg (by rw [h 0 r rfl]; exact Bool.false_ne_true)]
    exact firstGone_none f l (i + 1) (fun j r' hj => h (j + 1) r' (by simpa using hj))
theorem firstGone_at (f : Rec → Bool) : ∀ (l : List Rec) (i k : Nat) (r : Rec), l[k]? = some r → f r = true → (∀ (j : Nat) (r : Rec), j < k → l[j]? = some r → f r = false) → firstGone f l i = ((i + k : Nat) : Int)
  | [], _, _, _, h, _, _ => by simp at h
  | r0 :: l, i, 0, r, h, hr, _ => by
    obtain rfl : r0 = r := by simpa using h
    simp [firstGone, hr]
  | r0 :: l, i, k + 1, r, h, hr, hn => by
    unfold firstGone
    rw [if_neg (by rw [hn 0 r0 (by omega) rfl]; exact Bool.false_ne_true), firstGone_at f l (i + 1) k r (by simpa using h) hr (fun j r' hj hl => hn (j + 1) r' (by omega) (by simpa using hl))]
    congr 1
    omega
set_option maxRecDepth 100000 in
set_option maxHeartbeats 1000000 in
theorem index37 (uc uk : Int) (X : Nat) (w : World) (iX : BlockLt X w) (c0 : w.cell? ⟨X, 0, none⟩ = some (.int .i64 uc)) (c1 : w.cell? ⟨X, 1, none⟩ = some (.int .i64 uk)) (a : Option Addr) (n cp : Nat) (rs : List Rec) (hn : rs.length = n) (h256 : n ≤ 256) (hown : w.ownsRow 0 45 10 (.slice a n cp) n (recs rs)) :
    Calls Try.prog 37 #[.slice a n cp, .func (.func 34) #[] #[.pointer (some ⟨X, 0, none⟩)]] w fun e w' => e = .returned (.int .i64 (firstGone (gone uc uk) rs 0)) ∧ Below w.heap.size w w' := by
  have HO := Lib.hid hown
  clear hown
  go_enter Try.func37, Try.ntmps37
  go_wp2_with fail
  go_loopw [8] (fun i wr => ∃ k : Nat, i = .int .i64 k ∧ k ≤ n ∧ Below w.heap.size w wr ∧ ∀ (j : Nat) (r : Rec), j < k → rs[j]? = some r → gone uc uk r = false) (fun i _ => n - (intOf i).toNat)
  case atStart => exact ⟨0, rfl, by omega, bel _ _, fun j r hj => by omega⟩
  case round =>
    obtain ⟨k, rfl, hk, hb, hno⟩ := hrel
    have iB : Bel w wr := ⟨hb⟩
    have iX2 : BlockLt X wr := ⟨Nat.lt_of_lt_of_le iX.lt hb.size⟩
    have d0 := (hb.cell (p := ⟨X, 0, none⟩) iX.lt).trans c0
    have d1 := (hb.cell (p := ⟨X, 1, none⟩) iX.lt).trans c1
    have HN := Lib.hid hno
    clear hno c0 c1
    by_cases hlt : k < n
    · obtain ⟨g, cap, e, glt, gc, hcell⟩ := own_cells HO.out (by omega)
      injection e with e1 e2 e3
      subst e1
      subst e3
      obtain ⟨r, hr⟩ : ∃ r, rs[k]? = some r := ⟨_, List.getElem?_eq_getElem (by omega)⟩
      have iG : BlockLt g wr := ⟨Nat.lt_of_lt_of_le glt hb.size⟩
      have cc : ∀ q, q < 10 → ∀ x, r.cells[q]? = some x → wr.cell? ⟨g, k * 10 + q, none⟩ = some x := fun q hq x hx => (hb.cell (p := ⟨g, _, none⟩) glt).trans (hcell (k * 10 + q) x (by omega) ((recs_at _ _ _ hr q hq).trans hx))
      have g0 := cc 0 (by omega) _ rfl
      have g1 := cc 1 (by omega) _ rfl
      have g2 := cc 2 (by omega) _ rfl
      have g3 := cc 3 (by omega) _ rfl
      have g4 := cc 4 (by omega) _ rfl
      have g5 := cc 5 (by omega) _ rfl
      have g6 := cc 6 (by omega) _ rfl
      have g7 := cc 7 (by omega) _ rfl
      have g8 := cc 8 (by omega) _ rfl
      have g9 := cc 9 (by omega) _ rfl
      simp only [Nat.add_zero] at g0
      clear hcell cc
      rcases hg : gone uc uk r with _ | _
      all_goals
        have hp : ∀ w, BlockLt X w → w.cell? ⟨X, 0, none⟩ = some (.int .i64 uc) → w.cell? ⟨X, 1, none⟩ = some (.int .i64 uk) → Calls Try.prog 34 _ w _ := fun w => pred34 uc uk X r w
        rw [hg] at hp
        go_wp2_with (go_at_call 34; refine (hp _ inferInstance (by go_simp) (by go_simp)).mono ?_; rintro e w' ⟨rfl, hb⟩; obtain ⟨p, rfl⟩ := hb.rest; clear hb)
      · go_roundw
        case rel =>
          refine ⟨k + 1, by go_num, by omega, bel _ _, fun j r' hj hr' => ?_⟩
          by_cases e : j = k
          · subst e
            rw [hr] at hr'
            injection hr' with hr'
            subst hr'
            exact hg
          · exact HN.out j r' (by omega) hr'
        case measure => simp [intOf]; omega
      · refine bodyPost_ret (v := .int .i64 k) (by simp [results, Try.results37, go_sem]) rfl ⟨?_, bel _ _⟩
        rw [firstGone_at (gone uc uk) rs 0 k r hr hg HN.out, Nat.zero_add]
    · go_wp2_with fail
      refine bodyPost_ret (v := .int .i64 (-1)) (by simp [results, Try.results37, go_sem]) rfl ⟨?_, bel _ _⟩
      rw [firstGone_none]
      intro j r hj
      have : j < rs.length := (List.getElem?_eq_some_iff.1 hj).1
      exact HN.out j r (by omega) hj
end Go.Proofs.Ytpndplbomnjioaa
