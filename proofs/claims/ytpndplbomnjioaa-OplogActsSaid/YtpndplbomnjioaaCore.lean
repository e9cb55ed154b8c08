/- Core, and SpoilRecords. Conditions: none. -/
import Derived.Test.YtpndplbomnjioaaRef0
set_option linter.unusedVariables false
namespace Go.Proofs.Ytpndplbomnjioaa
open Go.RowKit
set_option maxHeartbeats 1000000 in
theorem core_bad (L A n : Nat) (j : Int) (w : World) (hL0 : w.cell? ⟨L, 0, none⟩ = some (.slice (some ⟨A, 0, none⟩) n n)) (hj : ¬ (0 ≤ j ∧ j < n)) :
    Calls Try.prog 30 #[.pointer (some ⟨L, 0, none⟩), .int .i64 j] w fun e w' => e = .returned (.slice none 0 0) ∧ Below w.heap.size w w' := by
  go_enter Try.func30, Try.ntmps30
  go_wp2_with (go_at_call 32; refine (core_any L A n _ _ hL0).mono ?_; rintro e w' ⟨rfl, hb⟩; obtain ⟨p, rfl⟩ := hb.rest; clear hb; simp only [hj])
  refine bodyPost_ret (v := .slice none 0 0) (by simp [results, Try.results30, go_sem]) rfl ⟨rfl, bel _ _⟩
theorem clone36 (w : World) (a : Option Addr) (n cp : Nat) (rs : List Rec) (hn : n ≤ 1000000) (h : w.ownsRow 0 45 10 (.slice a n cp) n (recs rs)) :
    Calls Try.prog 36 #[.slice a n cp] w fun e w' => ∃ v, e = .returned v ∧ Below w.heap.size w w' ∧ w'.ownsRow 0 45 10 v n (recs rs) ∧ ∀ b, v.ownBlock = some b → w.heap.size ≤ b := by
  have hl := h.1
  rcases h.2 with ⟨e, h0⟩ | ⟨g, cap, cur, e, _, hg, hnc, hcm, hcs, hct⟩
  · injection e with e1 e2 e3
    subst e1
    subst e2
    subst e3
    have hnil : ∀ u, (binOp .eql 42 (.slice none 0 0) (.slice none 0 0)).run Try.prog u = .ok (.bool true) u := fun u => Lib.run_eql_slice_nil u 42 45 none 0 0 0 0 Try.underlying42
    go_enter Try.func36, Try.ntmps36
    go_wp2_with fail
    refine bodyPost_ret (v := .slice none 0 0) (by simp [results, Try.results36, go_sem]) rfl ⟨_, rfl, bel _ _, h, by simp [Value.ownBlock]⟩
  · injection e with e1 e2 e3
    subst e1
    subst e3
    obtain ⟨j0, ji, jz0, jz1, jz2⟩ := info_parts info45
    have hB : Blk w g cur 45 := hg
    have hnil : ∀ u, (binOp .eql 42 (.slice (some ⟨g, 0, none⟩) n cp) (.slice none 0 0)).run Try.prog u = .ok (.bool false) u := fun u => Lib.run_eql_slice_nil u 42 45 (some ⟨g, 0, none⟩) n cp 0 0 Try.underlying42
    have iG := hB.lt
    have hcur : CellsOf cur rs := cellsOf_own (by rw [recs_len] at hl; rw [show rs.length = n by omega]; exact hct)
    have h1 : ∀ u ∈ recs rs, u.oneCell' = true := fun u hu => by
      obtain ⟨r, _, hr⟩ := List.mem_flatMap.1 hu
      simp only [Rec.cells, List.mem_cons, List.not_mem_nil, or_false] at hr
      rcases hr with rfl | rfl | rfl | rfl | rfl | rfl | rfl | rfl | rfl | rfl <;> rfl
    have hB2 := hB.alloc (.cells #[] 45)
    have hw0 : (w.alloc (.cells #[] 45)).ownsRow 0 45 10 (.slice (some ⟨w.heap.size, 0, none⟩) 0 0) 0 [] := ⟨rfl, .inr ⟨_, 0, #[], rfl, Nat.zero_le _, Blk.new w #[] 45, Nat.le_refl _, Nat.zero_le _, rfl, rfl⟩⟩
    have hnews : ∀ (j : Nat) (u : Value), (recs rs)[j]? = some u → (w.alloc (.cells #[] 45)).cell? ((⟨g, 0, none⟩ : Addr).add j) = some u := fun j u hu => by
      rw [addr_add0, hB2.cell j]
      rw [← hct, List.getElem?_take] at hu
      split at hu
      · simpa using hu
      · cases hu
    have HH := Lib.hid (And.intro hw0 hnews)
    clear hw0 hnews hcur h hg hct
    go_enter Try.func36, Try.ntmps36
    go_wp2_with (at_builtin; refine wpList_append_own_at _ rfl (.tmp 5) (.tmp 6) 42 rfl 0 45 j0 _ 10 104 Try.underlying42 ji jz0 jz1 jz2 rfl (by decide) (.slice (some ⟨w.heap.size, 0, none⟩) 0 0) 0 [] rfl HH.out.1 ⟨g, 0, none⟩ n cp (recs rs) rfl hl HH.out.2 h1 (by unfold maxLen; omega) (by omega) (Nat.zero_le _) ?_)
    intro v' w1 hown1 hgrow _ hloc
    have HX := Lib.hid (And.intro hown1 (And.intro hgrow hloc))
    clear hown1 hgrow hloc
    go_wp2_with fail
    obtain ⟨hown1, hgrow, hloc⟩ := HX.out
    refine bodyPost_ret (v := v') (by simp [results, Try.results36, go_sem]) rfl ⟨_, rfl, ?_, hown1, fun b hb => ?_⟩
    · exact (((Keep.refl (fun b => b = w.heap.size) w).alloc (.cells #[] 45)).grown hgrow (fun b hb => .inl (by simpa [Value.ownBlock] using hb.symm))).below (Nat.le_refl _) (fun i hi e => by omega)
    · rcases hloc with e | e
      · rw [hb] at e
        have : b = w.heap.size := by simpa [Value.ownBlock] using e
        omega
      · rw [hb] at e
        injection e with e
        omega
set_option maxHeartbeats 1000000 in
/-- Core of a good number: a copy of the row. -/
theorem RLog.core {B : Nat} {ex : List Nat} {w : World} {L n : Nat} {rs : Nat → List Rec} {lc : Nat → Int} (h0 : RLog B ex w L n rs lc) (j : Nat) (hj : j < n) (hm : (rs j).length ≤ 256) :
    Calls Try.prog 30 #[.pointer (some ⟨L, 0, none⟩), .int .i64 j] w fun e w' => ∃ v, e = .returned v ∧ Below w.heap.size w w' ∧ w'.ownsRow 0 45 10 v (rs j).length (recs (rs j)) ∧ ∀ b, v.ownBlock = some b → w.heap.size ≤ b := by
  obtain ⟨A, T, tc, rv, tv, h, _⟩ := h0
  have iL := h.hL.lt
  have iA := h.hA.lt
  have cL := h.hL.cell 0
  simp only [List.getElem?_toArray, List.getElem?_cons_zero] at cL
  obtain ⟨a, cp, r1, r2, r3⟩ := h.row j hj
  have cA := h.hA.cell j
  rw [r1] at cA
  have e0 : lenOf rs j = (rs j).length := rfl
  rw [e0] at cA r2
  have H := Lib.hid r2
  clear r1 r2 r3 h e0
  go_enter Try.func30, Try.ntmps30
  go_wp2_with (first
    | (go_at_call 32; refine (core_in L A n j _ cL hj).mono ?_; rintro e w' ⟨rfl, hb⟩; obtain ⟨p, rfl⟩ := hb.rest; clear hb)
    | (go_at_call 36; refine (clone36 _ a (rs j).length cp (rs j) (by omega) (((Keep.refl (fun _ => False) w).junk _).own H.out (fun _ _ e => e))).mono ?_; rintro e w' ⟨v, rfl, hb, hv, hl⟩))
  refine bodyPost_ret (v := v) (by simp [results, Try.results30, go_sem]) rfl ⟨_, rfl, (below_of_junk w _).trans (hb.mono (by simp)), hv, fun b hb' => by have := hl b hb'; simp at this; omega⟩
set_option maxHeartbeats 1000000 in
/-- What is spoilt: the blocks of the row alone. -/
theorem spoil31 (w : World) (a : Option Addr) (n cp : Nat) (rs : List Rec) (hn : n ≤ 1000000) (h : w.ownsRow 0 45 10 (.slice a n cp) n (recs rs)) :
    Calls Try.prog 31 #[.slice a n cp] w fun e w' => e = .returned (.tuple #[]) ∧ Keep (fun b => (Value.slice a n cp).ownBlock = some b) w w' := by
  have hl := h.1
  rw [recs_len] at hl
  have HO := Lib.hid h
  clear h
  go_enter Try.func31, Try.ntmps31
  go_wp2_with fail
  go_loopw [2] (fun i wr => ∃ k : Nat, i = .int .i64 k ∧ k ≤ n ∧ Keep (fun b => (Value.slice a n cp).ownBlock = some b) w wr ∧ ∀ g, (Value.slice a n cp).ownBlock = some g → ∃ cc, Blk wr g cc 45 ∧ ∀ (q : Nat) (r : Rec), k ≤ q → rs[q]? = some r → cc[q * 10]? = some (.int .i64 r.c)) (fun i _ => n - (intOf i).toNat)
  case atStart =>
    refine ⟨0, rfl, by omega, Keep.refl _ _, fun g hg => ?_⟩
    rcases HO.out.2 with ⟨e, h0⟩ | ⟨g2, cap, cur, e, _, hg2, hnc, hcm, hcs, hct⟩
    · rw [e] at hg; simp [Value.ownBlock] at hg
    · rw [e] at hg
      have e2 : g2 = g := by simpa [Value.ownBlock] using hg
      subst e2
      refine ⟨cur, hg2, fun q r _ hq => ?_⟩
      have := (cellsOf_own (cc := cur) (l := rs) (by rw [show rs.length = n by omega]; exact hct)) q r hq 0 (by omega)
      simpa [Rec.cells] using this
  case round =>
    obtain ⟨k, rfl, hk, hkeep, hrow⟩ := hrel
    by_cases hlt : k < n
    · obtain ⟨g, cap, e, glt, gc, _⟩ := own_cells HO.out (by omega)
      injection e with e1 e2 e3
      subst e1
      subst e3
      obtain ⟨cc, hB, hcc⟩ := hrow g rfl
      obtain ⟨r, hr⟩ : ∃ r, rs[k]? = some r := ⟨_, List.getElem?_eq_getElem (by omega)⟩
      have iG := hB.lt
      have c0 := hB.cell (k * 10)
      rw [hcc k r (Nat.le_refl _) hr] at c0
      have f0 := hB.frozen (k * 10)
      have H := Lib.hid (And.intro hB (And.intro hcc hkeep))
      clear hB hcc hkeep hrow
      go_wp2_with fail
      go_roundw
      case rel =>
        obtain ⟨hB, hcc, hkeep⟩ := H.out
        refine ⟨k + 1, by go_num, by omega, hkeep.setCell (p := ⟨g, k * 10, none⟩) (.inl rfl) _, fun g2 hg2 => ?_⟩
        have e2 : g = g2 := by simpa [Value.ownBlock] using hg2
        subst e2
        refine ⟨_, hB.set_ _ _, fun q r' hq hr' => ?_⟩
        rw [Array.getElem?_setIfInBounds_ne (by omega)]
        exact hcc q r' (by omega) hr'
      case measure => simp [intOf]; omega
    · have H := Lib.hid hkeep
      clear hkeep hrow
      go_wp2_with fail
      go_end0
      exact ⟨rfl, H.out⟩
end Go.Proofs.Ytpndplbomnjioaa
