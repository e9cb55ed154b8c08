/- slices.DeleteFunc over the records of a row, at the predicate that Drop hands over. Conditions: none. -/
import Derived.Test.YtpndplbomnjioaaDrop1
set_option linter.unusedVariables false
namespace Go.Proofs.Ytpndplbomnjioaa
open Go.RowKit
def zRec : Value := .agg #[.int .i64 0, .int .i64 0, .int .i64 0, .int .i64 0, .int .i64 0, .int .i64 0, .int .i64 0, .string ⟨#[]⟩, .string ⟨#[]⟩, .string ⟨#[]⟩]
theorem zero45 : ∀ w, (zeroValue 45).run Try.prog w = .ok zRec w := fun w => by
  first | kernel_rfl | (go_simp; rfl)
/-- What firstGone gives: -1 and none goes, or the first that goes. -/
theorem firstGone_spec (f : Rec → Bool) : ∀ (l : List Rec) (i : Nat), (firstGone f l i = -1 ∧ ∀ (j : Nat) (r : Rec), l[j]? = some r → f r = false) ∨ ∃ (k : Nat) (r : Rec), firstGone f l i = ((i + k : Nat) : Int) ∧ l[k]? = some r ∧ f r = true ∧ ∀ (j : Nat) (r : Rec), j < k → l[j]? = some r → f r = false
  | [], i => .inl ⟨rfl, fun j r h => by simp at h⟩
  | r0 :: l, i => by
    rcases h : f r0 with _ | _
    · rcases firstGone_spec f l (i + 1) with ⟨e, hn⟩ | ⟨k, r, e, hk, hr, hn⟩
      · refine .inl ⟨by simp [firstGone, h, e], fun j r hj => ?_⟩
        cases j with
        | zero => (obtain rfl : r0 = r := by simpa using hj); exact h
        | succ j => exact hn j r (by simpa using hj)
      · refine .inr ⟨k + 1, r, by simp only [firstGone, h, if_false, Bool.false_eq_true]; rw [e]; congr 1; omega, by simpa using hk, hr, fun j r hj hl => ?_⟩
        cases j with
        | zero => (obtain rfl : r0 = r := by simpa using hl); exact h
        | succ j => exact hn j r (by omega) (by simpa using hl)
    · exact .inr ⟨0, r0, by simp [firstGone, h], rfl, h, fun j r hj => by omega⟩
/-- What the loop of DeleteFunc knows. -/
structure DelAt (w : World) (g n cap : Nat) (f : Rec → Bool) (rs : List Rec) (i j : Nat) (wr : World) : Prop where
  keep : Keep (fun b => b = g) w wr
  len : ((rs.take j).filter fun r => !f r).length = i
  lt : i < j
  le : j ≤ n
  row : ∃ (cc : Array Value) (cu : List Rec), Blk wr g cc 45 ∧ cc.size = cap * 10 ∧ cu.length = n ∧ CellsOf cc cu ∧ cu.take i = (rs.take j).filter (fun r => !f r) ∧ ∀ q, j ≤ q → cu[q]? = rs[q]?
theorem take_succ_of {l : List Rec} {j : Nat} {r : Rec} (h : l[j]? = some r) : l.take (j + 1) = l.take j ++ [r] := by
  rw [List.take_add_one, h]; rfl
set_option maxRecDepth 100000 in
set_option maxHeartbeats 2000000 in
theorem delete33 (uc uk : Int) (X : Nat) (w : World) (iX : BlockLt X w) (c0 : w.cell? ⟨X, 0, none⟩ = some (.int .i64 uc)) (c1 : w.cell? ⟨X, 1, none⟩ = some (.int .i64 uk)) (a : Option Addr) (n cp : Nat) (rs : List Rec) (hn : rs.length = n) (h256 : n ≤ 256) (hown : w.ownsRow 0 45 10 (.slice a n cp) n (recs rs)) (hXa : (Value.slice a n cp).ownBlock ≠ some X) :
    Calls Try.prog 33 #[.slice a n cp, .func (.func 34) #[] #[.pointer (some ⟨X, 0, none⟩)]] w fun e w' => e = .returned (.slice a (rs.filter fun r => !gone uc uk r).length cp) ∧
      Keep (fun b => (Value.slice a n cp).ownBlock = some b) w w' ∧ w'.ownsRow 0 45 10 (.slice a (rs.filter fun r => !gone uc uk r).length cp) (rs.filter fun r => !gone uc uk r).length (recs (rs.filter fun r => !gone uc uk r)) := by
  have hix := index37 uc uk X w iX c0 c1 a n cp rs hn h256 hown
  rcases firstGone_spec (gone uc uk) rs 0 with ⟨e0, hnone⟩ | ⟨k0, r0, e0, hk0, hr0, hbef⟩
  · have hf : (rs.filter fun r => !gone uc uk r) = rs := by
      rw [List.filter_eq_self]
      intro r hr
      obtain ⟨j, hj⟩ := List.getElem?_of_mem hr
      rw [hnone j r hj]; rfl
    rw [e0] at hix
    rw [hf, hn]
    have HO := Lib.hid hown
    clear hown
    go_enter Try.func33, Try.ntmps33
    go_wp2_with (go_at_call 37; refine hix.mono ?_; rintro e w' ⟨rfl, hb⟩)
    refine bodyPost_ret (v := .slice a n cp) (by simp [results, Try.results33, go_sem]) rfl ⟨rfl, Keep.of_below hb _, (Keep.of_below hb (fun _ => False)).own HO.out (fun _ _ e => e)⟩
  · rw [e0, Nat.zero_add] at hix
    have hk0n : k0 < n := by have := (List.getElem?_eq_some_iff.1 hk0).1; omega
    obtain ⟨hl0, h0 | ⟨g, cap, cur, e, _, hg, hnc, hcm, hcs, hct⟩⟩ := hown
    · omega
    injection e with e1 e2 e3
    subst e1
    subst e3
    have hne : ¬ g = X := fun e => hXa (by simp [Value.ownBlock, e])
    have hne' : ¬ X = g := fun e => hne e.symm
    have HG := Lib.hid hg
    have HT := Lib.hid hct
    have HB := Lib.hid hbef
    have iXl := iX.lt
    clear hg hct hbef
    have hk1 : ((k0 : Int) == -1) = false := beq_eq_false_iff_ne.2 (by omega)
    go_enter Try.func33, Try.ntmps33
    go_wp2_with (go_at_call 37; refine hix.mono ?_; rintro e w' ⟨rfl, hb⟩)
    go_loopw [5, 6] (fun s5 s6 wr => ∃ i j : Nat, s5 = .int .i64 i ∧ s6 = .int .i64 j ∧ DelAt w g n cp (gone uc uk) rs i j wr) (fun _ j _ => n - (intOf j).toNat)
    case atStart =>
      have hnk : ∀ r ∈ rs.take k0, (!gone uc uk r) = true := fun r hr => by
        obtain ⟨j, hj⟩ := List.getElem?_of_mem hr
        rw [List.getElem?_take] at hj
        split at hj
        · rw [HB.out j r ‹_› hj]; rfl
        · cases hj
      have ef : (rs.take (k0 + 1)).filter (fun r => !gone uc uk r) = rs.take k0 := by
        rw [take_succ_of hk0, List.filter_append, List.filter_eq_self.2 hnk]
        simp [hr0]
      refine ⟨k0, k0 + 1, rfl, by go_num, Keep.of_below hb _, by rw [ef]; simp; omega, by omega, by omega, cur, rs, (hb.block g (Array.getElem?_eq_some_iff.1 HG.out).1).trans HG.out, hcs, hn, cellsOf_own (by rw [hn]; exact HT.out), ef.symm, fun _ _ => rfl⟩
    case round =>
      obtain ⟨i, j, rfl, rfl, h⟩ := hrel
      have H := Lib.hid h
      have hij := h.lt
      have hjn := h.le
      obtain ⟨cc, cu, hB, hs, hcl, hco, htk, hdr⟩ := h.row
      have iG := hB.lt
      have iX2 : BlockLt X wr := ⟨Nat.lt_of_lt_of_le iXl h.keep.size⟩
      have d0 := (World.cell?_of_block (h.keep.block X iXl hne')).trans c0
      have d1 := (World.cell?_of_block (h.keep.block X iXl hne')).trans c1
      by_cases hlt : j < n
      · obtain ⟨r, hr⟩ : ∃ r, rs[j]? = some r := ⟨_, List.getElem?_eq_getElem (by omega)⟩
        have hcr := (hdr j (Nat.le_refl _)).trans hr
        obtain ⟨r2, hr2⟩ : ∃ r2, cu[i]? = some r2 := ⟨_, List.getElem?_eq_getElem (by omega)⟩
        have cj : ∀ t, t < 10 → ∀ x, r.cells[t]? = some x → wr.cell? ⟨g, j * 10 + t, none⟩ = some x := fun t ht x hx => (hB.cell _).trans ((hco j r hcr t ht).trans hx)
        have ci : ∀ t, t < 10 → ∀ x, r2.cells[t]? = some x → wr.cell? ⟨g, i * 10 + t, none⟩ = some x := fun t ht x hx => (hB.cell _).trans ((hco i r2 hr2 t ht).trans hx)
        have fg : ∀ x, wr.frozen? ⟨g, x, none⟩ = false := fun x => hB.frozen x
        have x0 := cj 0 (by omega) _ rfl
        have y0 := ci 0 (by omega) _ rfl
        have x1 := cj 1 (by omega) _ rfl
        have y1 := ci 1 (by omega) _ rfl
        have x2 := cj 2 (by omega) _ rfl
        have y2 := ci 2 (by omega) _ rfl
        have x3 := cj 3 (by omega) _ rfl
        have y3 := ci 3 (by omega) _ rfl
        have x4 := cj 4 (by omega) _ rfl
        have y4 := ci 4 (by omega) _ rfl
        have x5 := cj 5 (by omega) _ rfl
        have y5 := ci 5 (by omega) _ rfl
        have x6 := cj 6 (by omega) _ rfl
        have y6 := ci 6 (by omega) _ rfl
        have x7 := cj 7 (by omega) _ rfl
        have y7 := ci 7 (by omega) _ rfl
        have x8 := cj 8 (by omega) _ rfl
        have y8 := ci 8 (by omega) _ rfl
        have x9 := cj 9 (by omega) _ rfl
        have y9 := ci 9 (by omega) _ rfl
        simp only [Nat.add_zero] at x0 y0
        clear cj ci c0 c1
        have H3 := Lib.hid (And.intro hB (And.intro hs (And.intro hcl (And.intro hco (And.intro htk hdr)))))
        clear hB hs hcl hco htk hdr h
        rcases hg2 : gone uc uk r with _ | _
        all_goals
          have hp : ∀ w, BlockLt X w → w.cell? ⟨X, 0, none⟩ = some (.int .i64 uc) → w.cell? ⟨X, 1, none⟩ = some (.int .i64 uk) → Calls Try.prog 34 _ w _ := fun w => pred34 uc uk X r w
          rw [hg2] at hp
        · go_wp2_with (go_at_call 34; refine (hp _ inferInstance (by go_simp) (by go_simp)).mono ?_; rintro e w' ⟨rfl, hb⟩; obtain ⟨p, rfl⟩ := hb.rest; clear hb)
          go_roundw
          case rel =>
            obtain ⟨hB, hs, hcl, hco, htk, hdr⟩ := H3.out
            have ef : (rs.take (j + 1)).filter (fun r => !gone uc uk r) = (rs.take j).filter (fun r => !gone uc uk r) ++ [r] := by
              rw [take_succ_of hr, List.filter_append]
              simp [hg2]
            refine ⟨i + 1, j + 1, by go_num, by go_num, ?_, by rw [ef, List.length_append, H.out.len]; rfl, by omega, by omega, putRec cc i r, cu.set i r, ?_, by rw [putRec_size]; exact hs, by simpa using hcl, hco.put r (by omega) (by omega), ?_, fun q hq => ?_⟩
            · exact (((((((((((H.out.keep.setCell (p := ⟨g, _, none⟩) (.inl rfl) _).setCell (p := ⟨g, _, none⟩) (.inl rfl) _).setCell (p := ⟨g, _, none⟩) (.inl rfl) _).setCell (p := ⟨g, _, none⟩) (.inl rfl) _).setCell (p := ⟨g, _, none⟩) (.inl rfl) _).setCell (p := ⟨g, _, none⟩) (.inl rfl) _).setCell (p := ⟨g, _, none⟩) (.inl rfl) _).setCell (p := ⟨g, _, none⟩) (.inl rfl) _).setCell (p := ⟨g, _, none⟩) (.inl rfl) _).setCell (p := ⟨g, _, none⟩) (.inl rfl) _).alloc _).junk _
            · exact (((((((((((hB.set_ _ _).set_ _ _).set_ _ _).set_ _ _).set_ _ _).set_ _ _).set_ _ _).set_ _ _).set_ _ _).set_ _ _).alloc _).junk _
            · rw [take_succ_of (l := cu.set i r) (r := r) (List.getElem?_set_self (by omega)), ef, ← htk]
              congr 1
              apply List.ext_getElem?
              intro x
              rw [List.getElem?_take, List.getElem?_take]
              split
              · rw [List.getElem?_set_ne (by omega)]
              · rfl
            · rw [List.getElem?_set_ne (by omega)]
              exact hdr q (by omega)
          case measure => simp [intOf]; omega
        · go_wp2_with (go_at_call 34; refine (hp _ inferInstance (by go_simp) (by go_simp)).mono ?_; rintro e w' ⟨rfl, hb⟩; obtain ⟨p, rfl⟩ := hb.rest; clear hb)
          go_roundw
          case rel =>
            obtain ⟨hB, hs, hcl, hco, htk, hdr⟩ := H3.out
            have ef : (rs.take (j + 1)).filter (fun r => !gone uc uk r) = (rs.take j).filter (fun r => !gone uc uk r) := by
              rw [take_succ_of hr, List.filter_append]
              simp [hg2]
            refine ⟨i, j + 1, rfl, by go_num, (H.out.keep.alloc _).junk _, by rw [ef]; exact H.out.len, by omega, by omega, cc, cu, (hB.alloc _).junk _, hs, hcl, hco, by rw [ef]; exact htk, fun q hq => hdr q (by omega)⟩
          case measure => simp [intOf]; omega
      · obtain rfl : j = n := by omega
        have ht : rs.take j = rs := List.take_of_length_le (by omega)
        obtain ⟨vs, hvs⟩ : ∃ vs, (Builtin.zeroCells zRec.cells (j - i)).toList = vs := ⟨_, rfl⟩
        have hvl : vs.length = (j - i) * 10 := by rw [← hvs]; simp [Builtin.zeroCells, zRec, Value.cells]
        have hcl2 : ∀ ty, (Builtin.clear_ #[42] ty #[.slice (some ⟨g, i * 10, none⟩) (j - i) (cp - i)]).run Try.prog wr = .ok (.tuple #[]) (wr.setCells g (i * 10) vs) := fun ty => by
          rw [← hvs]
          refine run_clear_wide wr 42 45 ty zRec Try.underlying42 zero45 (by decide) g (i * 10) (j - i) (cp - i) (by omega) (fun x hx => ?_) (fun x hx => hB.frozen _)
          rw [hvs, hvl] at hx
          rw [hB.cell, Array.getElem?_eq_getElem (by omega)]
          rfl
        have hij2 : (i : Int) < j := by omega
        have H3 := Lib.hid (And.intro hB (And.intro hs (And.intro hcl (And.intro hco (And.intro htk hdr)))))
        clear hB hs hcl hco htk hdr h c0 c1 hvs
        go_wp2_with fail
        refine bodyPost_ret (v := .slice (some ⟨g, 0, none⟩) i cp) (by simp [results, Try.results33, go_sem]) rfl ?_
        obtain ⟨hB, hs, hcl, hco, htk, hdr⟩ := H3.out
        have hlen := H.out.len
        rw [ht] at hlen htk
        obtain ⟨c', b1, b2, b3⟩ := blk_setCells vs (i * 10) _ _ hB
        have hkl : (rs.filter fun r => !gone uc uk r).length = i := hlen
        rw [hkl]
        refine ⟨rfl, (keep_setCells (S := fun b => b = g) rfl vs (i * 10) _ H.out.keep).mono (fun b _ e => by simp [Value.ownBlock, e]), by rw [recs_len, hkl], .inr ⟨g, cp, c', rfl, Nat.zero_le _, b1, by omega, hcm, by omega, ?_⟩⟩
        have hc2 : CellsOf c' (rs.filter fun r => !gone uc uk r) := by
          intro q r hq t h10
          have hqi : q < i := by have := (List.getElem?_eq_some_iff.1 hq).1; omega
          rw [← htk, List.getElem?_take, if_pos hqi] at hq
          rw [b3 _ (by omega)]
          exact hco q r hq t h10
        have := hc2.take (by rw [hkl]; omega)
        rw [hkl] at this
        exact this
end Go.Proofs.Ytpndplbomnjioaa
