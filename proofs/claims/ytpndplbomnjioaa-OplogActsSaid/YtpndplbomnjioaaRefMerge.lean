/- The document's Merge. Conditions: none. -/
import Derived.Test.YtpndplbomnjioaaRef0
import Derived.Test.YtpndplbomnjioaaRLaw
set_option linter.unusedVariables false
namespace Go.Proofs.Ytpndplbomnjioaa
open Go.RowKit
def rowsAt (rs : Nat → List Rec) (i k j : Nat) : List Rec := if j < i then rs j else if j = i then (rs i).take k else []
/-- What the innermost loop knows: the row with a gap at j. -/
structure GapAt (w1 : World) (g m cap : Nat) (r : Rec) (out : List Rec) (j : Nat) (wx : World) : Prop where
  keep : Keep (fun b => b = g) w1 wx
  le : j ≤ m
  row : ∃ (cc : Array Value) (cu : List Rec), Blk wx g cc 45 ∧ cc.size = cap * 10 ∧ cu.length = m + 1 ∧ CellsOf cc cu ∧ (∀ q, q < j → cu[q]? = out[q]?) ∧ ∀ q, j < q → cu[q]? = out[q - 1]?
  up : ∀ (q : Nat) (x : Rec), j ≤ q → out[q]? = some x → lessB r.c r.k x.c x.k = true
theorem gap_done {out cu : List Rec} {m j : Nat} {r : Rec} (hm : out.length = m) (hj : j ≤ m) (hl : cu.length = m + 1) (h1 : ∀ q, q < j → cu[q]? = out[q]?) (h2 : ∀ q, j < q → cu[q]? = out[q - 1]?) : cu.set j r = out.take j ++ r :: out.drop j := by
  apply List.ext_getElem?
  intro q
  rcases Nat.lt_trichotomy q j with h | h | h
  · rw [List.getElem?_set_ne (by omega), h1 q h, List.getElem?_append_left (by simp; omega), List.getElem?_take, if_pos h]
  · subst h
    rw [List.getElem?_set_self (by omega), List.getElem?_append_right (by simp; omega)]
    have e : q - (out.take q).length = 0 := by simp; omega
    rw [e]; rfl
  · rw [List.getElem?_set_ne (by omega), h2 q h, List.getElem?_append_right (by simp; omega)]
    have e : q - (out.take j).length = (q - 1 - j) + 1 := by simp; omega
    rw [e, List.getElem?_cons_succ, List.getElem?_drop]
    congr 1
    omega
set_option maxRecDepth 100000 in
set_option maxHeartbeats 4000000 in
theorem RRef.merge {B : Nat} {ex : List Nat} {w : World} {L n : Nat} {rs : Nat → List Rec} {lc : Nat → Int} (h0 : RRef B ex w L n rs lc) (ok : RowsOk rs n) (hms : ∀ j, j < n → (rs j).length ≤ 256) :
    Calls Try.prog 35 #[.pointer (some ⟨L, 0, none⟩)] w fun e w' => ∃ v, e = .returned v ∧ Below w.heap.size w w' ∧ w'.ownsRow 0 45 10 v (pickOf rs (mergeAll rs n)).length (recs (pickOf rs (mergeAll rs n))) ∧ ∀ b, v.ownBlock = some b → w.heap.size ≤ b := by
  obtain ⟨A, T, tc, rv, tv, h, _⟩ := h0
  have h8 := h.n8
  have iL := h.hL.lt
  have iA := h.hA.lt
  have cL := h.hL.cell 0
  simp only [List.getElem?_toArray, List.getElem?_cons_zero] at cL
  have HH := Lib.hid h
  clear h
  go_enter Try.func35, Try.ntmps35
  go_wp2_with fail
  go_loopw [3, 4] (fun s3 s4 wr => ∃ (i : Nat) (out : List Rec), s4 = .int .i64 i ∧ i ≤ n ∧ Below w.heap.size w wr ∧ wr.ownsRow 0 45 10 s3 out.length (recs out) ∧ (∀ b, s3.ownBlock = some b → w.heap.size ≤ b) ∧ SortOf out (rowsAt rs i 0) n ∧ out.length ≤ 256 * i) (fun _ i _ => 9 - (intOf i).toNat)
  case atStart =>
    exact ⟨0, [], rfl, by omega, bel _ _, ⟨rfl, .inl ⟨rfl, rfl⟩⟩, by simp [Value.ownBlock], ⟨List.Pairwise.nil, fun j hj => by simp [rowsAt], fun r hr => by cases hr⟩, by simp⟩
  case round =>
    obtain ⟨i, out, rfl, hin, hb, hown, hloc, hsort, hlen⟩ := hrel
    have iBel : Bel w wr := ⟨hb⟩
    have iL2 : BlockLt L wr := ⟨Nat.lt_of_lt_of_le iL.lt hb.size⟩
    have iA2 : BlockLt A wr := ⟨Nat.lt_of_lt_of_le iA.lt hb.size⟩
    have cL2 := (hb.cell (p := ⟨L, 0, none⟩) iL.lt).trans cL
    obtain ⟨a0, cp0, rfl⟩ := own_form hown
    have H1 := Lib.hid (And.intro hb (And.intro hown (And.intro hloc hsort)))
    clear hb hown hloc hsort
    by_cases hlt : i < n
    · obtain ⟨a, cp, r1, r2, r3⟩ := HH.out.row i hlt
      have cA := HH.out.hA.cell i
      rw [r1] at cA
      have e0 : lenOf rs i = (rs i).length := rfl
      rw [e0] at cA r2
      have hm := hms i hlt
      have HR := Lib.hid r2
      clear r1 r2 r3 e0
      go_wp2_with fail
      go_loopw [3, 5] (fun s3 s5 wi => ∃ (k : Nat) (out : List Rec), s5 = .int .i64 k ∧ k ≤ (rs i).length ∧ Below w.heap.size w wi ∧ wi.ownsRow 0 45 10 s3 out.length (recs out) ∧ (∀ b, s3.ownBlock = some b → w.heap.size ≤ b) ∧ SortOf out (rowsAt rs i k) n ∧ out.length ≤ 256 * i + k) (fun _ k _ => 257 - (intOf k).toNat)
      case atStart => exact ⟨0, out, rfl, by omega, H1.out.1, H1.out.2.1, H1.out.2.2.1, H1.out.2.2.2, by omega⟩
      case round =>
        clear H1 hlen
        rename World => wi
        obtain ⟨k, out, rfl, hk, hb, hown, hloc, hsort, hlen⟩ := hrel
        have iBel : Bel w wi := ⟨hb⟩
        have iL3 : BlockLt L wi := ⟨Nat.lt_of_lt_of_le iL.lt hb.size⟩
        have iA3 : BlockLt A wi := ⟨Nat.lt_of_lt_of_le iA.lt hb.size⟩
        have cL3 := (hb.cell (p := ⟨L, 0, none⟩) iL.lt).trans cL
        have cA3 := (hb.cell (p := ⟨A, i, none⟩) iA.lt).trans cA
        obtain ⟨a1, cp1, rfl⟩ := own_form hown
        have H1 := Lib.hid (And.intro hb (And.intro hown (And.intro hloc hsort)))
        have hbs := hb.size
        clear hb hown hloc hsort
        by_cases hlt2 : k < (rs i).length
        · obtain ⟨g0, cap0, r, e, glt, hr, hc⟩ := own_rec HR.out hlt2
          injection e with e1 _ e3
          subst e1
          subst e3
          have iG : BlockLt g0 wi := ⟨by omega⟩
          have c1 : ∀ t, t < 10 → ∀ x, r.cells[t]? = some x → wi.cell? ⟨g0, k * 10 + t, none⟩ = some x := fun t ht x hx => (H1.out.1.cell (p := ⟨g0, _, none⟩) glt).trans (hc t ht x hx)
          have x0 := c1 0 (by omega) _ rfl
          have x1 := c1 1 (by omega) _ rfl
          have x2 := c1 2 (by omega) _ rfl
          have x3 := c1 3 (by omega) _ rfl
          have x4 := c1 4 (by omega) _ rfl
          have x5 := c1 5 (by omega) _ rfl
          have x6 := c1 6 (by omega) _ rfl
          have x7 := c1 7 (by omega) _ rfl
          have x8 := c1 8 (by omega) _ rfl
          have x9 := c1 9 (by omega) _ rfl
          simp only [Nat.add_zero] at x0
          clear hc c1
          have hR := Blk.new wi #[.int .i64 r.c, .int .i64 r.k, .int .i64 r.kind, .int .i64 r.core, .int .i64 r.fd, .int .i64 r.off, .int .i64 r.num, .string r.path, .string r.path2, .string r.data] 45
          have hown0 := H1.out.2.1.alloc (.cells #[.int .i64 r.c, .int .i64 r.k, .int .i64 r.kind, .int .i64 r.core, .int .i64 r.fd, .int .i64 r.off, .int .i64 r.num, .string r.path, .string r.path2, .string r.data] 45)
          obtain ⟨j0, ji, jz0, jz1, jz2⟩ := info_parts info45
          go_wp2_with (at_builtin; refine wpList_append_own_at _ rfl (.tmp 39) (.tmp 41) 42 rfl 0 45 j0 _ 10 104 Try.underlying42 ji jz0 jz1 jz2 rfl (by decide) (.slice a1 out.length cp1) out.length _ rfl (hown0.alloc _) ⟨_, 0, none⟩ 1 1 r.cells rfl rfl (fun j' u hu => news_new _ r.cells 45 _ j' u hu) (by simp [Value.oneCell', Rec.cells]) (by unfold maxLen; omega) (by omega) (Nat.zero_le _) ?_)
          intro v' w1 hown1 hgrow _ hlocg
          rw [← recs_add] at hown1
          obtain ⟨_, h00 | ⟨g, cap, cur, rfl, _, hg, hnc, hcm, hcs, hct⟩⟩ := hown1
          · omega
          have hszW : ((wi.alloc (.cells #[.int .i64 r.c, .int .i64 r.k, .int .i64 r.kind, .int .i64 r.core, .int .i64 r.fd, .int .i64 r.off, .int .i64 r.num, .string r.path, .string r.path2, .string r.data] 45)).alloc (.cells r.cells.toArray 45)).heap.size = wi.heap.size + 1 + 1 := by simp
          have hobl : ∀ b, (Value.slice a1 out.length cp1).ownBlock = some b → b < wi.heap.size := fun b hb => own_lt H1.out.2.1 hb
          have K1 : Keep (fun b => (Value.slice a1 out.length cp1).ownBlock = some b) ((wi.alloc (.cells #[.int .i64 r.c, .int .i64 r.k, .int .i64 r.kind, .int .i64 r.core, .int .i64 r.fd, .int .i64 r.off, .int .i64 r.num, .string r.path, .string r.path2, .string r.data] 45)).alloc (.cells r.cells.toArray 45)) w1 := (Keep.refl _ _).grown hgrow (fun b hb => .inl hb)
          have hR1 := K1.blk (hR.alloc (.cells r.cells.toArray 45)) (fun e => by have := hobl _ e; omega)
          have hRg : ¬ wi.heap.size = g := by
            rcases hlocg with h | h
            · intro e
              have : (Value.slice a1 out.length cp1).ownBlock = some g := h.symm.trans rfl
              have := hobl g this
              omega
            · intro e
              have h2 : some g = some (wi.heap.size + 1 + 1) := h
              injection h2 with h2
              omega
          have hgw : w.heap.size ≤ g := by
            rcases hlocg with h | h
            · exact H1.out.2.2.1 g (h.symm.trans rfl)
            · have h2 : some g = some (wi.heap.size + 1 + 1) := h
              injection h2 with h2
              omega
          have hbw1 : Below w.heap.size w w1 := (((H1.out.1.alloc hbs _).alloc (by simp; omega) _)).trans (K1.below (by omega) (fun x hx h => by have := H1.out.2.2.1 x h; omega))
          have H3 := Lib.hid (And.intro hR1 (And.intro hbw1 hgw))
          have hcur : CellsOf cur (out ++ [r]) := cellsOf_own (by simpa using hct)
          have HC := Lib.hid (And.intro hg (And.intro hcs hcur))
          clear hg hct hcs hcur hgrow hlocg K1 hszW hbw1 hobl hown0 hR
          have hRg' : ¬ g = wi.heap.size := fun e => hRg e.symm
          go_wp2_with fail
          go_loopw [7] (fun s7 wx => ∃ j : Nat, s7 = .int .i64 j ∧ GapAt w1 g out.length cap r out j wx) (fun s7 _ => (intOf s7).toNat)
          case atStart =>
            obtain ⟨hg, hcs, hcur⟩ := HC.out
            refine ⟨out.length, by go_num, Keep.refl _ _, by omega, ⟨cur, out ++ [r], hg, hcs, by simp, hcur, fun q hq => by rw [List.getElem?_append_left hq], fun q hq => ?_⟩, fun q x hq hx => ?_⟩
            · rw [List.getElem?_eq_none (by simp; omega), List.getElem?_eq_none (by omega)]
            · rw [List.getElem?_eq_none hq] at hx; cases hx
          case round =>
            rename World => wx
            obtain ⟨j, rfl, hd⟩ := hrel
            have H4 := Lib.hid hd
            have hjm := hd.le
            have hjm2 : (j : Int) < (out.length : Int) + 1 := by omega
            obtain ⟨cc, cu, hB, hcs2, hcl, hco, hdn, hup2⟩ := hd.row
            have iG2 := hB.lt
            have hR2 := hd.keep.blk hR1 hRg
            have iR2 := hR2.lt
            have rr : ∀ t, t < 10 → ∀ x, r.cells[t]? = some x → wx.cell? ⟨wi.heap.size, t, none⟩ = some x := fun t ht x hx => (hR2.cell t).trans (by simpa [Rec.cells] using hx)
            have fg : ∀ x, wx.frozen? ⟨g, x, none⟩ = false := fun x => hB.frozen x
            obtain ⟨y, hy⟩ : ∃ y, cu[j]? = some y := ⟨_, List.getElem?_eq_getElem (by omega)⟩
            have cy : ∀ t, t < 10 → ∀ x, y.cells[t]? = some x → wx.cell? ⟨g, j * 10 + t, none⟩ = some x := fun t ht x hx => (hB.cell _).trans ((hco j y hy t ht).trans hx)
            have s0 := rr 0 (by omega) _ rfl
            have s1 := rr 1 (by omega) _ rfl
            have s2 := rr 2 (by omega) _ rfl
            have s3 := rr 3 (by omega) _ rfl
            have s4 := rr 4 (by omega) _ rfl
            have s5 := rr 5 (by omega) _ rfl
            have s6 := rr 6 (by omega) _ rfl
            have s7 := rr 7 (by omega) _ rfl
            have s8 := rr 8 (by omega) _ rfl
            have s9 := rr 9 (by omega) _ rfl
            have y0 := cy 0 (by omega) _ rfl
            have y1 := cy 1 (by omega) _ rfl
            have y2 := cy 2 (by omega) _ rfl
            have y3 := cy 3 (by omega) _ rfl
            have y4 := cy 4 (by omega) _ rfl
            have y5 := cy 5 (by omega) _ rfl
            have y6 := cy 6 (by omega) _ rfl
            have y7 := cy 7 (by omega) _ rfl
            have y8 := cy 8 (by omega) _ rfl
            have y9 := cy 9 (by omega) _ rfl
            simp only [Nat.add_zero] at y0
            clear rr cy
            by_cases hj0 : 0 < j
            · obtain ⟨jj, hjj⟩ : ∃ jj, j = jj + 1 := ⟨j - 1, by omega⟩
              have hsub : (j : Int) - 1 = jj := by omega
              have hjjm : jj < out.length := by omega
              have hjw : IntKind.i64.wrap (jj : Int) = jj := by rw [IntKind.wrap_i64]; omega
              have hjb : (jj : Int) < (out.length : Int) + 1 := by omega
              obtain ⟨x, hx⟩ : ∃ x, out[jj]? = some x := ⟨_, List.getElem?_eq_getElem hjjm⟩
              have hxc := (hdn jj (by omega)).trans hx
              have cx : ∀ t, t < 10 → ∀ v, x.cells[t]? = some v → wx.cell? ⟨g, jj * 10 + t, none⟩ = some v := fun t ht v hv => (hB.cell _).trans ((hco jj x hxc t ht).trans hv)
              have z0 := cx 0 (by omega) _ rfl
              have z1 := cx 1 (by omega) _ rfl
              have z2 := cx 2 (by omega) _ rfl
              have z3 := cx 3 (by omega) _ rfl
              have z4 := cx 4 (by omega) _ rfl
              have z5 := cx 5 (by omega) _ rfl
              have z6 := cx 6 (by omega) _ rfl
              have z7 := cx 7 (by omega) _ rfl
              have z8 := cx 8 (by omega) _ rfl
              have z9 := cx 9 (by omega) _ rfl
              simp only [Nat.add_zero] at z0
              clear cx
              have HJ := Lib.hid hjj
              have H5 := Lib.hid (And.intro hB (And.intro hcs2 (And.intro hcl (And.intro hco (And.intro hdn hup2)))))
              clear hB hcs2 hcl hco hdn hup2 hd hjj
              have hless : ∀ w, Calls Try.prog 14 #[.agg #[.int .i64 r.c, .int .i64 r.k], .agg #[.int .i64 x.c, .int .i64 x.k]] w _ := fun w => refless_any r.c r.k x.c x.k w
              rcases hg2 : lessB r.c r.k x.c x.k with _ | _
              all_goals
                rw [hg2] at hless
                go_wp2_with fail
                refine wp_region_quiet_rest (by kernel_rfl) (by kernel_rfl) (WQ.out ?_)
                repeat
                  refine WQ_step (fun K hK => ?_)
                  go_simp
                  first
                    | (refine hK _ ?_; clear hK K)
                    | (apply Exists.intro
                       refine ⟨fun _ => ?_, hK _ ?_⟩
                       focus
                         go_at_call 14
                         refine calls_in (hless _) (fun w' hb => ?_)
                         first | exact rest1 hb | exact rest2 hb
                       clear hK K)
                refine WQ_nil ?_
                intro w2 hw2
                obtain ⟨p, hw2⟩ := hw2
                subst hw2
              · go_wp2_with fail
                go_roundw
                case rel =>
                  obtain ⟨hB, hcs2, hcl, hco, hdn, hup2⟩ := H5.out
                  have hBF : Blk (((((((((((wx.setCell ⟨g, j * 10, none⟩ (.int .i64 r.c)).setCell ⟨g, j * 10 + 1, none⟩ (.int .i64 r.k)).setCell ⟨g, j * 10 + 2, none⟩ (.int .i64 r.kind)).setCell ⟨g, j * 10 + 3, none⟩ (.int .i64 r.core)).setCell ⟨g, j * 10 + 4, none⟩ (.int .i64 r.fd)).setCell ⟨g, j * 10 + 5, none⟩ (.int .i64 r.off)).setCell ⟨g, j * 10 + 6, none⟩ (.int .i64 r.num)).setCell ⟨g, j * 10 + 7, none⟩ (.string r.path)).setCell ⟨g, j * 10 + 8, none⟩ (.string r.path2)).setCell ⟨g, j * 10 + 9, none⟩ (.string r.data)).junk p) g (putRec cc j r) 45 := (((((((((((hB.set_ _ _).set_ _ _).set_ _ _).set_ _ _).set_ _ _).set_ _ _).set_ _ _).set_ _ _).set_ _ _).set_ _ _).junk p)
                  have hlist := gap_done (r := r) (m := out.length) rfl H4.out.le hcl hdn hup2
                  have hco2 := hco.put r (i := j) (by have := H4.out.le; omega) (by omega)
                  rw [hlist] at hco2
                  have hl2 : (out.take j ++ r :: out.drop j).length = out.length + 1 := by have := H4.out.le; simp; omega
                  have hKF : Keep (fun b => b = g) w1 (((((((((((wx.setCell ⟨g, j * 10, none⟩ (.int .i64 r.c)).setCell ⟨g, j * 10 + 1, none⟩ (.int .i64 r.k)).setCell ⟨g, j * 10 + 2, none⟩ (.int .i64 r.kind)).setCell ⟨g, j * 10 + 3, none⟩ (.int .i64 r.core)).setCell ⟨g, j * 10 + 4, none⟩ (.int .i64 r.fd)).setCell ⟨g, j * 10 + 5, none⟩ (.int .i64 r.off)).setCell ⟨g, j * 10 + 6, none⟩ (.int .i64 r.num)).setCell ⟨g, j * 10 + 7, none⟩ (.string r.path)).setCell ⟨g, j * 10 + 8, none⟩ (.string r.path2)).setCell ⟨g, j * 10 + 9, none⟩ (.string r.data)).junk p) := (((((((((((H4.out.keep.setCell (p := ⟨g, _, none⟩) (.inl rfl) _).setCell (p := ⟨g, _, none⟩) (.inl rfl) _).setCell (p := ⟨g, _, none⟩) (.inl rfl) _).setCell (p := ⟨g, _, none⟩) (.inl rfl) _).setCell (p := ⟨g, _, none⟩) (.inl rfl) _).setCell (p := ⟨g, _, none⟩) (.inl rfl) _).setCell (p := ⟨g, _, none⟩) (.inl rfl) _).setCell (p := ⟨g, _, none⟩) (.inl rfl) _).setCell (p := ⟨g, _, none⟩) (.inl rfl) _).setCell (p := ⟨g, _, none⟩) (.inl rfl) _).junk p)
                  refine ⟨k + 1, out.take j ++ r :: out.drop j, by go_num, by omega, H3.out.2.1.trans (hKF.below H3.out.2.1.size (fun i hi h => by have := H3.out.2.2; omega)), ?_, fun b hb => ?_, ?_, by omega⟩
                  · refine ⟨by rw [recs_len], .inr ⟨g, cap, _, by rw [hl2], Nat.zero_le _, hBF, by omega, hcm, by rw [putRec_size]; exact hcs2, ?_⟩⟩
                    exact hco2.take (by rw [putRec_size]; omega)
                  · have e : b = g := by
                      have : (Value.slice (some ⟨g, 0, none⟩) (out.length + 1) cap).ownBlock = some b := hb
                      simpa [Value.ownBlock] using this.symm
                    rw [e]; exact H3.out.2.2
                  · refine (H1.out.2.2.2).insert (i := i) hlt (ok.core i hlt k r hr) H4.out.le H4.out.up (.inr ⟨x, by rw [HJ.out]; exact hx, hg2⟩) (fun x hx hxk => ?_) ?_ (fun j' hj' hne => ?_)
                    · have hx2 : x ∈ (rs i).take k := by
                        have e := H1.out.2.2.2.rows i hlt
                        have e2 : rowsAt rs i k i = (rs i).take k := by simp [rowsAt]
                        rw [← e2, ← e]
                        exact List.mem_filter.2 ⟨hx, by simp [isK, hxk]⟩
                      obtain ⟨q, hq⟩ := List.getElem?_of_mem hx2
                      rw [List.getElem?_take] at hq
                      split at hq
                      · exact ok.mono i hlt q k x r (by omega) hq hr
                      · cases hq
                    · simp [rowsAt, take_succ_of hr]
                    · unfold rowsAt
                      by_cases h : j' < i
                      · rw [if_pos h, if_pos h]
                      · rw [if_neg h, if_neg h, if_neg hne, if_neg hne]
                case measure => simp [intOf]; omega
              · go_wp2_with fail
                go_roundw
                case rel =>
                  obtain ⟨hB, hcs2, hcl, hco, hdn, hup2⟩ := H5.out
                  have hj := HJ.out
                  refine ⟨jj, by go_num, ((((((((((H4.out.keep.setCell (p := ⟨g, _, none⟩) (.inl rfl) _).setCell (p := ⟨g, _, none⟩) (.inl rfl) _).setCell (p := ⟨g, _, none⟩) (.inl rfl) _).setCell (p := ⟨g, _, none⟩) (.inl rfl) _).setCell (p := ⟨g, _, none⟩) (.inl rfl) _).setCell (p := ⟨g, _, none⟩) (.inl rfl) _).setCell (p := ⟨g, _, none⟩) (.inl rfl) _).setCell (p := ⟨g, _, none⟩) (.inl rfl) _).setCell (p := ⟨g, _, none⟩) (.inl rfl) _).setCell (p := ⟨g, _, none⟩) (.inl rfl) _).junk p, by omega, ⟨putRec cc j x, cu.set j x, ((((((((((hB.set_ _ _).set_ _ _).set_ _ _).set_ _ _).set_ _ _).set_ _ _).set_ _ _).set_ _ _).set_ _ _).set_ _ _).junk p, by rw [putRec_size]; exact hcs2, by simpa using hcl, hco.put x (by omega) (by omega), fun q hq => ?_, fun q hq => ?_⟩, fun q x' hq hx' => ?_⟩
                  · rw [List.getElem?_set_ne (by omega)]
                    exact hdn q (by omega)
                  · by_cases e : q = j
                    · subst e
                      rw [List.getElem?_set_self (by omega), show q - 1 = jj by omega, hx]
                    · rw [List.getElem?_set_ne (by omega)]
                      exact hup2 q (by omega)
                  · by_cases e : q = jj
                    · subst e
                      rw [hx] at hx'
                      injection hx' with hx'
                      subst hx'
                      exact hg2
                    · exact H4.out.up q x' (by omega) hx'
                case measure => simp [intOf]; have := HJ.out; omega
            · have H5 := Lib.hid (And.intro hB (And.intro hcs2 (And.intro hcl (And.intro hco (And.intro hdn hup2)))))
              clear hB hcs2 hcl hco hdn hup2 hd
              have hj00 : j = 0 := by omega
              have HJ := Lib.hid hj00
              clear hj00
              go_wp2_with fail
              refine wp_region_quiet_rest (by kernel_rfl) (by kernel_rfl) (WQ.out ?_)
              repeat
                refine WQ_step (fun K hK => ?_)
                go_simp
                first
                  | (refine hK _ ?_; clear hK K)
                  | (apply Exists.intro
                     refine ⟨fun _ => ?_, hK _ ?_⟩
                     focus
                       fail
                     clear hK K)
              refine WQ_nil ?_
              intro w2 hw2
              obtain ⟨p, hw2⟩ := hw2
              subst hw2
              go_wp2_with fail
              go_roundw
              case rel =>
                obtain ⟨hB, hcs2, hcl, hco, hdn, hup2⟩ := H5.out
                have hBF : Blk (((((((((((wx.setCell ⟨g, j * 10, none⟩ (.int .i64 r.c)).setCell ⟨g, j * 10 + 1, none⟩ (.int .i64 r.k)).setCell ⟨g, j * 10 + 2, none⟩ (.int .i64 r.kind)).setCell ⟨g, j * 10 + 3, none⟩ (.int .i64 r.core)).setCell ⟨g, j * 10 + 4, none⟩ (.int .i64 r.fd)).setCell ⟨g, j * 10 + 5, none⟩ (.int .i64 r.off)).setCell ⟨g, j * 10 + 6, none⟩ (.int .i64 r.num)).setCell ⟨g, j * 10 + 7, none⟩ (.string r.path)).setCell ⟨g, j * 10 + 8, none⟩ (.string r.path2)).setCell ⟨g, j * 10 + 9, none⟩ (.string r.data)).junk p) g (putRec cc j r) 45 := (((((((((((hB.set_ _ _).set_ _ _).set_ _ _).set_ _ _).set_ _ _).set_ _ _).set_ _ _).set_ _ _).set_ _ _).set_ _ _).junk p)
                have hlist := gap_done (r := r) (m := out.length) rfl H4.out.le hcl hdn hup2
                have hco2 := hco.put r (i := j) (by have := H4.out.le; omega) (by omega)
                rw [hlist] at hco2
                have hl2 : (out.take j ++ r :: out.drop j).length = out.length + 1 := by have := H4.out.le; simp; omega
                have hKF : Keep (fun b => b = g) w1 (((((((((((wx.setCell ⟨g, j * 10, none⟩ (.int .i64 r.c)).setCell ⟨g, j * 10 + 1, none⟩ (.int .i64 r.k)).setCell ⟨g, j * 10 + 2, none⟩ (.int .i64 r.kind)).setCell ⟨g, j * 10 + 3, none⟩ (.int .i64 r.core)).setCell ⟨g, j * 10 + 4, none⟩ (.int .i64 r.fd)).setCell ⟨g, j * 10 + 5, none⟩ (.int .i64 r.off)).setCell ⟨g, j * 10 + 6, none⟩ (.int .i64 r.num)).setCell ⟨g, j * 10 + 7, none⟩ (.string r.path)).setCell ⟨g, j * 10 + 8, none⟩ (.string r.path2)).setCell ⟨g, j * 10 + 9, none⟩ (.string r.data)).junk p) := (((((((((((H4.out.keep.setCell (p := ⟨g, _, none⟩) (.inl rfl) _).setCell (p := ⟨g, _, none⟩) (.inl rfl) _).setCell (p := ⟨g, _, none⟩) (.inl rfl) _).setCell (p := ⟨g, _, none⟩) (.inl rfl) _).setCell (p := ⟨g, _, none⟩) (.inl rfl) _).setCell (p := ⟨g, _, none⟩) (.inl rfl) _).setCell (p := ⟨g, _, none⟩) (.inl rfl) _).setCell (p := ⟨g, _, none⟩) (.inl rfl) _).setCell (p := ⟨g, _, none⟩) (.inl rfl) _).setCell (p := ⟨g, _, none⟩) (.inl rfl) _).junk p)
                refine ⟨k + 1, out.take j ++ r :: out.drop j, by go_num, by omega, H3.out.2.1.trans (hKF.below H3.out.2.1.size (fun i hi h => by have := H3.out.2.2; omega)), ?_, fun b hb => ?_, ?_, by omega⟩
                · refine ⟨by rw [recs_len], .inr ⟨g, cap, _, by rw [hl2], Nat.zero_le _, hBF, by omega, hcm, by rw [putRec_size]; exact hcs2, ?_⟩⟩
                  exact hco2.take (by rw [putRec_size]; omega)
                · have e : b = g := by
                    have : (Value.slice (some ⟨g, 0, none⟩) (out.length + 1) cap).ownBlock = some b := hb
                    simpa [Value.ownBlock] using this.symm
                  rw [e]; exact H3.out.2.2
                · refine (H1.out.2.2.2).insert (i := i) hlt (ok.core i hlt k r hr) H4.out.le H4.out.up (.inl HJ.out) (fun x hx hxk => ?_) ?_ (fun j' hj' hne => ?_)
                  · have hx2 : x ∈ (rs i).take k := by
                      have e := H1.out.2.2.2.rows i hlt
                      have e2 : rowsAt rs i k i = (rs i).take k := by simp [rowsAt]
                      rw [← e2, ← e]
                      exact List.mem_filter.2 ⟨hx, by simp [isK, hxk]⟩
                    obtain ⟨q, hq⟩ := List.getElem?_of_mem hx2
                    rw [List.getElem?_take] at hq
                    split at hq
                    · exact ok.mono i hlt q k x r (by omega) hq hr
                    · cases hq
                  · simp [rowsAt, take_succ_of hr]
                  · unfold rowsAt
                    by_cases h : j' < i
                    · rw [if_pos h, if_pos h]
                    · rw [if_neg h, if_neg h, if_neg hne, if_neg hne]
              case measure => simp [intOf]; omega
        · obtain rfl : k = (rs i).length := by omega
          go_wp2_with fail
          go_roundw
          case rel =>
            refine ⟨i + 1, out, by go_num, by omega, H1.out.1, H1.out.2.1, H1.out.2.2.1, ⟨H1.out.2.2.2.sorted, fun j hj => ?_, H1.out.2.2.2.mem⟩, by omega⟩
            rw [H1.out.2.2.2.rows j hj]
            unfold rowsAt
            rcases Nat.lt_trichotomy j i with h | h | h
            · rw [if_pos h, if_pos (by omega)]
            · subst h
              rw [if_neg (by omega), if_pos rfl, if_pos (by omega), List.take_length]
            · rw [if_neg (by omega), if_neg (by omega), if_neg (by omega)]
              split <;> simp
          case measure => simp [intOf]; omega
    · obtain rfl : i = n := by omega
      go_wp2_with fail
      have hs := H1.out.2.2.2
      have e : out = pickOf rs (mergeAll rs i) := SortOf.uniq (rows := rs) (n := i) ⟨hs.sorted, fun j hj => by rw [hs.rows j hj]; simp [rowsAt, hj], hs.mem⟩ (merge_sort ok)
      refine bodyPost_ret (v := .slice a0 out.length cp0) (by simp [results, Try.results35, go_sem]) rfl ⟨_, rfl, H1.out.1, ?_, H1.out.2.2.1⟩
      rw [← e]
      exact H1.out.2.1
end Go.Proofs.Ytpndplbomnjioaa
