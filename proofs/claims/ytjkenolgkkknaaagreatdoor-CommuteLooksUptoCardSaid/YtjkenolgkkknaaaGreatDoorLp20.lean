/- Part of the proof that the calls that look alone commute. Conditions: none. -/
import Derived.Test.YtjkenolgkkknaaaGreatDoorLp19
import Derived.Test.YtjkenolgkkknaaaGreatDoorLp12
set_option linter.unusedVariables false
set_option linter.unusedSimpArgs false
set_option maxRecDepth 100000
set_option maxHeartbeats 8000000
/- The text of a state, as package shape writes it. Conditions: none. -/
set_option linter.unusedVariables false
set_option linter.unusedSimpArgs false
namespace Go.Proofs.YtjkenolgkkknaaaGreatDoor
open Go.RowKit
theorem Laid.pow {B : Nat} {w : World} (h : Laid B Pow10 w) : Pow10 w := by
  obtain ⟨w0, h0, h1, h2⟩ := h
  exact Lib.tabBelow_of_tabIs h0 w h2
theorem lineM_ne (ws : List ByteArray) : lineM ws ≠ [] := by unfold lineM; simp
theorem wlkT_ne {S : PSt} {f : Nat} {n : Int} (p : ByteArray) (h : wlkOk S f n = true) : wlkT S f n p ≠ [] := by
  rcases f with _ | f
  · cases h
  unfold wlkOk at h
  simp only [Bool.and_eq_true] at h
  unfold wlkT
  rcases hx : S.ins[(idxM (isNum n) S.ins).toNat]? with _ | x
  · rw [hx] at h; simp at h
  · simp only
    by_cases hd : x.dir = true
    · rw [if_pos hd]
      intro e
      exact lineM_ne _ (List.append_eq_nil_iff.1 e).1
    · rw [if_neg hd]
      exact lineM_ne _
theorem IsWr.fresh (w : World) (sv : Value) : IsWr w.heap.size w.heap.size sv (Lib.byteCells []) (w.alloc (.cells #[sv, .pointer none, .slice none 0 0] 124)) :=
  .inl ⟨Nat.le_refl _, _, heap_alloc_new w _, by simp [Lib.byteCells], .inl ⟨rfl, rfl⟩⟩
def filesT (S : PSt) (f : Nat) : List UInt8 := wlkT S f 1 ⟨#[]⟩
set_option maxRecDepth 100000 in
set_option maxHeartbeats 4000000 in
theorem files81 (iv ov mv : Value) (S : PSt) (f : Nat) (w : World) (h : StRead w iv ov mv S) (hwf : S.wf) (hm : mayM S = true) (hd : ∀ x ∈ S.ins, x.data.size ≤ 1000000) (hok : wlkOk S f 1 = true) (hlen : (filesT S f).length ≤ 1000000000000) (hp : Laid w.heap.size Pow10 w) :
    Calls Tryz.prog 81 #[.agg #[iv, ov, mv]] w fun e w' => e = .returned (.tuple #[.string ⟨(filesT S f).toArray⟩, .int .i64 0]) ∧ Below w.heap.size w w' := by
  have hmay : ∀ ww, Below w.heap.size w ww → Calls Tryz.prog 37 #[.agg #[iv, ov, mv]] ww fun e w' => e = .returned (.bool true) ∧ Below ww.heap.size ww w' := fun ww hb => by
    have := may37 iv ov mv S ww (h.below hb (Nat.le_refl _)) hwf
    rw [hm] at this
    exact this
  have hio : iv.oneCell' = true := by obtain ⟨_, _, _, h3, _⟩ := h; exact h3.one
  have hoo := h.1.one
  have hmo := h.2.1.one
  have hwalk : ∀ (wb ww : World) (B p0 : Nat), B = wb.heap.size → Below w.heap.size w wb → Blk wb p0 #[iv, ov, mv] 27 → ww = wb.alloc (.cells #[.pointer (some ⟨p0, 0, none⟩), .pointer none, .slice none 0 0] 124) →
      Calls Tryz.prog 132 #[.pointer (some ⟨B, 0, none⟩), .int .i64 1, .string ⟨#[]⟩] ww fun e w' => e = .returned (.tuple #[]) ∧ IsWr B B (.pointer (some ⟨p0, 0, none⟩)) (Lib.byteCells (filesT S f)) w' ∧ Below B ww w' := fun wb ww B p0 hB hb hblk hww => by
    subst hB
    subst hww
    have hl : Laid wb.heap.size (Shw p0 S) wb := Laid.at_ ⟨SP.of_blk hblk (h.below hb (Nat.le_refl _)), (hp.below hb).pow⟩
    exact walk132 wb.heap.size wb.heap.size p0 S hwf hd f 1 ⟨#[]⟩ [] _ hok (by unfold I64; omega) (by simpa [filesT] using hlen) (hl.below (bel wb _)) (IsWr.fresh _ _) (by simp)
  have hne : filesT S f ≠ [] := wlkT_ne _ hok
  clear h hwf hm hd hok hp
  go_enter Tryz.func81, Tryz.ntmps81
  go_wp2_with (first | (go_at_call 37; refine (hmay _ (bel _ _)).mono ?_; rintro e w' ⟨rfl, hb⟩; obtain ⟨p, rfl⟩ := hb.rest; clear hb))
  go_wp2_with (go_at_call 132; refine (hwalk ((w.alloc (Obj.cells #[iv, ov, mv] 27)).junk p) _ _ w.heap.size (by simp) (bel _ _) ((Blk.new _ _ _).junk p) rfl).mono ?_; rintro e w2 ⟨rfl, h2, hb2⟩)
  have hs2 := hb2.size
  simp at hs2
  have h2' := wr_text (w.heap.size + 1 + p.len) (w.heap.size + 1 + p.len) _ (filesT S f) w2 h2 hne
  have HB := Lib.hid (((bel w ((((w.alloc (Obj.cells #[iv, ov, mv] 27)).junk p).alloc (.cells #[.pointer (some ⟨w.heap.size, 0, none⟩), .pointer none, .slice none 0 0] 124)))).mono (Nat.le_refl _)).trans (hb2.mono (by omega)))
  clear hb2 h2 hs2
  go_wp2_with (go_at_call 88; refine h2'.mono ?_; rintro e w3 ⟨rfl, hb3⟩)
  exact bodyPost_ret (v := .tuple #[.string ⟨(filesT S f).toArray⟩, .int .i64 0]) (by unfold results; simp only [Tryz.results81]; go_simp) rfl ⟨rfl, HB.out.trans (hb3.mono (by omega))⟩
end Go.Proofs.YtjkenolgkkknaaaGreatDoor
/- The text of a whole state; two states of one text. Conditions: none. -/
set_option linter.unusedVariables false
set_option linter.unusedSimpArgs false
namespace Go.Proofs.YtjkenolgkkknaaaGreatDoor
open Go.RowKit
theorem bytes_inj {a b : ByteArray} (h : a.data.toList = b.data.toList) : a = b := by
  rcases a with ⟨a⟩
  rcases b with ⟨b⟩
  exact congrArg ByteArray.mk (Array.toList_inj.1 h)
def unT (S : PSt) (x : PIn) : List UInt8 := if (!x.dir && decide (linksM S x.num = 0)) = true then lineM [⟨#[117]⟩, itoaB x.num, hexM x.data] else []
def opT (d : PDesc) : List UInt8 := lineM [⟨#[111]⟩, itoaB d.core, itoaB d.fd, itoaB d.num]
def mdT (n : Int) : List UInt8 := 32 :: Lib.itoa n
def restT (S : PSt) : List UInt8 := S.ins.flatMap (unT S) ++ (S.op.flatMap opT ++ (109 :: S.made.flatMap mdT))
def shapeT (S : PSt) (f : Nat) : List UInt8 := filesT S f ++ restT S ++ [10]
set_option maxRecDepth 100000 in
set_option maxHeartbeats 4000000 in
theorem of43 (iv ov mv : Value) (S : PSt) (f : Nat) (w : World) (h : StRead w iv ov mv S) (hwf : S.wf) (hm : mayM S = true) (hd : ∀ x ∈ S.ins, x.data.size ≤ 1000000) (hok : wlkOk S f 1 = true) (hlen : (shapeT S f).length ≤ 1000000000000) (hp : Laid w.heap.size Pow10 w) :
    Calls Tryz.prog 43 #[.agg #[iv, ov, mv]] w fun e w' => e = .returned (.tuple #[.string ⟨(shapeT S f).toArray⟩, .int .i64 0]) ∧ Below w.heap.size w w' := by
  have hfiles : ∀ ww, Below w.heap.size w ww → Calls Tryz.prog 81 #[.agg #[iv, ov, mv]] ww fun e w' => e = .returned (.tuple #[.string ⟨(filesT S f).toArray⟩, .int .i64 0]) ∧ Below ww.heap.size ww w' := fun ww hb =>
    files81 iv ov mv S f ww (h.below hb (Nat.le_refl _)) hwf hm hd hok (by unfold shapeT at hlen; simp only [List.length_append] at hlen; omega) ((hp.below hb).up hb.size)
  have hlinks : ∀ ww n, Below w.heap.size w ww → Calls Tryz.prog 82 #[.agg #[iv, ov, mv], .int .i64 n] ww fun e w' => e = .returned (.int .i64 (linksM S n)) ∧ Below ww.heap.size ww w' := fun ww n hb => links82 iv ov mv S n ww (h.below hb (Nat.le_refl _)) hwf
  have hito : ∀ ww n, Below w.heap.size w ww → I64 n → Calls Tryz.prog 84 #[.int .i64 n] ww fun e w' => e = .returned (.string (itoaB n)) ∧ Below ww.heap.size ww w' := fun ww n hb hn => itoa84 w.heap.size n hn ww (hp.below hb)
  obtain ⟨ai, capi, rfl, hati⟩ := h.ins_at2
  obtain ⟨ao, co, rfl, hato⟩ := h.1.at_
  obtain ⟨am, cm, rfl, hatm⟩ := h.2.1.at_
  simp only [List.length_map] at hfiles hlinks ⊢
  obtain ⟨FT, hFT⟩ : ∃ FT, filesT S f = FT := ⟨_, rfl⟩
  obtain ⟨ST, hST⟩ : ∃ ST, shapeT S f = ST := ⟨_, rfl⟩
  rw [hFT] at hfiles
  rw [hST] at hlen ⊢
  have hST' : FT ++ restT S ++ [10] = ST := by rw [← hFT]; exact hST
  have HST := Lib.hid hST'
  have HI := Lib.hid (And.intro hati (And.intro hato hatm))
  have HW := Lib.hid (And.intro hwf hd)
  clear hFT hST hST' hati hato hatm h hm hok hp hwf hd
  go_enter Tryz.func43, Tryz.ntmps43
  go_upto_region 4 with (first | (go_at_call 81; refine (hfiles _ (bel _ _)).mono ?_; rintro e w' ⟨rfl, hb⟩; obtain ⟨p, rfl⟩ := hb.rest; clear hb))
  obtain ⟨wb, hwb⟩ : ∃ wb, (w.alloc (Obj.cells #[.slice ai S.ins.length capi, .slice ao S.op.length co, .slice am S.made.length cm] 27)).junk p = wb := ⟨_, rfl⟩
  have hbb : Below w.heap.size w wb := by rw [← hwb]; exact bel _ _
  have hbox : Blk wb w.heap.size #[.slice ai S.ins.length capi, .slice ao S.op.length co, .slice am S.made.length cm] 27 := by rw [← hwb]; exact (Blk.new _ _ _).junk p
  rw [hwb]
  have hbxl := hbox.lt.lt
  have hre : ∀ wr, Below wb.heap.size wb wr → Below w.heap.size w wr := fun wr h => hbb.trans (h.mono hbb.size)
  have hboxr : ∀ wr, Below wb.heap.size wb wr → Blk wr w.heap.size #[.slice ai S.ins.length capi, .slice ao S.op.length co, .slice am S.made.length cm] 27 := fun wr h => hbox.below h hbxl
  have hW : S.ins.flatMap (unT S) ++ (S.op.flatMap opT ++ (109 :: S.made.flatMap mdT)) = restT S := rfl
  have hrl : (restT S).length + FT.length + 1 ≤ 1000000000000 := by
    have := HST.out
    rw [← this] at hlen
    simp only [List.length_append, List.length_cons, List.length_nil] at hlen
    omega
  rw [← hW] at hrl
  have HWW := Lib.hid hW
  simp only [List.length_append, List.length_cons] at hrl
  have hlin : ∀ (t : List UInt8) (ws : List ByteArray) (ww : World) (bk c : Nat), IsWr wb.heap.size wb.heap.size (.pointer (some ⟨w.heap.size, 0, none⟩)) (Lib.byteCells t) ww → Blk ww bk (ws.map Value.string).toArray 9 → ws.length ≤ c → ws.length ≤ 1000 → (t ++ lineM ws).length ≤ 1000000000000 → wb.heap.size ≤ ww.heap.size → Calls Tryz.prog 83 #[.pointer (some ⟨wb.heap.size, 0, none⟩), .slice (some ⟨bk, 0, none⟩) ws.length c] ww fun e w' => e = .returned (.tuple #[]) ∧ IsWr wb.heap.size wb.heap.size (.pointer (some ⟨w.heap.size, 0, none⟩)) (Lib.byteCells (t ++ lineM ws)) w' ∧ Below wb.heap.size ww w' := fun t ws ww bk c h1 h2 h3 h4 h5 h6 =>
    line83 _ _ _ t ws bk c ww h1 (strs_at ws h2) h2.lt.lt h3 h4 (by omega) h6
  have hlin' := S.ins.length
  have hwfl := HW.out.1
  have hl1 := hwfl.1
  have hl2 := hwfl.2.1
  have hl3 := hwfl.2.2.1
  have HL2 := Lib.hid (And.intro hlen hbox)
  have b0 := hbox.cell 0
  have b1 := hbox.cell 1
  have b2 := hbox.cell 2
  have iX := hbox.lt
  clear hwb hbox hlen hwfl hlin' hW
  go_upto_region 5 with fail
  go_wp2_with fail
  go_loopw [26] (fun i wr => ∃ q : Nat, i = .int .i64 q ∧ q ≤ S.ins.length ∧ IsWr wb.heap.size wb.heap.size (.pointer (some ⟨w.heap.size, 0, none⟩)) (Lib.byteCells ((S.ins.take q).flatMap (unT S))) wr ∧ Below wb.heap.size wb wr) (fun i _ => (S.ins.length - intOf i).toNat)
  case atStart => exact ⟨0, rfl, by omega, by simpa using IsWr.fresh wb _, bel _ _⟩
  case round =>
    obtain ⟨q, rfl, hq, hwr, hbr⟩ := hrel
    have iB : Bel w wr := ⟨hre wr hbr⟩
    have hBr : wb.heap.size ≤ wr.heap.size := hbr.size
    by_cases hlt : q < S.ins.length
    · obtain ⟨x, hx⟩ : ∃ x, S.ins[q]? = some x := ⟨_, List.getElem?_eq_getElem hlt⟩
      obtain ⟨bi, off, ev, rfl, iG0, ho1, hev, hcl⟩ := HI.out.1 q x hx
      obtain ⟨iG, y0, y1, y2, y3⟩ := hcl wr (hre wr hbr)
      have hbx := hboxr wr hbr
      have z0 := hbx.cell 0
      have z1 := hbx.cell 1
      have z2 := hbx.cell 2
      have iXr := hbx.lt
      have hn := (HW.out.1.2.2.2.1 x (List.mem_of_getElem? hx)).1
      have hdx := HW.out.2 x (List.mem_of_getElem? hx)
      have hft := flatMap_take (unT S) S.ins q x hx
      have hfl := flatMap_take_le (unT S) S.ins (q + 1)
      generalize hU : (S.ins.take q).flatMap (unT S) = U at hwr hft
      rw [hft] at hfl
      have hux : unT S x = if (!x.dir && decide (linksM S x.num = 0)) = true then lineM [⟨#[117]⟩, itoaB x.num, hexM x.data] else [] := rfl
      obtain ⟨xn, xd, xe, xdat⟩ := x
      obtain ⟨ae, ce, rfl, _⟩ := hev.at_
      simp only at y0 y1 y2 y3 hn hdx hux
      rw [List.length_map] at y2
      have hlk := fun ww (h : Below w.heap.size w ww) => hlinks ww xn h
      have hhex : ∀ ww, Calls Tryz.prog 85 #[.string xdat] ww fun e w' => e = .returned (.string (hexM xdat)) ∧ Below ww.heap.size ww w' := fun ww => hex85 xdat (by omega) ww
      have hwk : ∀ ww, Below wr.heap.size wr ww → IsWr wb.heap.size wb.heap.size (.pointer (some ⟨w.heap.size, 0, none⟩)) (Lib.byteCells U) ww := fun ww hb => hwr.below hb
      have hLf := hfl
      clear hcl hev hx hU hbx
      rcases xd with _ | _
      · simp only [Bool.not_false, Bool.true_and] at hux
        by_cases hl0 : linksM S xn = 0
        · rw [if_pos (by simpa using hl0)] at hux
          have hll : (U ++ lineM [⟨#[117]⟩, itoaB xn, hexM xdat]).length ≤ 1000000000000 := by rw [hux] at hfl; omega
          rw [hl0] at hlk
          rw [hux] at hft
          have HF := Lib.hid hft
          clear hux hfl hft hl0 hLf
          go_upto_region 9 with (go_at_call 82; refine (hlk _ (bel _ _)).mono ?_; rintro e w' ⟨rfl, hb⟩; obtain ⟨p, rfl⟩ := hb.rest; clear hb)
          refine wp_region_eff [3, 6, 7, 8] true (fun w' => w'.cell? ⟨wr.heap.size, 0, none⟩ = some (.int .i64 xn) ∧ w'.cell? ⟨wr.heap.size, 3, none⟩ = some (.string xdat)) (by kernel_rfl) (by kernel_rfl) ?_ ?_
          · (try dsimp only); (repeat' apply And.intro) <;> go_simp
          repeat
            refine wpL_look rfl rfl ?_
            apply Exists.intro
            refine ⟨?_, ?_⟩
            focus
              rintro w' ⟨s0, s1⟩
              go_simp
              first | done | rfl
            simp only [Act.put, List.setIfInBounds_toArray, List.set_cons_zero, List.set_cons_succ]
          refine wpL_act rfl rfl ?_
          refine eff_call 84 #[.int .i64 xn] ?hrq1 ?_
          case hrq1 =>
            go_simp
            first | done | rfl
          refine (hito _ xn (bel w _) hn).mono ?_
          rintro e w' ⟨rfl, hb⟩
          obtain ⟨q1, rfl⟩ := hb.rest
          clear hb
          refine ⟨_, rfl, .inl ?_, ?_⟩
          · (try dsimp only); (repeat' apply And.intro) <;> go_simp
          simp only [Act.put, List.setIfInBounds_toArray, List.set_cons_zero, List.set_cons_succ]
          repeat
            refine wpL_look rfl rfl ?_
            apply Exists.intro
            refine ⟨?_, ?_⟩
            focus
              rintro w' ⟨s0, s1⟩
              go_simp
              first | done | rfl
            simp only [Act.put, List.setIfInBounds_toArray, List.set_cons_zero, List.set_cons_succ]
          refine wpL_act rfl rfl ?_
          refine eff_call 85 #[.string xdat] ?hrq2 ?_
          case hrq2 =>
            go_simp
            first | done | rfl
          refine (hhex _).mono ?_
          rintro e w' ⟨rfl, hb⟩
          obtain ⟨q2, rfl⟩ := hb.rest
          clear hb
          refine ⟨_, rfl, .inl ?_, ?_⟩
          · (try dsimp only); (repeat' apply And.intro) <;> go_simp
          simp only [Act.put, List.setIfInBounds_toArray, List.set_cons_zero, List.set_cons_succ]
          refine wpL_do rfl rfl ?_
          apply Exists.intro
          apply Exists.intro
          refine ⟨?_, ?_, ?_⟩
          focus
            go_simp
            exact ⟨rfl, rfl⟩
          focus
            refine .inl ?_
            (try dsimp only); (repeat' apply And.intro) <;> go_simp
          simp only [Act.put, List.setIfInBounds_toArray, List.set_cons_zero, List.set_cons_succ]
          refine wpL_act rfl rfl ?_
          refine eff_call 83 #[.pointer (some ⟨wb.heap.size, 0, none⟩), .slice (some ⟨wr.heap.size + 1 + ((p.drew.more q1).more q2).len, 0, none⟩) 3 3] ?hrl ?_
          case hrl =>
            go_simp
            first | done | rfl
          refine (hlin U [⟨#[117]⟩, itoaB xn, hexM xdat] _ _ 3 (hwk _ (bel wr _)) (Blk.new_i _ _ _ _) (by simp) (by simp) hll (Nat.le_trans hBr (bel wr _).size)).mono ?_
          rintro e w4 ⟨rfl, h4, hb4⟩
          refine ⟨_, rfl, .inr ⟨rfl, rfl⟩, ?_⟩
          simp only [Act.put, List.setIfInBounds_toArray, List.set_cons_zero, List.set_cons_succ]
          refine wpL_end ?_
          have HW4 := Lib.hid (And.intro h4 (hbr.trans (((bel wr _).mono hBr).trans hb4)))
          clear h4 hb4
          go_wp2_with fail
          go_roundw
          case rel => exact ⟨q + 1, by go_num, by omega, by rw [HF.out]; exact HW4.out.1, HW4.out.2⟩
          case measure => simp [intOf]; omega
        · rw [if_neg (by simpa using hl0)] at hux
          have hl1 : ((linksM S xn : Int) == 0) = false := by simpa using hl0
          rw [hux, List.append_nil] at hft
          have HF := Lib.hid hft
          clear hux hfl hft hLf
          go_wp2_with (go_at_call 82; refine (hlk _ (bel _ _)).mono ?_; rintro e w' ⟨rfl, hb⟩; obtain ⟨p, rfl⟩ := hb.rest; clear hb)
          go_roundw
          case rel => exact ⟨q + 1, by go_num, by omega, by rw [HF.out]; exact hwk _ (bel wr _), hbr.trans ((bel wr _).mono hBr)⟩
          case measure => simp [intOf]; omega
      · simp only [Bool.not_true, Bool.false_and, Bool.false_eq_true, if_false] at hux
        rw [hux, List.append_nil] at hft
        have HF := Lib.hid hft
        clear hux hfl hft hLf
        go_wp2_with (go_at_call 82; refine (hlk _ (bel _ _)).mono ?_; rintro e w' ⟨rfl, hb⟩; obtain ⟨p, rfl⟩ := hb.rest; clear hb)
        go_roundw
        case rel => exact ⟨q + 1, by go_num, by omega, by rw [HF.out]; exact hwk _ (bel wr _), hbr.trans ((bel wr _).mono hBr)⟩
        case measure => simp [intOf]; omega
    · rw [List.take_of_length_le (by omega)] at hwr
      have HU := Lib.hid (And.intro hwr hbr)
      have hbx := hboxr wr hbr
      have iXr := hbx.lt
      have z1 := hbx.cell 1
      have z2 := hbx.cell 2
      have hBr := hbr.size
      generalize S.ins.flatMap (unT S) = U at HU hrl HWW
      clear hwr hbx hbr b0 b1 b2
      rename World => wA
      go_wp2_with fail
      go_loopw [53] (fun i wr => ∃ q : Nat, i = .int .i64 q ∧ q ≤ S.op.length ∧ IsWr wb.heap.size wb.heap.size (.pointer (some ⟨w.heap.size, 0, none⟩)) (Lib.byteCells (U ++ (S.op.take q).flatMap opT)) wr ∧ Below wb.heap.size wb wr) (fun i _ => (S.op.length - intOf i).toNat)
      case atStart => exact ⟨0, rfl, by omega, by simpa using HU.out.1, HU.out.2⟩
      case round =>
        obtain ⟨q, rfl, hq2, hwr, hbr⟩ := hrel
        have iB2 : Bel w wr := ⟨hre wr hbr⟩
        have hBr2 : wb.heap.size ≤ wr.heap.size := hbr.size
        by_cases hlt2 : q < S.op.length
        · obtain ⟨x, hx⟩ : ∃ x, S.op[q]? = some x := ⟨_, List.getElem?_eq_getElem hlt2⟩
          obtain ⟨bo, oo, rfl, iO0, iO, hco⟩ := HI.out.2.1 wr (hre wr hbr) q x.cells (by rw [List.getElem?_map, hx]; rfl)
          have y0 := hco 0 _ rfl
          have y1 := hco 1 _ rfl
          have y2 := hco 2 _ rfl
          rw [Nat.add_zero] at y0
          have hn := HW.out.1.2.2.2.2.1 x (List.mem_of_getElem? hx)
          have hft := flatMap_take opT S.op q x hx
          have hfl := flatMap_take_le opT S.op (q + 1)
          rw [hft] at hfl
          have hux : opT x = lineM [⟨#[111]⟩, itoaB x.core, itoaB x.fd, itoaB x.num] := rfl
          rw [hux] at hft hfl
          have hll : ((U ++ (S.op.take q).flatMap opT) ++ lineM [⟨#[111]⟩, itoaB x.core, itoaB x.fd, itoaB x.num]).length ≤ 1000000000000 := by simp only [List.length_append] at hfl ⊢; omega
          have hft2 : U ++ (S.op.take (q + 1)).flatMap opT = (U ++ (S.op.take q).flatMap opT) ++ lineM [⟨#[111]⟩, itoaB x.core, itoaB x.fd, itoaB x.num] := by rw [hft, List.append_assoc]
          generalize hU2 : U ++ (S.op.take q).flatMap opT = U2 at hwr hll hft2
          have hwk : ∀ ww, Below wr.heap.size wr ww → IsWr wb.heap.size wb.heap.size (.pointer (some ⟨w.heap.size, 0, none⟩)) (Lib.byteCells U2) ww := fun ww hb => hwr.below hb
          obtain ⟨xc, xf, xn⟩ := x
          simp only at y0 y1 y2 hn hft2 hll
          have HF := Lib.hid hft2
          clear hco hx hU2 hft hfl hux hft2 z1 z2
          go_upto_region 14 with fail
          refine wp_region_eff [3, 6, 9, 10, 11] true (fun w' => w'.cell? ⟨wr.heap.size, 0, none⟩ = some (.int .i64 xc) ∧ w'.cell? ⟨wr.heap.size, 1, none⟩ = some (.int .i64 xf) ∧ w'.cell? ⟨wr.heap.size, 2, none⟩ = some (.int .i64 xn)) (by kernel_rfl) (by kernel_rfl) ?_ ?_
          · (try dsimp only); (repeat' apply And.intro) <;> go_simp
          repeat
            refine wpL_look rfl rfl ?_
            apply Exists.intro
            refine ⟨?_, ?_⟩
            focus
              rintro w' ⟨s0, s1, s2⟩
              go_simp
              first | done | rfl
            simp only [Act.put, List.setIfInBounds_toArray, List.set_cons_zero, List.set_cons_succ]
          refine wpL_act rfl rfl ?_
          refine eff_call 84 #[.int .i64 xc] ?hrq1 ?_
          case hrq1 =>
            go_simp
            first | done | rfl
          refine (hito _ xc (bel w _) hn.1).mono ?_
          rintro e w' ⟨rfl, hb⟩
          obtain ⟨q1, rfl⟩ := hb.rest
          clear hb
          refine ⟨_, rfl, .inl ?_, ?_⟩
          · (try dsimp only); (repeat' apply And.intro) <;> go_simp
          simp only [Act.put, List.setIfInBounds_toArray, List.set_cons_zero, List.set_cons_succ]
          repeat
            refine wpL_look rfl rfl ?_
            apply Exists.intro
            refine ⟨?_, ?_⟩
            focus
              rintro w' ⟨s0, s1, s2⟩
              go_simp
              first | done | rfl
            simp only [Act.put, List.setIfInBounds_toArray, List.set_cons_zero, List.set_cons_succ]
          refine wpL_act rfl rfl ?_
          refine eff_call 84 #[.int .i64 xf] ?hrq2 ?_
          case hrq2 =>
            go_simp
            first | done | rfl
          refine (hito _ xf (bel w _) hn.2.1).mono ?_
          rintro e w' ⟨rfl, hb⟩
          obtain ⟨q2, rfl⟩ := hb.rest
          clear hb
          refine ⟨_, rfl, .inl ?_, ?_⟩
          · (try dsimp only); (repeat' apply And.intro) <;> go_simp
          simp only [Act.put, List.setIfInBounds_toArray, List.set_cons_zero, List.set_cons_succ]
          repeat
            refine wpL_look rfl rfl ?_
            apply Exists.intro
            refine ⟨?_, ?_⟩
            focus
              rintro w' ⟨s0, s1, s2⟩
              go_simp
              first | done | rfl
            simp only [Act.put, List.setIfInBounds_toArray, List.set_cons_zero, List.set_cons_succ]
          refine wpL_act rfl rfl ?_
          refine eff_call 84 #[.int .i64 xn] ?hrq3 ?_
          case hrq3 =>
            go_simp
            first | done | rfl
          refine (hito _ xn (bel w _) hn.2.2).mono ?_
          rintro e w' ⟨rfl, hb⟩
          obtain ⟨q3, rfl⟩ := hb.rest
          clear hb
          refine ⟨_, rfl, .inl ?_, ?_⟩
          · (try dsimp only); (repeat' apply And.intro) <;> go_simp
          simp only [Act.put, List.setIfInBounds_toArray, List.set_cons_zero, List.set_cons_succ]
          refine wpL_do rfl rfl ?_
          apply Exists.intro
          apply Exists.intro
          refine ⟨?_, ?_, ?_⟩
          focus
            go_simp
            exact ⟨rfl, rfl⟩
          focus
            refine .inl ?_
            (try dsimp only); (repeat' apply And.intro) <;> go_simp
          simp only [Act.put, List.setIfInBounds_toArray, List.set_cons_zero, List.set_cons_succ]
          refine wpL_act rfl rfl ?_
          refine eff_call 83 #[.pointer (some ⟨wb.heap.size, 0, none⟩), .slice (some ⟨wr.heap.size + 1 + (((q1).more q2).more q3).len, 0, none⟩) 4 4] ?hrl ?_
          case hrl =>
            go_simp
            first | done | rfl
          refine (hlin U2 [⟨#[111]⟩, itoaB xc, itoaB xf, itoaB xn] _ _ 4 (hwk _ (bel wr _)) (Blk.new_i _ _ _ _) (by simp) (by simp) hll (Nat.le_trans hBr2 (bel wr _).size)).mono ?_
          rintro e w4 ⟨rfl, h4, hb4⟩
          refine ⟨_, rfl, .inr ⟨rfl, rfl⟩, ?_⟩
          simp only [Act.put, List.setIfInBounds_toArray, List.set_cons_zero, List.set_cons_succ]
          refine wpL_end ?_
          have HW4 := Lib.hid (And.intro h4 (hbr.trans (((bel wr _).mono hBr2).trans hb4)))
          clear h4 hb4
          go_wp2_with fail
          go_roundw
          case rel => exact ⟨q + 1, by go_num, by omega, by rw [HF.out]; exact HW4.out.1, HW4.out.2⟩
          case measure => simp [intOf]; omega
        · rw [List.take_of_length_le (by omega)] at hwr
          have HU2 := Lib.hid (And.intro hwr hbr)
          have hbx := hboxr wr hbr
          have iXr2 := hbx.lt
          have z2' := hbx.cell 2
          clear hwr hbx hbr z1 z2
          rename World => wC
          generalize S.op.flatMap opT = O at HU2 hrl HWW
          have hm1 : IsWr wb.heap.size wb.heap.size (.pointer (some ⟨w.heap.size, 0, none⟩)) (Lib.byteCells (U ++ O)) wC := HU2.out.1
          have hCr : wb.heap.size ≤ wC.heap.size := HU2.out.2.size
          have hmb := wr_byte wb.heap.size wb.heap.size (.pointer (some ⟨w.heap.size, 0, none⟩)) (Lib.byteCells (U ++ O)) 109 wC hm1 (by rw [Lib.byteCells_length, List.length_append]; omega) hCr
          clear hm1
          go_upto_region 17 with (go_at_call 86; refine hmb.mono ?_; rintro e w6 ⟨rfl, h6, hb6⟩)
          have h6' : IsWr wb.heap.size wb.heap.size (.pointer (some ⟨w.heap.size, 0, none⟩)) (Lib.byteCells (U ++ (O ++ [109]))) w6 := by
            have : Lib.byteCells (U ++ O) ++ [.int .u8 109] = Lib.byteCells (U ++ (O ++ [109])) := by rw [← List.append_assoc, Lib.byteCells_append (U ++ O) [109]]; rfl
            rw [← this]
            exact .inr h6
          have hbA := HU2.out.2.trans hb6
          have HU6 := Lib.hid (And.intro h6' hbA)
          have hbx6 := hboxr w6 hbA
          have iX6 := hbx6.lt
          have z6 := hbx6.cell 2
          clear h6 h6' hb6 hbx6 z2' hmb
          go_wp2_with fail
          go_loopw [77] (fun i wr => ∃ q : Nat, i = .int .i64 q ∧ q ≤ S.made.length ∧ IsWr wb.heap.size wb.heap.size (.pointer (some ⟨w.heap.size, 0, none⟩)) (Lib.byteCells (U ++ (O ++ (109 :: (S.made.take q).flatMap mdT)))) wr ∧ Below wb.heap.size wb wr) (fun i _ => (S.made.length - intOf i).toNat)
          case atStart => exact ⟨0, rfl, by omega, by simpa using HU6.out.1, hbA⟩
          case round =>
            obtain ⟨q, rfl, hq3, hwr, hbr⟩ := hrel
            have iB3 : Bel w wr := ⟨hre wr hbr⟩
            have hBr3 : wb.heap.size ≤ wr.heap.size := hbr.size
            by_cases hlt3 : q < S.made.length
            · obtain ⟨n, hx⟩ : ∃ n, S.made[q]? = some n := ⟨_, List.getElem?_eq_getElem hlt3⟩
              obtain ⟨bo, oo, rfl, iO0, iO, hco⟩ := HI.out.2.2 wr (hre wr hbr) q (intCells n) (by rw [List.getElem?_map, hx]; rfl)
              have y0 := hco 0 _ rfl
              rw [Nat.mul_one, Nat.add_zero] at y0
              have hn := HW.out.1.2.2.2.2.2 n (List.mem_of_getElem? hx)
              have hft := flatMap_take mdT S.made q n hx
              have hfl := flatMap_take_le mdT S.made (q + 1)
              rw [hft] at hfl
              have hux : mdT n = 32 :: Lib.itoa n := rfl
              rw [hux] at hft hfl
              simp only [List.length_append, List.length_cons] at hfl
              have hft2 : U ++ (O ++ (109 :: (S.made.take (q + 1)).flatMap mdT)) = (U ++ (O ++ (109 :: (S.made.take q).flatMap mdT))) ++ (32 :: Lib.itoa n) := by rw [hft]; simp only [List.append_assoc, List.cons_append]
              have hll : (U ++ (O ++ (109 :: (S.made.take q).flatMap mdT))).length + (1 + (Lib.itoa n).length) ≤ 1000000000000 := by simp only [List.length_append, List.length_cons]; omega
              generalize hU2 : U ++ (O ++ (109 :: (S.made.take q).flatMap mdT)) = U2 at hwr hll hft2
              have hsi : (itoaB n).size = (Lib.itoa n).length := by unfold itoaB; simp [ByteArray.size]
              have hgd : ¬ 9223372036854775807 < 1 + (itoaB n).size := by omega
              have hstr : ∀ ww, Below wr.heap.size wr ww → Calls Tryz.prog 87 #[.pointer (some ⟨wb.heap.size, 1, none⟩), .string ((⟨#[32]⟩ : ByteArray) ++ itoaB n)] ww fun e w' => ∃ k : Int, e = .returned (.tuple #[.int .i64 k, .nilIface]) ∧ IsWr wb.heap.size wb.heap.size (.pointer (some ⟨w.heap.size, 0, none⟩)) (Lib.byteCells (U2 ++ (32 :: Lib.itoa n))) w' ∧ Below wb.heap.size ww w' := fun ww hb => by
                refine (wr_str wb.heap.size wb.heap.size (.pointer (some ⟨w.heap.size, 0, none⟩)) (Lib.byteCells U2) ((⟨#[32]⟩ : ByteArray) ++ itoaB n) ww (hwr.below hb) ?_ (Nat.le_trans hBr3 hb.size)).mono ?_
                · rw [Lib.byteCells_length, ByteArray.size_append, hsi]
                  have e1 : (⟨#[32]⟩ : ByteArray).size = 1 := rfl
                  omega
                · rintro e w' ⟨rfl, h1, h2⟩
                  have e2 : ((⟨#[32]⟩ : ByteArray) ++ itoaB n).data.toList = 32 :: Lib.itoa n := by simp [itoaB]
                  rw [byteCells_app, e2] at h1
                  exact ⟨_, rfl, .inr h1, h2⟩
              have HF := Lib.hid hft2
              clear hco hx hU2 hft hfl hux hft2 z6 hsi
              go_upto_region 20 with fail
              refine wp_region_eff [4, 6] true (fun w' => True) (by kernel_rfl) (by kernel_rfl) trivial ?_
              repeat
                refine wpL_look rfl rfl ?_
                apply Exists.intro
                refine ⟨?_, ?_⟩
                focus
                  rintro w' _
                  go_simp
                  first | done | rfl
                simp only [Act.put, List.setIfInBounds_toArray, List.set_cons_zero, List.set_cons_succ]
              refine wpL_act rfl rfl ?_
              refine eff_call 84 #[.int .i64 n] ?hrq1 ?_
              case hrq1 =>
                go_simp
                first | done | rfl
              refine (hito _ n (bel w _) hn).mono ?_
              rintro e w' ⟨rfl, hb⟩
              obtain ⟨q1, rfl⟩ := hb.rest
              clear hb
              refine ⟨_, rfl, .inl ?_, ?_⟩
              · trivial
              simp only [Act.put, List.setIfInBounds_toArray, List.set_cons_zero, List.set_cons_succ]
              repeat
                refine wpL_look rfl rfl ?_
                apply Exists.intro
                refine ⟨?_, ?_⟩
                focus
                  rintro w' _
                  go_simp
                  first | done | rfl
                simp only [Act.put, List.setIfInBounds_toArray, List.set_cons_zero, List.set_cons_succ]
              refine wpL_act rfl rfl ?_
              refine eff_call 87 #[.pointer (some ⟨wb.heap.size, 1, none⟩), .string (({ data := #[32] } : ByteArray) ++ itoaB n)] ?hrl ?_
              case hrl =>
                go_simp
                first | done | rfl
              refine (hstr _ (bel wr _)).mono ?_
              rintro e w4 ⟨k, rfl, h4, hb4⟩
              refine ⟨_, rfl, .inr ⟨rfl, rfl⟩, ?_⟩
              simp only [Act.put, List.setIfInBounds_toArray, List.set_cons_zero, List.set_cons_succ]
              refine wpL_end ?_
              have HW4 := Lib.hid (And.intro h4 (hbr.trans (((bel wr _).mono hBr3).trans hb4)))
              clear h4 hb4
              go_wp2_with fail
              go_roundw
              case rel => exact ⟨q + 1, by go_num, by omega, by rw [HF.out]; exact HW4.out.1, HW4.out.2⟩
              case measure => simp [intOf]; omega
            · rw [List.take_of_length_le (by omega)] at hwr
              have hne : U ++ (O ++ (109 :: S.made.flatMap mdT)) ≠ [] := by simp
              have hT := wr_text wb.heap.size wb.heap.size (.pointer (some ⟨w.heap.size, 0, none⟩)) (U ++ (O ++ (109 :: S.made.flatMap mdT))) wr hwr hne
              generalize S.made.flatMap mdT = M at hT HWW hrl hwr hne
              generalize hTT : U ++ (O ++ (109 :: M)) = T at hT HWW hwr hne
              have hTl : T.length = U.length + (O.length + (M.length + 1)) := by rw [← hTT]; simp
              have hg1 : ¬ 9223372036854775807 < FT.length + T.length := by omega
              have hg2 : ¬ 9223372036854775807 < FT.length + T.length + 1 := by omega
              have heq : (⟨FT.toArray⟩ : ByteArray) ++ ⟨T.toArray⟩ ++ ⟨#[10]⟩ = ⟨ST.toArray⟩ := by
                have h1 := HST.out
                rw [← HWW.out] at h1
                refine bytes_inj ?_
                rw [← h1]
                simp
              have HFIN := Lib.hid (And.intro hbr (And.intro heq hBr3))
              clear hbr heq hwr hTT hne
              go_wp2_with (go_at_call 88; refine hT.mono ?_; rintro e w7 ⟨rfl, hb7⟩)
              exact bodyPost_ret (v := .tuple #[.string ⟨ST.toArray⟩, .int .i64 0]) (by unfold results; simp only [Tryz.results43]; go_simp; exact HFIN.out.2.1) rfl ⟨rfl, (hre wr HFIN.out.1).trans (hb7.mono (Nat.le_trans hbb.size (Nat.le_refl _)))⟩
set_option maxRecDepth 100000 in
set_option maxHeartbeats 4000000 in
/-- Two reads of one state are of one shape. -/
theorem same22 (iv ov mv iv' ov' mv' : Value) (S : PSt) (f : Nat) (w : World) (h : StRead w iv ov mv S) (h' : StRead w iv' ov' mv' S) (hwf : S.wf) (hm : mayM S = true) (hd : ∀ x ∈ S.ins, x.data.size ≤ 1000000) (hok : wlkOk S f 1 = true) (hlen : (shapeT S f).length ≤ 1000000000000) (hp : Laid w.heap.size Pow10 w) :
    Calls Tryz.prog 22 #[.agg #[iv, ov, mv], .agg #[iv', ov', mv']] w fun e w' => e = .returned (.bool true) ∧ Below w.heap.size w w' := by
  have h1 : ∀ ww, Below w.heap.size w ww → Calls Tryz.prog 43 #[.agg #[iv, ov, mv]] ww _ := fun ww hb => of43 iv ov mv S f ww (h.below hb (Nat.le_refl _)) hwf hm hd hok hlen ((hp.below hb).up hb.size)
  have h2 : ∀ ww, Below w.heap.size w ww → Calls Tryz.prog 43 #[.agg #[iv', ov', mv']] ww _ := fun ww hb => of43 iv' ov' mv' S f ww (h'.below hb (Nat.le_refl _)) hwf hm hd hok hlen ((hp.below hb).up hb.size)
  have hio : iv.oneCell' = true := by obtain ⟨_, _, _, h3, _⟩ := h; exact h3.one
  have hoo := h.1.one
  have hmo := h.2.1.one
  have hio' : iv'.oneCell' = true := by obtain ⟨_, _, _, h3, _⟩ := h'; exact h3.one
  have hoo' := h'.1.one
  have hmo' := h'.2.1.one
  generalize shapeT S f = T at h1 h2
  clear h h' hwf hm hd hok hlen hp
  go_enter Tryz.func22, Tryz.ntmps22
  go_wp2_with (first | (go_at_call 43; with_reducible refine (h1 _ (bel _ _)).mono ?_; rintro e w' ⟨rfl, hb⟩; obtain ⟨p, rfl⟩ := hb.rest; clear hb) | (go_at_call 43; with_reducible refine (h2 _ (bel _ _)).mono ?_; rintro e w' ⟨rfl, hb⟩; obtain ⟨p, rfl⟩ := hb.rest; clear hb))
  go_ret
  exact ⟨by first | rfl | simp, bel _ _⟩
end Go.Proofs.YtjkenolgkkknaaaGreatDoor
