/- The text of a whole state; two states of one text. Conditions: none. Calls that are done, at states that are given. Conditions: none. What a call looks at, as data; searches in package commute. Conditions: none. A view as it lies in memory, and what its walk turns. Conditions: none. -/
import Derived.Test.YtjkenolgkkknaaaGreatDoorTw12
import Derived.Test.YtjkenolgkkknaaaGreatDoorTw11
import Derived.Test.YtjkenolgkkknaaaGreatDoorTw10
set_option linter.unusedVariables false
set_option linter.unusedSimpArgs false
namespace Go.Proofs.YtjkenolgkkknaaaGreatDoor
open Go.RowKit
theorem bytes_inj {a b : ByteArray} (h : a.data.toList = b.data.toList) : a = b := by
  rcases a with ⟨a⟩
  rcases b with ⟨b⟩
  exact congrArg ByteArray.mk (Array.toList_inj.1 h)
def unT (S : PSt) (x : PIn) : List UInt8 := if (!x.dir && decide (linksM S x.num = 0)) = true then lineM [⟨#[117]⟩, itoaB x.num, hexM x.data] else []
def opT (d : PDesc) : List UInt8 := lineM [⟨#[111]⟩, itoaB d.core, itoaB d.fd, itoaB d.num]
def mdT (n : Int) : List UInt8 := 32 :: Lib.itoa n
def restT (S : PSt) : List UInt8 := S.ins.flatMap (unT S) ++ (S.op.flatMap opT ++ (109 :: S.made.flatMap mdT))
def shapeT (S : PSt) (f : Nat) : List UInt8 := filesT S f ++ restT S ++ [10]
set_option maxRecDepth 100000 in
set_option maxHeartbeats 4000000 in
theorem of43 (iv ov mv : Value) (S : PSt) (f : Nat) (w : World) (h : StRead w iv ov mv S) (hwf : S.wf) (hm : mayM S = true) (hd : ∀ x ∈ S.ins, x.data.size ≤ 1000000) (hok : wlkOk S f 1 = true) (hlen : (shapeT S f).length ≤ 1000000000000) (hp : Laid w.heap.size Pow10 w) :
    Calls Tryz.prog 43 #[.agg #[iv, ov, mv]] w fun e w' => e = .returned (.tuple #[.string ⟨(shapeT S f).toArray⟩, .int .i64 0]) ∧ Below w.heap.size w w' := by
  have hfiles : ∀ ww, Below w.heap.size w ww → Calls Tryz.prog 81 #[.agg #[iv, ov, mv]] ww fun e w' => e = .returned (.tuple #[.string ⟨(filesT S f).toArray⟩, .int .i64 0]) ∧ Below ww.heap.size ww w' := fun ww hb =>
    files81 iv ov mv S f ww (h.below hb (Nat.le_refl _)) hwf hm hd hok (by unfold shapeT at hlen; simp only [List.length_append] at hlen; omega) ((hp.below hb).up hb.size)
  have hlinks : ∀ ww n, Below w.heap.size w ww → Calls Tryz.prog 82 #[.agg #[iv, ov, mv], .int .i64 n] ww fun e w' => e = .returned (.int .i64 (linksM S n)) ∧ Below ww.heap.size ww w' := fun ww n hb => links82 iv ov mv S n ww (h.below hb (Nat.le_refl _)) hwf
  have hito : ∀ ww n, Below w.heap.size w ww → I64 n → Calls Tryz.prog 84 #[.int .i64 n] ww fun e w' => e = .returned (.string (itoaB n)) ∧ Below ww.heap.size ww w' := fun ww n hb hn => itoa84 w.heap.size n hn ww (hp.below hb)
  obtain ⟨ai, capi, rfl, hati⟩ := h.ins_at2
  obtain ⟨ao, co, rfl, hato⟩ := h.1.at_
  obtain ⟨am, cm, rfl, hatm⟩ := h.2.1.at_
  simp only [List.length_map] at hfiles hlinks ⊢
  obtain ⟨FT, hFT⟩ : ∃ FT, filesT S f = FT := ⟨_, rfl⟩
  obtain ⟨ST, hST⟩ : ∃ ST, shapeT S f = ST := ⟨_, rfl⟩
  rw [hFT] at hfiles
  rw [hST] at hlen ⊢
  have hST' : FT ++ restT S ++ [10] = ST := by rw [← hFT]; exact hST
  have HST := Lib.hid hST'
  have HI := Lib.hid (And.intro hati (And.intro hato hatm))
  have HW := Lib.hid (And.intro hwf hd)
  clear hFT hST hST' hati hato hatm h hm hok hp hwf hd
  go_enter Tryz.func43, Tryz.ntmps43
  go_upto_region 4 with (first | (go_at_call 81; refine (hfiles _ (bel _ _)).mono ?_; rintro e w' ⟨rfl, hb⟩; obtain ⟨p, rfl⟩ := hb.rest; clear hb))
  obtain ⟨wb, hwb⟩ : ∃ wb, (w.alloc (Obj.cells #[.slice ai S.ins.length capi, .slice ao S.op.length co, .slice am S.made.length cm] 27)).junk p = wb := ⟨_, rfl⟩
  have hbb : Below w.heap.size w wb := by rw [← hwb]; exact bel _ _
  have hbox : Blk wb w.heap.size #[.slice ai S.ins.length capi, .slice ao S.op.length co, .slice am S.made.length cm] 27 := by rw [← hwb]; exact (Blk.new _ _ _).junk p
  rw [hwb]
  have hbxl := hbox.lt.lt
  have hre : ∀ wr, Below wb.heap.size wb wr → Below w.heap.size w wr := fun wr h => hbb.trans (h.mono hbb.size)
  have hboxr : ∀ wr, Below wb.heap.size wb wr → Blk wr w.heap.size #[.slice ai S.ins.length capi, .slice ao S.op.length co, .slice am S.made.length cm] 27 := fun wr h => hbox.below h hbxl
  have hW : S.ins.flatMap (unT S) ++ (S.op.flatMap opT ++ (109 :: S.made.flatMap mdT)) = restT S := rfl
  have hrl : (restT S).length + FT.length + 1 ≤ 1000000000000 := by
    have := HST.out
    rw [← this] at hlen
    simp only [List.length_append, List.length_cons, List.length_nil] at hlen
    omega
  rw [← hW] at hrl
  have HWW := Lib.hid hW
  simp only [List.length_append, List.length_cons] at hrl
  have hlin : ∀ (t : List UInt8) (ws : List ByteArray) (ww : World) (bk c : Nat), IsWr wb.heap.size wb.heap.size (.pointer (some ⟨w.heap.size, 0, none⟩)) (Lib.byteCells t) ww → Blk ww bk (ws.map Value.string).toArray 9 → ws.length ≤ c → ws.length ≤ 1000 → (t ++ lineM ws).length ≤ 1000000000000 → wb.heap.size ≤ ww.heap.size → Calls Tryz.prog 83 #[.pointer (some ⟨wb.heap.size, 0, none⟩), .slice (some ⟨bk, 0, none⟩) ws.length c] ww fun e w' => e = .returned (.tuple #[]) ∧ IsWr wb.heap.size wb.heap.size (.pointer (some ⟨w.heap.size, 0, none⟩)) (Lib.byteCells (t ++ lineM ws)) w' ∧ Below wb.heap.size ww w' := fun t ws ww bk c h1 h2 h3 h4 h5 h6 =>
    line83 _ _ _ t ws bk c ww h1 (strs_at ws h2) h2.lt.lt h3 h4 (by omega) h6
  have hlin' := S.ins.length
  have hwfl := HW.out.1
  have hl1 := hwfl.1
  have hl2 := hwfl.2.1
  have hl3 := hwfl.2.2.1
  have HL2 := Lib.hid (And.intro hlen hbox)
  have b0 := hbox.cell 0
  have b1 := hbox.cell 1
  have b2 := hbox.cell 2
  have iX := hbox.lt
  clear hwb hbox hlen hwfl hlin' hW
  go_upto_region 5 with fail
  go_wp2_with fail
  go_loopw [26] (fun i wr => ∃ q : Nat, i = .int .i64 q ∧ q ≤ S.ins.length ∧ IsWr wb.heap.size wb.heap.size (.pointer (some ⟨w.heap.size, 0, none⟩)) (Lib.byteCells ((S.ins.take q).flatMap (unT S))) wr ∧ Below wb.heap.size wb wr) (fun i _ => (S.ins.length - intOf i).toNat)
  case atStart => exact ⟨0, rfl, by omega, by simpa using IsWr.fresh wb _, bel _ _⟩
  case round =>
    obtain ⟨q, rfl, hq, hwr, hbr⟩ := hrel
    have iB : Bel w wr := ⟨hre wr hbr⟩
    have hBr : wb.heap.size ≤ wr.heap.size := hbr.size
    by_cases hlt : q < S.ins.length
    · obtain ⟨x, hx⟩ : ∃ x, S.ins[q]? = some x := ⟨_, List.getElem?_eq_getElem hlt⟩
      obtain ⟨bi, off, ev, rfl, iG0, ho1, hev, hcl⟩ := HI.out.1 q x hx
      obtain ⟨iG, y0, y1, y2, y3⟩ := hcl wr (hre wr hbr)
      have hbx := hboxr wr hbr
      have z0 := hbx.cell 0
      have z1 := hbx.cell 1
      have z2 := hbx.cell 2
      have iXr := hbx.lt
      have hn := (HW.out.1.2.2.2.1 x (List.mem_of_getElem? hx)).1
      have hdx := HW.out.2 x (List.mem_of_getElem? hx)
      have hft := flatMap_take (unT S) S.ins q x hx
      have hfl := flatMap_take_le (unT S) S.ins (q + 1)
      generalize hU : (S.ins.take q).flatMap (unT S) = U at hwr hft
      rw [hft] at hfl
      have hux : unT S x = if (!x.dir && decide (linksM S x.num = 0)) = true then lineM [⟨#[117]⟩, itoaB x.num, hexM x.data] else [] := rfl
      obtain ⟨xn, xd, xe, xdat⟩ := x
      obtain ⟨ae, ce, rfl, _⟩ := hev.at_
      simp only at y0 y1 y2 y3 hn hdx hux
      rw [List.length_map] at y2
      have hlk := fun ww (h : Below w.heap.size w ww) => hlinks ww xn h
      have hhex : ∀ ww, Calls Tryz.prog 85 #[.string xdat] ww fun e w' => e = .returned (.string (hexM xdat)) ∧ Below ww.heap.size ww w' := fun ww => hex85 xdat (by omega) ww
      have hwk : ∀ ww, Below wr.heap.size wr ww → IsWr wb.heap.size wb.heap.size (.pointer (some ⟨w.heap.size, 0, none⟩)) (Lib.byteCells U) ww := fun ww hb => hwr.below hb
      have hLf := hfl
      clear hcl hev hx hU hbx
      rcases xd with _ | _
      · simp only [Bool.not_false, Bool.true_and] at hux
        by_cases hl0 : linksM S xn = 0
        · rw [if_pos (by simpa using hl0)] at hux
          have hll : (U ++ lineM [⟨#[117]⟩, itoaB xn, hexM xdat]).length ≤ 1000000000000 := by rw [hux] at hfl; omega
          rw [hl0] at hlk
          rw [hux] at hft
          have HF := Lib.hid hft
          clear hux hfl hft hl0 hLf
          go_upto_region 9 with (go_at_call 82; refine (hlk _ (bel _ _)).mono ?_; rintro e w' ⟨rfl, hb⟩; obtain ⟨p, rfl⟩ := hb.rest; clear hb)
          refine wp_region_eff [3, 6, 7, 8] true (fun w' => w'.cell? ⟨wr.heap.size, 0, none⟩ = some (.int .i64 xn) ∧ w'.cell? ⟨wr.heap.size, 3, none⟩ = some (.string xdat)) (by kernel_rfl) (by kernel_rfl) ?_ ?_
          · (try dsimp only); (repeat' apply And.intro) <;> go_simp
          repeat
            refine wpL_look rfl rfl ?_
            apply Exists.intro
            refine ⟨?_, ?_⟩
            focus
              rintro w' ⟨s0, s1⟩
              go_simp
              first | done | rfl
            simp only [Act.put, List.setIfInBounds_toArray, List.set_cons_zero, List.set_cons_succ]
          refine wpL_act rfl rfl ?_
          refine eff_call 84 #[.int .i64 xn] ?hrq1 ?_
          case hrq1 =>
            go_simp
            first | done | rfl
          refine (hito _ xn (bel w _) hn).mono ?_
          rintro e w' ⟨rfl, hb⟩
          obtain ⟨q1, rfl⟩ := hb.rest
          clear hb
          refine ⟨_, rfl, .inl ?_, ?_⟩
          · (try dsimp only); (repeat' apply And.intro) <;> go_simp
          simp only [Act.put, List.setIfInBounds_toArray, List.set_cons_zero, List.set_cons_succ]
          repeat
            refine wpL_look rfl rfl ?_
            apply Exists.intro
            refine ⟨?_, ?_⟩
            focus
              rintro w' ⟨s0, s1⟩
              go_simp
              first | done | rfl
            simp only [Act.put, List.setIfInBounds_toArray, List.set_cons_zero, List.set_cons_succ]
          refine wpL_act rfl rfl ?_
          refine eff_call 85 #[.string xdat] ?hrq2 ?_
          case hrq2 =>
            go_simp
            first | done | rfl
          refine (hhex _).mono ?_
          rintro e w' ⟨rfl, hb⟩
          obtain ⟨q2, rfl⟩ := hb.rest
          clear hb
          refine ⟨_, rfl, .inl ?_, ?_⟩
          · (try dsimp only); (repeat' apply And.intro) <;> go_simp
          simp only [Act.put, List.setIfInBounds_toArray, List.set_cons_zero, List.set_cons_succ]
          refine wpL_do rfl rfl ?_
          apply Exists.intro
          apply Exists.intro
          refine ⟨?_, ?_, ?_⟩
          focus
            go_simp
            exact ⟨rfl, rfl⟩
          focus
            refine .inl ?_
            (try dsimp only); (repeat' apply And.intro) <;> go_simp
          simp only [Act.put, List.setIfInBounds_toArray, List.set_cons_zero, List.set_cons_succ]
          refine wpL_act rfl rfl ?_
          refine eff_call 83 #[.pointer (some ⟨wb.heap.size, 0, none⟩), .slice (some ⟨wr.heap.size + 1 + ((p.drew.more q1).more q2).len, 0, none⟩) 3 3] ?hrl ?_
          case hrl =>
            go_simp
            first | done | rfl
          refine (hlin U [⟨#[117]⟩, itoaB xn, hexM xdat] _ _ 3 (hwk _ (bel wr _)) (Blk.new_i _ _ _ _) (by simp) (by simp) hll (Nat.le_trans hBr (bel wr _).size)).mono ?_
          rintro e w4 ⟨rfl, h4, hb4⟩
          refine ⟨_, rfl, .inr ⟨rfl, rfl⟩, ?_⟩
          simp only [Act.put, List.setIfInBounds_toArray, List.set_cons_zero, List.set_cons_succ]
          refine wpL_end ?_
          have HW4 := Lib.hid (And.intro h4 (hbr.trans (((bel wr _).mono hBr).trans hb4)))
          clear h4 hb4
          go_wp2_with fail
          go_roundw
          case rel => exact ⟨q + 1, by go_num, by omega, by rw [HF.out]; exact HW4.out.1, HW4.out.2⟩
          case measure => simp [intOf]; omega
        · rw [if_neg (by simpa using hl0)] at hux
          have hl1 : ((linksM S xn : Int) == 0) = false := by simpa using hl0
          rw [hux, List.append_nil] at hft
          have HF := Lib.hid hft
          clear hux hfl hft hLf
          go_wp2_with (go_at_call 82; refine (hlk _ (bel _ _)).mono ?_; rintro e w' ⟨rfl, hb⟩; obtain ⟨p, rfl⟩ := hb.rest; clear hb)
          go_roundw
          case rel => exact ⟨q + 1, by go_num, by omega, by rw [HF.out]; exact hwk _ (bel wr _), hbr.trans ((bel wr _).mono hBr)⟩
          case measure => simp [intOf]; omega
      · simp only [Bool.not_true, Bool.false_and, Bool.false_eq_true, if_false] at hux
        rw [hux, List.append_nil] at hft
        have HF := Lib.hid hft
        clear hux hfl hft hLf
        go_wp2_with (go_at_call 82; refine (hlk _ (bel _ _)).mono ?_; rintro e w' ⟨rfl, hb⟩; obtain ⟨p, rfl⟩ := hb.rest; clear hb)
        go_roundw
        case rel => exact ⟨q + 1, by go_num, by omega, by rw [HF.out]; exact hwk _ (bel wr _), hbr.trans ((bel wr _).mono hBr)⟩
        case measure => simp [intOf]; omega
    · rw [List.take_of_length_le (by omega)] at hwr
      have HU := Lib.hid (And.intro hwr hbr)
      have hbx := hboxr wr hbr
      have iXr := hbx.lt
      have z1 := hbx.cell 1
      have z2 := hbx.cell 2
      have hBr := hbr.size
      generalize S.ins.flatMap (unT S) = U at HU hrl HWW
      clear hwr hbx hbr b0 b1 b2
      rename World => wA
      go_wp2_with fail
      go_loopw [53] (fun i wr => ∃ q : Nat, i = .int .i64 q ∧ q ≤ S.op.length ∧ IsWr wb.heap.size wb.heap.size (.pointer (some ⟨w.heap.size, 0, none⟩)) (Lib.byteCells (U ++ (S.op.take q).flatMap opT)) wr ∧ Below wb.heap.size wb wr) (fun i _ => (S.op.length - intOf i).toNat)
      case atStart => exact ⟨0, rfl, by omega, by simpa using HU.out.1, HU.out.2⟩
      case round =>
        obtain ⟨q, rfl, hq2, hwr, hbr⟩ := hrel
        have iB2 : Bel w wr := ⟨hre wr hbr⟩
        have hBr2 : wb.heap.size ≤ wr.heap.size := hbr.size
        by_cases hlt2 : q < S.op.length
        · obtain ⟨x, hx⟩ : ∃ x, S.op[q]? = some x := ⟨_, List.getElem?_eq_getElem hlt2⟩
          obtain ⟨bo, oo, rfl, iO0, iO, hco⟩ := HI.out.2.1 wr (hre wr hbr) q x.cells (by rw [List.getElem?_map, hx]; rfl)
          have y0 := hco 0 _ rfl
          have y1 := hco 1 _ rfl
          have y2 := hco 2 _ rfl
          rw [Nat.add_zero] at y0
          have hn := HW.out.1.2.2.2.2.1 x (List.mem_of_getElem? hx)
          have hft := flatMap_take opT S.op q x hx
          have hfl := flatMap_take_le opT S.op (q + 1)
          rw [hft] at hfl
          have hux : opT x = lineM [⟨#[111]⟩, itoaB x.core, itoaB x.fd, itoaB x.num] := rfl
          rw [hux] at hft hfl
          have hll : ((U ++ (S.op.take q).flatMap opT) ++ lineM [⟨#[111]⟩, itoaB x.core, itoaB x.fd, itoaB x.num]).length ≤ 1000000000000 := by simp only [List.length_append] at hfl ⊢; omega
          have hft2 : U ++ (S.op.take (q + 1)).flatMap opT = (U ++ (S.op.take q).flatMap opT) ++ lineM [⟨#[111]⟩, itoaB x.core, itoaB x.fd, itoaB x.num] := by rw [hft, List.append_assoc]
          generalize hU2 : U ++ (S.op.take q).flatMap opT = U2 at hwr hll hft2
          have hwk : ∀ ww, Below wr.heap.size wr ww → IsWr wb.heap.size wb.heap.size (.pointer (some ⟨w.heap.size, 0, none⟩)) (Lib.byteCells U2) ww := fun ww hb => hwr.below hb
          obtain ⟨xc, xf, xn⟩ := x
          simp only at y0 y1 y2 hn hft2 hll
          have HF := Lib.hid hft2
          clear hco hx hU2 hft hfl hux hft2 z1 z2
          go_upto_region 14 with fail
          refine wp_region_eff [3, 6, 9, 10, 11] true (fun w' => w'.cell? ⟨wr.heap.size, 0, none⟩ = some (.int .i64 xc) ∧ w'.cell? ⟨wr.heap.size, 1, none⟩ = some (.int .i64 xf) ∧ w'.cell? ⟨wr.heap.size, 2, none⟩ = some (.int .i64 xn)) (by kernel_rfl) (by kernel_rfl) ?_ ?_
          · (try dsimp only); (repeat' apply And.intro) <;> go_simp
          repeat
            refine wpL_look rfl rfl ?_
            apply Exists.intro
            refine ⟨?_, ?_⟩
            focus
              rintro w' ⟨s0, s1, s2⟩
              go_simp
              first | done | rfl
            simp only [Act.put, List.setIfInBounds_toArray, List.set_cons_zero, List.set_cons_succ]
          refine wpL_act rfl rfl ?_
          refine eff_call 84 #[.int .i64 xc] ?hrq1 ?_
          case hrq1 =>
            go_simp
            first | done | rfl
          refine (hito _ xc (bel w _) hn.1).mono ?_
          rintro e w' ⟨rfl, hb⟩
          obtain ⟨q1, rfl⟩ := hb.rest
          clear hb
          refine ⟨_, rfl, .inl ?_, ?_⟩
          · (try dsimp only); (repeat' apply And.intro) <;> go_simp
          simp only [Act.put, List.setIfInBounds_toArray, List.set_cons_zero, List.set_cons_succ]
          repeat
            refine wpL_look rfl rfl ?_
            apply Exists.intro
            refine ⟨?_, ?_⟩
            focus
              rintro w' ⟨s0, s1, s2⟩
              go_simp
              first | done | rfl
            simp only [Act.put, List.setIfInBounds_toArray, List.set_cons_zero, List.set_cons_succ]
          refine wpL_act rfl rfl ?_
          refine eff_call 84 #[.int .i64 xf] ?hrq2 ?_
          case hrq2 =>
            go_simp
            first | done | rfl
          refine (hito _ xf (bel w _) hn.2.1).mono ?_
          rintro e w' ⟨rfl, hb⟩
          obtain ⟨q2, rfl⟩ := hb.rest
          clear hb
          refine ⟨_, rfl, .inl ?_, ?_⟩
          · (try dsimp only); (repeat' apply And.intro) <;> go_simp
          simp only [Act.put, List.setIfInBounds_toArray, List.set_cons_zero, List.set_cons_succ]
          repeat
            refine wpL_look rfl rfl ?_
            apply Exists.intro
            refine ⟨?_, ?_⟩
            focus
              rintro w' ⟨s0, s1, s2⟩
              go_simp
              first | done | rfl
            simp only [Act.put, List.setIfInBounds_toArray, List.set_cons_zero, List.set_cons_succ]
          refine wpL_act rfl rfl ?_
          refine eff_call 84 #[.int .i64 xn] ?hrq3 ?_
          case hrq3 =>
            go_simp
            first | done | rfl
          refine (hito _ xn (bel w _) hn.2.2).mono ?_
          rintro e w' ⟨rfl, hb⟩
          obtain ⟨q3, rfl⟩ := hb.rest
          clear hb
          refine ⟨_, rfl, .inl ?_, ?_⟩
          · (try dsimp only); (repeat' apply And.intro) <;> go_simp
          simp only [Act.put, List.setIfInBounds_toArray, List.set_cons_zero, List.set_cons_succ]
          refine wpL_do rfl rfl ?_
          apply Exists.intro
          apply Exists.intro
          refine ⟨?_, ?_, ?_⟩
          focus
            go_simp
            exact ⟨rfl, rfl⟩
          focus
            refine .inl ?_
            (try dsimp only); (repeat' apply And.intro) <;> go_simp
          simp only [Act.put, List.setIfInBounds_toArray, List.set_cons_zero, List.set_cons_succ]
          refine wpL_act rfl rfl ?_
          refine eff_call 83 #[.pointer (some ⟨wb.heap.size, 0, none⟩), .slice (some ⟨wr.heap.size + 1 + (((q1).more q2).more q3).len, 0, none⟩) 4 4] ?hrl ?_
          case hrl =>
            go_simp
            first | done | rfl
          refine (hlin U2 [⟨#[111]⟩, itoaB xc, itoaB xf, itoaB xn] _ _ 4 (hwk _ (bel wr _)) (Blk.new_i _ _ _ _) (by simp) (by simp) hll (Nat.le_trans hBr2 (bel wr _).size)).mono ?_
          rintro e w4 ⟨rfl, h4, hb4⟩
          refine ⟨_, rfl, .inr ⟨rfl, rfl⟩, ?_⟩
          simp only [Act.put, List.setIfInBounds_toArray, List.set_cons_zero, List.set_cons_succ]
          refine wpL_end ?_
          have HW4 := Lib.hid (And.intro h4 (hbr.trans (((bel wr _).mono hBr2).trans hb4)))
          clear h4 hb4
          go_wp2_with fail
          go_roundw
          case rel => exact ⟨q + 1, by go_num, by omega, by rw [HF.out]; exact HW4.out.1, HW4.out.2⟩
          case measure => simp [intOf]; omega
        · rw [List.take_of_length_le (by omega)] at hwr
          have HU2 := Lib.hid (And.intro hwr hbr)
          have hbx := hboxr wr hbr
          have iXr2 := hbx.lt
          have z2' := hbx.cell 2
          clear hwr hbx hbr z1 z2
          rename World => wC
          generalize S.op.flatMap opT = O at HU2 hrl HWW
          have hm1 : IsWr wb.heap.size wb.heap.size (.pointer (some ⟨w.heap.size, 0, none⟩)) (Lib.byteCells (U ++ O)) wC := HU2.out.1
          have hCr : wb.heap.size ≤ wC.heap.size := HU2.out.2.size
          have hmb := wr_byte wb.heap.size wb.heap.size (.pointer (some ⟨w.heap.size, 0, none⟩)) (Lib.byteCells (U ++ O)) 109 wC hm1 (by rw [Lib.byteCells_length, List.length_append]; omega) hCr
          clear hm1
          go_upto_region 17 with (go_at_call 86; refine hmb.mono ?_; rintro e w6 ⟨rfl, h6, hb6⟩)
          have h6' : IsWr wb.heap.size wb.heap.size (.pointer (some ⟨w.heap.size, 0, none⟩)) (Lib.byteCells (U ++ (O ++ [109]))) w6 := by
            have : Lib.byteCells (U ++ O) ++ [.int .u8 109] = Lib.byteCells (U ++ (O ++ [109])) := by rw [← List.append_assoc, Lib.byteCells_append (U ++ O) [109]]; rfl
            rw [← this]
            exact .inr h6
          have hbA := HU2.out.2.trans hb6
          have HU6 := Lib.hid (And.intro h6' hbA)
          have hbx6 := hboxr w6 hbA
          have iX6 := hbx6.lt
          have z6 := hbx6.cell 2
          clear h6 h6' hb6 hbx6 z2' hmb
          go_wp2_with fail
          go_loopw [77] (fun i wr => ∃ q : Nat, i = .int .i64 q ∧ q ≤ S.made.length ∧ IsWr wb.heap.size wb.heap.size (.pointer (some ⟨w.heap.size, 0, none⟩)) (Lib.byteCells (U ++ (O ++ (109 :: (S.made.take q).flatMap mdT)))) wr ∧ Below wb.heap.size wb wr) (fun i _ => (S.made.length - intOf i).toNat)
          case atStart => exact ⟨0, rfl, by omega, by simpa using HU6.out.1, hbA⟩
          case round =>
            obtain ⟨q, rfl, hq3, hwr, hbr⟩ := hrel
            have iB3 : Bel w wr := ⟨hre wr hbr⟩
            have hBr3 : wb.heap.size ≤ wr.heap.size := hbr.size
            by_cases hlt3 : q < S.made.length
            · obtain ⟨n, hx⟩ : ∃ n, S.made[q]? = some n := ⟨_, List.getElem?_eq_getElem hlt3⟩
              obtain ⟨bo, oo, rfl, iO0, iO, hco⟩ := HI.out.2.2 wr (hre wr hbr) q (intCells n) (by rw [List.getElem?_map, hx]; rfl)
              have y0 := hco 0 _ rfl
              rw [Nat.mul_one, Nat.add_zero] at y0
              have hn := HW.out.1.2.2.2.2.2 n (List.mem_of_getElem? hx)
              have hft := flatMap_take mdT S.made q n hx
              have hfl := flatMap_take_le mdT S.made (q + 1)
              rw [hft] at hfl
              have hux : mdT n = 32 :: Lib.itoa n := rfl
              rw [hux] at hft hfl
              simp only [List.length_append, List.length_cons] at hfl
              have hft2 : U ++ (O ++ (109 :: (S.made.take (q + 1)).flatMap mdT)) = (U ++ (O ++ (109 :: (S.made.take q).flatMap mdT))) ++ (32 :: Lib.itoa n) := by rw [hft]; simp only [List.append_assoc, List.cons_append]
              have hll : (U ++ (O ++ (109 :: (S.made.take q).flatMap mdT))).length + (1 + (Lib.itoa n).length) ≤ 1000000000000 := by simp only [List.length_append, List.length_cons]; omega
              generalize hU2 : U ++ (O ++ (109 :: (S.made.take q).flatMap mdT)) = U2 at hwr hll hft2
              have hsi : (itoaB n).size = (Lib.itoa n).length := by unfold itoaB; simp [ByteArray.size]
              have hgd : ¬ 9223372036854775807 < 1 + (itoaB n).size := by omega
              have hstr : ∀ ww, Below wr.heap.size wr ww → Calls Tryz.prog 87 #[.pointer (some ⟨wb.heap.size, 1, none⟩), .string ((⟨#[32]⟩ : ByteArray) ++ itoaB n)] ww fun e w' => ∃ k : Int, e = .returned (.tuple #[.int .i64 k, .nilIface]) ∧ IsWr wb.heap.size wb.heap.size (.pointer (some ⟨w.heap.size, 0, none⟩)) (Lib.byteCells (U2 ++ (32 :: Lib.itoa n))) w' ∧ Below wb.heap.size ww w' := fun ww hb => by
                refine (wr_str wb.heap.size wb.heap.size (.pointer (some ⟨w.heap.size, 0, none⟩)) (Lib.byteCells U2) ((⟨#[32]⟩ : ByteArray) ++ itoaB n) ww (hwr.below hb) ?_ (Nat.le_trans hBr3 hb.size)).mono ?_
                · rw [Lib.byteCells_length, ByteArray.size_append, hsi]
                  have e1 : (⟨#[32]⟩ : ByteArray).size = 1 := rfl
                  omega
                · rintro e w' ⟨rfl, h1, h2⟩
                  have e2 : ((⟨#[32]⟩ : ByteArray) ++ itoaB n).data.toList = 32 :: Lib.itoa n := by simp [itoaB]
                  rw [byteCells_app, e2] at h1
                  exact ⟨_, rfl, .inr h1, h2⟩
              have HF := Lib.hid hft2
              clear hco hx hU2 hft hfl hux hft2 z6 hsi
              go_upto_region 20 with fail
              refine wp_region_eff [4, 6] true (fun w' => True) (by kernel_rfl) (by kernel_rfl) trivial ?_
              repeat
                refine wpL_look rfl rfl ?_
                apply Exists.intro
                refine ⟨?_, ?_⟩
                focus
                  rintro w' _
                  go_simp
                  first | done | rfl
                simp only [Act.put, List.setIfInBounds_toArray, List.set_cons_zero, List.set_cons_succ]
              refine wpL_act rfl rfl ?_
              refine eff_call 84 #[.int .i64 n] ?hrq1 ?_
              case hrq1 =>
                go_simp
                first | done | rfl
              refine (hito _ n (bel w _) hn).mono ?_
              rintro e w' ⟨rfl, hb⟩
              obtain ⟨q1, rfl⟩ := hb.rest
              clear hb
              refine ⟨_, rfl, .inl ?_, ?_⟩
              · trivial
              simp only [Act.put, List.setIfInBounds_toArray, List.set_cons_zero, List.set_cons_succ]
              repeat
                refine wpL_look rfl rfl ?_
                apply Exists.intro
                refine ⟨?_, ?_⟩
                focus
                  rintro w' _
                  go_simp
                  first | done | rfl
                simp only [Act.put, List.setIfInBounds_toArray, List.set_cons_zero, List.set_cons_succ]
              refine wpL_act rfl rfl ?_
              refine eff_call 87 #[.pointer (some ⟨wb.heap.size, 1, none⟩), .string (({ data := #[32] } : ByteArray) ++ itoaB n)] ?hrl ?_
              case hrl =>
                go_simp
                first | done | rfl
              refine (hstr _ (bel wr _)).mono ?_
              rintro e w4 ⟨k, rfl, h4, hb4⟩
              refine ⟨_, rfl, .inr ⟨rfl, rfl⟩, ?_⟩
              simp only [Act.put, List.setIfInBounds_toArray, List.set_cons_zero, List.set_cons_succ]
              refine wpL_end ?_
              have HW4 := Lib.hid (And.intro h4 (hbr.trans (((bel wr _).mono hBr3).trans hb4)))
              clear h4 hb4
              go_wp2_with fail
              go_roundw
              case rel => exact ⟨q + 1, by go_num, by omega, by rw [HF.out]; exact HW4.out.1, HW4.out.2⟩
              case measure => simp [intOf]; omega
            · rw [List.take_of_length_le (by omega)] at hwr
              have hne : U ++ (O ++ (109 :: S.made.flatMap mdT)) ≠ [] := by simp
              have hT := wr_text wb.heap.size wb.heap.size (.pointer (some ⟨w.heap.size, 0, none⟩)) (U ++ (O ++ (109 :: S.made.flatMap mdT))) wr hwr hne
              generalize S.made.flatMap mdT = M at hT HWW hrl hwr hne
              generalize hTT : U ++ (O ++ (109 :: M)) = T at hT HWW hwr hne
              have hTl : T.length = U.length + (O.length + (M.length + 1)) := by rw [← hTT]; simp
              have hg1 : ¬ 9223372036854775807 < FT.length + T.length := by omega
              have hg2 : ¬ 9223372036854775807 < FT.length + T.length + 1 := by omega
              have heq : (⟨FT.toArray⟩ : ByteArray) ++ ⟨T.toArray⟩ ++ ⟨#[10]⟩ = ⟨ST.toArray⟩ := by
                have h1 := HST.out
                rw [← HWW.out] at h1
                refine bytes_inj ?_
                rw [← h1]
                simp
              have HFIN := Lib.hid (And.intro hbr (And.intro heq hBr3))
              clear hbr heq hwr hTT hne
              go_wp2_with (go_at_call 88; refine hT.mono ?_; rintro e w7 ⟨rfl, hb7⟩)
              exact bodyPost_ret (v := .tuple #[.string ⟨ST.toArray⟩, .int .i64 0]) (by unfold results; simp only [Tryz.results43]; go_simp; exact HFIN.out.2.1) rfl ⟨rfl, (hre wr HFIN.out.1).trans (hb7.mono (Nat.le_trans hbb.size (Nat.le_refl _)))⟩
set_option maxRecDepth 100000 in
set_option maxHeartbeats 4000000 in
/-- Two reads of one state are of one shape. -/
theorem same22 (iv ov mv iv' ov' mv' : Value) (S : PSt) (f : Nat) (w : World) (h : StRead w iv ov mv S) (h' : StRead w iv' ov' mv' S) (hwf : S.wf) (hm : mayM S = true) (hd : ∀ x ∈ S.ins, x.data.size ≤ 1000000) (hok : wlkOk S f 1 = true) (hlen : (shapeT S f).length ≤ 1000000000000) (hp : Laid w.heap.size Pow10 w) :
    Calls Tryz.prog 22 #[.agg #[iv, ov, mv], .agg #[iv', ov', mv']] w fun e w' => e = .returned (.bool true) ∧ Below w.heap.size w w' := by
  have h1 : ∀ ww, Below w.heap.size w ww → Calls Tryz.prog 43 #[.agg #[iv, ov, mv]] ww _ := fun ww hb => of43 iv ov mv S f ww (h.below hb (Nat.le_refl _)) hwf hm hd hok hlen ((hp.below hb).up hb.size)
  have h2 : ∀ ww, Below w.heap.size w ww → Calls Tryz.prog 43 #[.agg #[iv', ov', mv']] ww _ := fun ww hb => of43 iv' ov' mv' S f ww (h'.below hb (Nat.le_refl _)) hwf hm hd hok hlen ((hp.below hb).up hb.size)
  have hio : iv.oneCell' = true := by obtain ⟨_, _, _, h3, _⟩ := h; exact h3.one
  have hoo := h.1.one
  have hmo := h.2.1.one
  have hio' : iv'.oneCell' = true := by obtain ⟨_, _, _, h3, _⟩ := h'; exact h3.one
  have hoo' := h'.1.one
  have hmo' := h'.2.1.one
  generalize shapeT S f = T at h1 h2
  clear h h' hwf hm hd hok hlen hp
  go_enter Tryz.func22, Tryz.ntmps22
  go_wp2_with (first | (go_at_call 43; with_reducible refine (h1 _ (bel _ _)).mono ?_; rintro e w' ⟨rfl, hb⟩; obtain ⟨p, rfl⟩ := hb.rest; clear hb) | (go_at_call 43; with_reducible refine (h2 _ (bel _ _)).mono ?_; rintro e w' ⟨rfl, hb⟩; obtain ⟨p, rfl⟩ := hb.rest; clear hb))
  go_ret
  exact ⟨by first | rfl | simp, bel _ _⟩
end Go.Proofs.YtjkenolgkkknaaaGreatDoor
namespace Go.Proofs.YtjkenolgkkknaaaGreatDoor
open Go.RowKit
set_option maxRecDepth 100000 in
set_option maxHeartbeats 2000000 in
theorem run_create (B d b : Nat) (S : PSt) (c : PCall) (r : PRes) (w : World) (h : DoAt B w d b S c r) (hB : B ≤ w.heap.size) (hf : Fine S) (hs : Small S) (hk : c.kind = 0 ∨ c.kind = 1) (hp : (parseM c.path).1 = 0) (hpl : (parseM c.path).2.length ≤ 1000000000) (hc0 : 0 ≤ c.core) (hc1 : c.core < S.made.length) :
    Calls Tryz.prog 41 #[.pointer (some ⟨d, 0, none⟩)] w (RunOut B w d b c (createM S c r)) := by
  have ht := create71 B d b S c r w h hB hf hs hp hpl hc0 hc1
  obtain ⟨iD, d1⟩ := h.kind
  generalize hR : createM S c r = R at ht ⊢
  clear h hf hp hpl hR
  rcases hk with hk | hk <;> rw [hk] at d1 <;> rcases R with k | ⟨S', r'⟩
  all_goals (go_enter Tryz.func41, Tryz.ntmps41)
  · go_wp2_with (go_at_call 71; refine ht.mono ?_; rintro e w1 ⟨hb1, hr1⟩; obtain rfl : e = thrown k := hr1)
    exact ⟨rfl, hb1, rfl⟩
  · go_wp2_with (go_at_call 71; refine ht.mono ?_; rintro e w1 ⟨hb1, hr1⟩; have hr2 : e = .returned (.tuple #[]) ∧ DoAt B w1 d b S' c r' := hr1; clear hr1; obtain ⟨rfl, hd1⟩ := hr2; have HD := Lib.hid hd1; clear hd1)
    exact bodyPost_end (v := .tuple #[]) (by simp [results, go_sem]) rfl ⟨hb1, rfl, HD.out⟩
  · go_wp2_with (go_at_call 71; refine ht.mono ?_; rintro e w1 ⟨hb1, hr1⟩; obtain rfl : e = thrown k := hr1)
    exact ⟨rfl, hb1, rfl⟩
  · go_wp2_with (go_at_call 71; refine ht.mono ?_; rintro e w1 ⟨hb1, hr1⟩; have hr2 : e = .returned (.tuple #[]) ∧ DoAt B w1 d b S' c r' := hr1; clear hr1; obtain ⟨rfl, hd1⟩ := hr2; have HD := Lib.hid hd1; clear hd1)
    exact bodyPost_end (v := .tuple #[]) (by simp [results, go_sem]) rfl ⟨hb1, rfl, HD.out⟩
theorem mayc_may {S : PSt} {c : PCall} (h : maycM S c = true) : mayM S = true ∧ 0 ≤ c.core ∧ c.core < S.made.length := by
  unfold maycM at h
  simp only [Bool.and_eq_true, decide_eq_true_eq] at h
  exact ⟨h.2, h.1.1.2, h.1.2⟩
theorem did_of {S : PSt} {c : PCall} (R : Except Int (PSt × PRes)) {S' : PSt} {r' : PRes} (hwf : S.wf) (he : doM S c R = (S', r'))
    (hrun : maycM S c = true → ∀ B ww d b, DoAt B ww d b S c PRes.zero → B ≤ ww.heap.size → Calls Tryz.prog 41 #[.pointer (some ⟨d, 0, none⟩)] ww (RunOut B ww d b c R)) : Did S c S' r' := by
  intro w iv ov mv h
  have := do20 iv ov mv S c R w h hwf hrun
  rw [he] at this
  exact this
theorem did_create {S : PSt} {c : PCall} {S' : PSt} {r' : PRes} (hwf : S.wf) (hs : Small S) (hk : c.kind = 0 ∨ c.kind = 1) (hp : (parseM c.path).1 = 0) (hpl : (parseM c.path).2.length ≤ 1000000000) (he : doM S c (createM S c PRes.zero) = (S', r')) : Did S c S' r' :=
  did_of _ hwf he fun hm B ww d b hd hB => run_create B d b S c PRes.zero ww hd hB (fine_of_may hwf (mayc_may hm).1) hs hk hp hpl (mayc_may hm).2.1 (mayc_may hm).2.2
instance (n : Int) : Decidable (I64 n) := by unfold I64; exact inferInstance
/-- Sizes and ranges, told. -/
def smallIn (x : PIn) : Bool := decide (I64 x.num ∧ x.ents.length ≤ 100000 ∧ x.data.size ≤ 1000000) && x.ents.all fun e => decide (I64 e.num)
def goodB (S : PSt) : Bool := decide (S.ins.length ≤ 257) && decide (S.op.length ≤ 1000000000) && decide (S.made.length ≤ 8) && S.ins.all smallIn && (S.op.all fun d => decide (I64 d.core ∧ I64 d.fd ∧ I64 d.num)) && S.made.all fun m => decide (0 ≤ m ∧ m ≤ 32)
theorem good_wf {S : PSt} (h : goodB S = true) : S.wf ∧ Small S ∧ ∀ x ∈ S.ins, x.data.size ≤ 1000000 := by
  unfold goodB smallIn at h
  simp only [Bool.and_eq_true, decide_eq_true_eq, List.all_eq_true] at h
  obtain ⟨⟨⟨⟨⟨h1, h2⟩, h3⟩, h4⟩, h5⟩, h6⟩ := h
  refine ⟨⟨by omega, h2, by omega, fun x hx => ?_, fun d hd => h5 d hd, fun m hm => ?_⟩, ⟨h1, fun x hx => (h4 x hx).1.2.1, h3, fun m hm => h6 m hm⟩, fun x hx => (h4 x hx).1.2.2⟩
  · obtain ⟨⟨a1, a2, a3⟩, a4⟩ := h4 x hx
    exact ⟨a1, by omega, fun e he => a4 e he⟩
  · have := h6 m hm
    unfold I64
    omega
theorem commute_one (iv ov mv : Value) {S S1 S2 S3 : PSt} {x y : PCall} {r t u v : PRes} (f : Nat) (w : World) (h : StRead w iv ov mv S) (hg : goodB S = true) (hyes : askedM S x y = true)
    (D1 : Did S x S1 r) (D2 : Did S1 y S2 t) (D3 : Did S y S3 u) (D4 : Did S3 x S2 v) (hr : r.names.length ≤ 1000000000) (ht : t.names.length ≤ 1000000000)
    (hg2 : goodB S2 = true) (hm2 : mayM S2 = true) (hok : wlkOk S2 f 1 = true) (hlen : (shapeT S2 f).length ≤ 1000000000000) (hp : Laid w.heap.size Pow10 w) :
    Calls Tryz.prog 9 #[.agg #[iv, ov, mv], x.val, y.val] w fun e w' => e = .returned (.bool (sameM r v && sameM t u)) ∧ Below w.heap.size w w' := by
  have := commute_yes iv ov mv S S1 S2 S3 S2 x y r t u v true w h (good_wf hg).1 hyes D1 D2 D3 D4 hr ht (fun _ _ ww iv ov mv iv' ov' mv' hb h1 h2 => same22 iv ov mv iv' ov' mv' S2 f ww h1 h2 (good_wf hg2).1 hm2 (good_wf hg2).2.2 hok hlen ((hp.below hb).up hb.size))
  simpa using this
theorem commute_diff (iv ov mv : Value) {S S1 S2 S3 S4 : PSt} {x y : PCall} {r t u v : PRes} (w : World) (h : StRead w iv ov mv S) (hg : goodB S = true) (hyes : askedM S x y = true)
    (D1 : Did S x S1 r) (D2 : Did S1 y S2 t) (D3 : Did S y S3 u) (D4 : Did S3 x S4 v) (hr : r.names.length ≤ 1000000000) (ht : t.names.length ≤ 1000000000) (hne : (sameM r v && sameM t u) = false) :
    Calls Tryz.prog 9 #[.agg #[iv, ov, mv], x.val, y.val] w fun e w' => e = .returned (.bool false) ∧ Below w.heap.size w w' := by
  have := commute_yes iv ov mv S S1 S2 S3 S4 x y r t u v false w h (good_wf hg).1 hyes D1 D2 D3 D4 hr ht (fun h1 h2 => by rw [h1, h2] at hne; cases hne)
  simpa using this
end Go.Proofs.YtjkenolgkkknaaaGreatDoor
namespace Go.Proofs.YtjkenolgkkknaaaGreatDoor
open Go.RowKit
set_option maxRecDepth 100000 in
theorem index138 (zs : List PEnt) (v : Value) (l0 : Value) (p : PEnt → Bool) (w : World) (h : RowAt w 2 v (zs.map PEnt.cells)) (hlen : zs.length ≤ 1000000000)
    (hg : ∀ (z : PEnt) (ww : World), z ∈ zs → Below w.heap.size w ww → Calls Tryz.prog 139 #[.agg #[.string z.name, .int .i64 z.num], l0] ww fun e w' => e = .returned (.bool (p z)) ∧ Below ww.heap.size ww w') :
    Calls Tryz.prog 138 #[v, .func (.func 139) #[] #[l0]] w fun e w' => e = .returned (.int .i64 (idxM p zs)) ∧ Below w.heap.size w w' := by
  obtain ⟨a, cap, rfl, hat⟩ := h.at_
  rw [List.length_map]
  have HA := Lib.hid hat
  clear hat h
  unfold idxM
  obtain ⟨R, hR⟩ : ∃ R, idxFrom p zs 0 = R := ⟨_, rfl⟩
  rw [hR]
  have HR := Lib.hid hR
  clear hR
  go_enter Tryz.func138, Tryz.ntmps138
  go_wp2_with fail
  go_loopw [8] (fun i wr => ∃ (q : Nat), i = .int .i64 q ∧ q ≤ zs.length ∧ idxFrom p (zs.drop q) q = R ∧ Below w.heap.size w wr) (fun i _ => (zs.length - intOf i).toNat)
  case atStart => exact ⟨0, rfl, by omega, HR.out, bel _ _⟩
  case round =>
    obtain ⟨q, rfl, hq, hre, hb⟩ := hrel
    have iB : Bel w wr := ⟨hb⟩
    by_cases hlt : q < zs.length
    · obtain ⟨z, hz⟩ : ∃ z, zs[q]? = some z := ⟨_, List.getElem?_eq_getElem hlt⟩
      obtain ⟨b, off, rfl, iG0, iG, hc⟩ := HA.out wr hb q (PEnt.cells z) (by rw [List.getElem?_map, hz]; rfl)
      have c0 := hc 0 _ rfl
      have c1 := hc 1 _ rfl
      rw [idxFrom_drop p zs q z hz] at hre
      have hcall : ∀ ww, Below w.heap.size w ww → Calls Tryz.prog 139 #[.agg #[.string z.name, .int .i64 z.num], l0] ww fun e w' => e = .returned (.bool (p z)) ∧ Below ww.heap.size ww w' := fun ww hww => hg z ww (List.mem_of_getElem? hz) hww
      have HZ := Lib.hid (And.intro hz hre)
      clear hc hz hre hg
      rw [Nat.add_zero] at c0
      generalize hpz : p z = t at hcall HZ
      rcases t with _ | _
      · go_wp2_with (go_at_call 139; refine (hcall _ (bel _ _)).mono ?_; rintro e w' ⟨rfl, hb⟩; obtain ⟨p, rfl⟩ := hb.rest; clear hb)
        go_roundw
        case rel => exact ⟨q + 1, by go_num, by omega, by have := HZ.out.2; simpa using this, bel _ _⟩
        case measure => simp [intOf]; omega
      · have hv : R = q := by have := HZ.out.2; simpa using this.symm
        subst hv
        go_wp2_with (go_at_call 139; refine (hcall _ (bel _ _)).mono ?_; rintro e w' ⟨rfl, hb⟩; obtain ⟨p, rfl⟩ := hb.rest; clear hb)
        exact bodyPost_ret (v := .int .i64 q) (by simp [results, Tryz.results138, go_sem]) rfl ⟨rfl, bel _ _⟩
    · rw [idxFrom_end p zs q hlt] at hre
      subst hre
      clear hg
      go_wp2_with fail
      exact bodyPost_ret (v := .int .i64 (-1)) (by simp [results, Tryz.results138, go_sem]) rfl ⟨rfl, bel _ _⟩
def isName (n : ByteArray) (e : PEnt) : Bool := e.name.toList == n.toList
set_option maxRecDepth 100000 in
theorem clo139 (e : PEnt) (bx : Nat) (n : ByteArray) (w : World) (ib : BlockLt bx w) (hx : w.cell? ⟨bx, 0, none⟩ = some (.string n)) :
    Calls Tryz.prog 139 #[.agg #[.string e.name, .int .i64 e.num], .pointer (some ⟨bx, 0, none⟩)] w fun r w' => r = .returned (.bool (isName n e)) ∧ Below w.heap.size w w' := by
  go_enter Tryz.func139, Tryz.ntmps139
  go_wp2_with fail
  go_ret
  exact ⟨by first | rfl | simp_all [isName], bel _ _⟩
def prCells (p : Int × Int) : List Value := [.int .i64 p.1, .int .i64 p.2]
def pairAt (p : Int × Int) : Value := .agg #[.int .i64 p.1, .int .i64 p.2]
def isPair (p q : Int × Int) : Bool := (p.1 == q.1) && (p.2 == q.2)
set_option maxRecDepth 100000 in
set_option maxHeartbeats 2000000 in
theorem index91 (zs : List (Int × Int)) (v : Value) (p : Int × Int) (w : World) (h : RowAt w 2 v (zs.map prCells)) (hlen : zs.length ≤ 1000000000) :
    Calls Tryz.prog 91 #[v, pairAt p] w fun e w' => e = .returned (.int .i64 (idxM (isPair p) zs)) ∧ Below w.heap.size w w' := by
  obtain ⟨a, cap, rfl, hat⟩ := h.at_
  rw [List.length_map]
  have HA := Lib.hid hat
  clear hat h
  unfold idxM pairAt
  obtain ⟨R, hR⟩ : ∃ R, idxFrom (isPair p) zs 0 = R := ⟨_, rfl⟩
  rw [hR]
  have HR := Lib.hid hR
  clear hR
  obtain ⟨p1, p2⟩ := p
  simp only at *
  go_enter Tryz.func91, Tryz.ntmps91
  go_wp2_with fail
  go_loopw [8] (fun i wr => ∃ (q : Nat), i = .int .i64 q ∧ q ≤ zs.length ∧ idxFrom (isPair (p1, p2)) (zs.drop q) q = R ∧ Below w.heap.size w wr ∧ Blk wr w.heap.size #[.int .i64 p1, .int .i64 p2] 91) (fun i _ => (zs.length - intOf i).toNat)
  case atStart => exact ⟨0, rfl, by omega, HR.out, bel _ _, Blk.new _ _ _⟩
  case round =>
    obtain ⟨q, rfl, hq, hre, hb, hbk⟩ := hrel
    have iB : Bel w wr := ⟨hb⟩
    have iK := hbk.lt
    have k0 := hbk.cell 0
    have k1 := hbk.cell 1
    have HK := Lib.hid hbk
    by_cases hlt : q < zs.length
    · obtain ⟨z, hz⟩ : ∃ z, zs[q]? = some z := ⟨_, List.getElem?_eq_getElem hlt⟩
      obtain ⟨b, off, rfl, iG0, iG, hc⟩ := HA.out wr hb q (prCells z) (by rw [List.getElem?_map, hz]; rfl)
      have c0 := hc 0 _ rfl
      have c1 := hc 1 _ rfl
      rw [Nat.add_zero] at c0
      rw [idxFrom_drop _ zs q z hz] at hre
      rw [show isPair (p1, p2) z = ((p1 == z.1) && (p2 == z.2)) from rfl] at hre
      obtain ⟨z1, z2⟩ := z
      simp only at c0 c1 hre
      clear hc hz hbk
      generalize hb1 : (p1 == z1) = b1 at hre
      generalize hb2 : (p2 == z2) = b2 at hre
      rcases b1 with _ | _ <;> rcases b2 with _ | _
      · simp only [Bool.and_self, Bool.and_true, Bool.and_false, Bool.false_and, Bool.false_eq_true, if_false] at hre
        have HR2 := Lib.hid hre
        clear hre
        go_upto_region 4 with fail
        refine wp_region_quiet_rest (by kernel_rfl) (by kernel_rfl) ?_
        repeat
          first
            | go_big_quiet_skip
            | (go_big_quiet_want; go_big_quiet_op; first | go_big_quiet_on | (apply Exists.intro; refine ⟨fun _ => ?_, ?_⟩; (focus (fail)); go_big_quiet_on))
        refine wpQuiet_nil ?_
        intro w1 hw1
        obtain ⟨p, hw1⟩ := hw1
        subst hw1
        go_wp2_with fail
        go_roundw
        case rel => exact ⟨q + 1, by go_num, by omega, by have := HR2.out; simpa using this, bel _ _, (HK.out.drew.junk _)⟩
        case measure => simp [intOf]; omega
      · simp only [Bool.and_self, Bool.and_true, Bool.and_false, Bool.false_and, Bool.false_eq_true, if_false] at hre
        have HR2 := Lib.hid hre
        clear hre
        go_upto_region 4 with fail
        refine wp_region_quiet_rest (by kernel_rfl) (by kernel_rfl) ?_
        repeat
          first
            | go_big_quiet_skip
            | (go_big_quiet_want; go_big_quiet_op; first | go_big_quiet_on | (apply Exists.intro; refine ⟨fun _ => ?_, ?_⟩; (focus (fail)); go_big_quiet_on))
        refine wpQuiet_nil ?_
        intro w1 hw1
        obtain ⟨p, hw1⟩ := hw1
        subst hw1
        go_wp2_with fail
        go_roundw
        case rel => exact ⟨q + 1, by go_num, by omega, by have := HR2.out; simpa using this, bel _ _, (HK.out.drew.junk _)⟩
        case measure => simp [intOf]; omega
      · simp only [Bool.and_self, Bool.and_true, Bool.and_false, Bool.false_and, Bool.false_eq_true, if_false] at hre
        have HR2 := Lib.hid hre
        clear hre
        go_upto_region 4 with fail
        refine wp_region_quiet_rest (by kernel_rfl) (by kernel_rfl) ?_
        repeat
          first
            | go_big_quiet_skip
            | (go_big_quiet_want; go_big_quiet_op; first | go_big_quiet_on | (apply Exists.intro; refine ⟨fun _ => ?_, ?_⟩; (focus (fail)); go_big_quiet_on))
        refine wpQuiet_nil ?_
        intro w1 hw1
        obtain ⟨p, hw1⟩ := hw1
        subst hw1
        go_wp2_with fail
        go_roundw
        case rel => exact ⟨q + 1, by go_num, by omega, by have := HR2.out; simpa using this, bel _ _, (HK.out.drew.junk _)⟩
        case measure => simp [intOf]; omega
      · simp only [Bool.and_self, if_true] at hre
        subst hre
        go_upto_region 4 with fail
        refine wp_region_quiet_rest (by kernel_rfl) (by kernel_rfl) ?_
        repeat
          first
            | go_big_quiet_skip
            | (go_big_quiet_want; go_big_quiet_op; first | go_big_quiet_on | (apply Exists.intro; refine ⟨fun _ => ?_, ?_⟩; (focus (fail)); go_big_quiet_on))
        refine wpQuiet_nil ?_
        intro w1 hw1
        obtain ⟨p, hw1⟩ := hw1
        subst hw1
        go_wp2_with fail
        exact bodyPost_ret (v := .int .i64 q) (by simp [results, Tryz.results91, go_sem]) rfl ⟨rfl, bel _ _⟩
    · rw [idxFrom_end _ zs q hlt] at hre
      subst hre
      clear hbk
      go_wp2_with fail
      exact bodyPost_ret (v := .int .i64 (-1)) (by simp [results, Tryz.results91, go_sem]) rfl ⟨rfl, bel _ _⟩
set_option maxRecDepth 100000 in
theorem contains47 (zs : List (Int × Int)) (v : Value) (p : Int × Int) (w : World) (h : RowAt w 2 v (zs.map prCells)) (hlen : zs.length ≤ 1000000000) :
    Calls Tryz.prog 47 #[v, pairAt p] w fun e w' => e = .returned (.bool (zs.any (isPair p))) ∧ Below w.heap.size w w' := by
  have hi : ∀ ww, Below w.heap.size w ww → Calls Tryz.prog 91 #[v, .agg #[.int .i64 p.1, .int .i64 p.2]] ww _ := fun ww hb => index91 zs v p ww (h.below hb (Nat.le_refl _)) hlen
  have ho := h.one
  rw [← idxM_any]
  generalize idxM (isPair p) zs = R at hi ⊢
  unfold pairAt
  clear h
  go_enter Tryz.func47, Tryz.ntmps47
  go_wp2_with (go_at_call 91; refine (hi _ (bel _ _)).mono ?_; rintro e w' ⟨rfl, hb⟩; obtain ⟨p, rfl⟩ := hb.rest; clear hb)
  go_ret
  exact ⟨by first | rfl | simp, bel _ _⟩
/-- A place in a slice of inodes, or none. -/
def placeAt (bi off : Nat) (K : Int) : Value := if 0 ≤ K then .pointer (some ⟨bi, off + K.toNat * 4, none⟩) else .pointer none
set_option maxRecDepth 100000 in
set_option maxHeartbeats 4000000 in
theorem inode48 (k p : Nat) (S : PSt) (n : Int) (w : World) (iB : BlockLt k w) (hk0 : w.cell? ⟨k, 0, none⟩ = some (.pointer (some ⟨p, 0, none⟩))) (h : SP w p S) (hlen : S.ins.length ≤ 1000000000) (hpos : 0 < S.ins.length) :
    Calls Tryz.prog 48 #[.pointer (some ⟨k, 0, none⟩), .int .i64 n] w fun e w' => (∃ bi off cap, w.cell? ⟨p, 0, none⟩ = some (.slice (some ⟨bi, off, none⟩) S.ins.length cap) ∧ e = .returned (placeAt bi off (idxM (isNum n) S.ins))) ∧ Below w.heap.size w w' := by
  obtain ⟨hl, iv, ov, mv, c0, c1, c2, hr⟩ := h
  have iP : BlockLt p w := ⟨hl⟩
  obtain ⟨ai, capi, rfl, hati⟩ := hr.ins_at2
  obtain ⟨bi, off, ev, rfl, iG0, -⟩ := hati 0 S.ins[0] (List.getElem?_eq_getElem hpos)
  have HI := Lib.hid hati
  have HC := Lib.hid c0
  clear hati hr c1 c2
  unfold idxM
  obtain ⟨R, hR⟩ : ∃ R, idxFrom (isNum n) S.ins 0 = R := ⟨_, rfl⟩
  rw [hR]
  have HR := Lib.hid hR
  clear hR
  go_enter Tryz.func48, Tryz.ntmps48
  go_wp2_with fail
  go_loopw [14] (fun i wr => ∃ (q : Nat), i = .int .i64 q ∧ q ≤ S.ins.length ∧ idxFrom (isNum n) (S.ins.drop q) q = R ∧ wr = w) (fun i _ => (S.ins.length - intOf i).toNat)
  case atStart => exact ⟨0, rfl, by omega, HR.out, by first | rfl | trivial⟩
  case round =>
    obtain ⟨q, rfl, hq, hre, rfl⟩ := hrel
    by_cases hlt : q < S.ins.length
    · obtain ⟨x, hx⟩ : ∃ x, S.ins[q]? = some x := ⟨_, List.getElem?_eq_getElem hlt⟩
      obtain ⟨bi', off', ev', he, -, -, -, hcl⟩ := HI.out q x hx
      simp only [Option.some.injEq, Addr.mk.injEq, and_true] at he
      obtain ⟨rfl, rfl⟩ := he
      obtain ⟨-, y0, y1, y2, y3⟩ := hcl _ (Below.refl _ _)
      rw [idxFrom_drop _ S.ins q x hx] at hre
      rw [show isNum n x = (x.num == n) from rfl] at hre
      obtain ⟨xn, xd, xe, xdat⟩ := x
      simp only at y0 hre
      clear hcl hx y1 y2 y3
      generalize hb1 : (xn == n) = b1 at hre
      rcases b1 with _ | _
      · simp only [Bool.false_eq_true, if_false] at hre
        have HR2 := Lib.hid hre
        clear hre
        go_wp2_with fail
        go_roundw
        case rel => exact ⟨q + 1, by go_num, by omega, by have := HR2.out; simpa using this, by first | rfl | trivial⟩
        case measure => simp [intOf]; omega
      · simp only [if_true] at hre
        subst hre
        go_wp2_with fail
        exact bodyPost_ret (v := .pointer (some ⟨bi, off + q * 4, none⟩)) (by simp [results, Tryz.results48, go_sem]) rfl ⟨⟨_, _, _, HC.out, by unfold placeAt; rw [if_pos (by omega), Int.toNat_natCast]⟩, bel _ _⟩
    · rw [idxFrom_end _ S.ins q hlt] at hre
      subst hre
      go_wp2_with fail
      go_ret
      exact ⟨⟨_, _, _, HC.out, by unfold placeAt; rw [if_neg (by omega)]; rfl⟩, bel _ _⟩
end Go.Proofs.YtjkenolgkkknaaaGreatDoor
namespace Go.Proofs.YtjkenolgkkknaaaGreatDoor
open Go.RowKit
/-- A view's other parts. -/
structure VX where
  c : PCall
  fine : Bool
  tv : Value
  bytes : Int
  counts : Int
  gone : Int
def vwCells (p : Nat) (X : VX) (lv mv : Value) : Array Value :=
  #[.pointer (some ⟨p, 0, none⟩), .int .i64 X.c.kind, .int .i64 X.c.core, .int .i64 X.c.fd, .int .i64 X.c.off, .int .i64 X.c.num, .string X.c.path, .string X.c.path2, .string X.c.data, .bool X.fine, lv, X.tv, mv, .int .i64 X.bytes, .int .i64 X.counts, .int .i64 X.gone]
structure VwOwn (B : Nat) (w : World) (k p b3 : Nat) (c3 : Array Value) (X : VX) (L : List (Int × Int)) (M : List Int) (lv mv : Value) : Prop where
  hB : B ≤ k
  ex : Blk w b3 c3 91
  ne3 : lv.ownBlock ≠ some b3
  blk : Blk w k (vwCells p X lv mv) 62
  lo : w.ownsRow B 91 2 lv L.length (L.map prCells).flatten
  mo : w.ownsRow B 3 1 mv M.length (M.map (Value.int .i64))
theorem own_ne_own {w : World} {B B' : Nat} {e e' : TypeId} {s s' n n' : Nat} {v v' : Value} {xs xs' : List Value} (h : w.ownsRow B e s v n xs) (h' : w.ownsRow B' e' s' v' n' xs') (hne : e ≠ e') {g : Nat} (hg : v'.ownBlock = some g) : v.ownBlock ≠ some g := by
  rcases h'.2 with ⟨rfl, _⟩ | ⟨g', cap, cur, rfl, _, hh, _⟩
  · simp [Value.ownBlock] at hg
  · have : g' = g := by simpa [Value.ownBlock] using hg
    subst this
    exact own_ne_blk h (c := cur) (t := e') hh hne
theorem VwOwn.keep {B : Nat} {w w' : World} {k p b3 : Nat} {c3 : Array Value} {X : VX} {L : List (Int × Int)} {M : List Int} {lv mv : Value} (h : VwOwn B w k p b3 c3 X L M lv mv) {S : Nat → Prop} (hk : Keep S w w') (h1 : ¬ S k) (h2 : ∀ g, lv.ownBlock = some g → ¬ S g) (h3 : ∀ g, mv.ownBlock = some g → ¬ S g) (h6 : ¬ S b3) : VwOwn B w' k p b3 c3 X L M lv mv :=
  ⟨h.hB, hk.blk h.ex h6, h.ne3, hk.blk h.blk h1, hk.own h.lo h2, hk.own h.mo h3⟩
theorem VwOwn.below {B : Nat} {w w' : World} {k p b3 : Nat} {c3 : Array Value} {X : VX} {L : List (Int × Int)} {M : List Int} {lv mv : Value} (h : VwOwn B w k p b3 c3 X L M lv mv) (hb : Below w.heap.size w w') : VwOwn B w' k p b3 c3 X L M lv mv :=
  h.keep (Keep.of_below hb (fun _ => False)) id (fun _ _ => id) (fun _ _ => id) id
/-- A view that is walked: with the pair's block, the names. -/
structure VF (B k p b3 : Nat) (c3 : Array Value) (b4 : Nat) (X : VX) (nv : Value) (names : List ByteArray) (L : List (Int × Int)) (M : List Int) (last : Int × Int) (lv mv : Value) (w : World) : Prop where
  vw : VwOwn B w k p b3 c3 X L M lv mv
  n34 : b3 ≠ b4
  pr : Blk w b4 #[.int .i64 last.1, .int .i64 last.2] 91
  ge : B ≤ b4
  ne : lv.ownBlock ≠ some b4
  nm : w.ownsRow 0 9 1 nv names.length (names.map Value.string)
section
variable {B k p b3 b4 : Nat} {c3 : Array Value} {X : VX} {nv : Value} {names : List ByteArray} {L : List (Int × Int)} {M : List Int} {last : Int × Int} {lv mv : Value} {w w' w1 : World}
theorem VF.keep (h : VF B k p b3 c3 b4 X nv names L M last lv mv w) {S : Nat → Prop} (hk : Keep S w w') (h1 : ¬ S k) (h2 : ∀ g, lv.ownBlock = some g → ¬ S g) (h3 : ∀ g, mv.ownBlock = some g → ¬ S g) (h4 : ¬ S b4) (h5 : ∀ g, nv.ownBlock = some g → ¬ S g) (h6 : ¬ S b3) : VF B k p b3 c3 b4 X nv names L M last lv mv w' :=
  ⟨h.vw.keep hk h1 h2 h3 h6, h.n34, hk.blk h.pr h4, h.ge, h.ne, hk.own h.nm h5⟩
theorem VF.below (h : VF B k p b3 c3 b4 X nv names L M last lv mv w) (hb : Below w.heap.size w w') : VF B k p b3 c3 b4 X nv names L M last lv mv w' :=
  h.keep (Keep.of_below hb (fun _ => False)) id (fun _ _ => id) (fun _ _ => id) id (fun _ _ => id) id
/-- What a row's growing and a cell of the view may turn. -/
def Turned (k : Nat) (v : Value) (b : Nat) : Prop := b = k ∨ v.ownBlock = some b
theorem keep_grown (hg : w.grownBy w1 lv.ownBlock) (k i : Nat) (x : Value) : Keep (Turned k lv) w (w1.setCell ⟨k, i, none⟩ x) :=
  Keep.setCell (S := Turned k lv) (p := ⟨k, i, none⟩) ((Keep.refl _ w).grown hg (fun g hg => .inl (.inr hg))) (.inl (.inl rfl)) _
theorem own_set {e : TypeId} {s n : Nat} {v : Value} {xs : List Value} {c : Array Value} (h : w.ownsRow B e s v n xs) (hb : Blk w k c 62) (hne : e ≠ 62) (i : Nat) (x : Value) : (w.setCell ⟨k, i, none⟩ x).ownsRow B e s v n xs :=
  Keep.own (S := fun b => b = k) (Keep.setCell (S := fun b => b = k) (p := ⟨k, i, none⟩) (Keep.refl _ w) (.inl rfl) _) h (fun g hg hgk => by
    have := own_ne_blk h hb hne
    rw [hg, hgk] at this
    exact this rfl)
theorem VF.looks (h : VF B k p b3 c3 b4 X nv names L M last lv mv w) {lv' : Value} {q : Int × Int} (hg : w.grownBy w1 lv.ownBlock) (hown : w1.ownsRow B 91 2 lv' (L.length + 1) ((L.map prCells).flatten ++ prCells q)) (hl : lv'.ownBlock = lv.ownBlock ∨ lv'.ownBlock = some w.heap.size) :
    VF B k p b3 c3 b4 X nv names (L ++ [q]) M last lv' mv (w1.setCell ⟨k, 10, none⟩ lv') := by
  have hkp := keep_grown (lv := lv) hg k 10 lv'
  have hnk := own_ne_blk h.vw.lo h.vw.blk (by decide)
  have hb4k : b4 ≠ k := h.pr.ne_ h.vw.blk (by decide)
  have hblk1 : Blk w1 k (vwCells p X lv mv) 62 := (hg.block k h.vw.blk.lt.lt (fun e => hnk e.symm)).trans h.vw.blk
  have hb3k : b3 ≠ k := h.vw.ex.ne_ h.vw.blk (by decide)
  refine ⟨⟨h.vw.hB, hkp.blk h.vw.ex ?_, ?_, ?_, ?_, ?_⟩, h.n34, hkp.blk h.pr ?_, h.ge, ?_, hkp.own h.nm ?_⟩
  · rintro (hT | hT)
    · exact hb3k hT
    · exact h.vw.ne3 hT
  · rcases hl with hl | hl
    · rw [hl]; exact h.vw.ne3
    · rw [hl]
      intro e
      have := h.vw.ex.lt.lt
      simp only [Option.some.injEq] at e
      omega
  · have := hblk1.set_ 10 lv'
    simpa [vwCells] using this
  · have := own_set hown hblk1 (by decide) 10 lv'
    simpa using this
  · refine hkp.own h.vw.mo (fun g hg hT => ?_)
    rcases hT with rfl | hT
    · exact own_ne_blk h.vw.mo h.vw.blk (by decide) hg
    · exact own_ne_own h.vw.lo h.vw.mo (by decide) hg hT
  · rintro (hT | hT)
    · exact hb4k hT
    · exact h.ne hT
  · rcases hl with hl | hl
    · rw [hl]; exact h.ne
    · rw [hl]
      intro e
      have := h.pr.lt.lt
      simp only [Option.some.injEq] at e
      omega
  · intro g hg hT
    rcases hT with rfl | hT
    · exact own_ne_blk h.nm h.vw.blk (by decide) hg
    · exact own_ne_own h.vw.lo h.nm (by decide) hg hT
theorem VF.met (h : VF B k p b3 c3 b4 X nv names L M last lv mv w) {mv' : Value} {n : Int} (hg : w.grownBy w1 mv.ownBlock) (hown : w1.ownsRow B 3 1 mv' (M.length + 1) (M.map (Value.int .i64) ++ [.int .i64 n])) :
    VF B k p b3 c3 b4 X nv names L (M ++ [n]) last lv mv' (w1.setCell ⟨k, 12, none⟩ mv') := by
  have hkp := keep_grown (lv := mv) hg k 12 mv'
  have hnk := own_ne_blk h.vw.mo h.vw.blk (by decide)
  have hb4k : b4 ≠ k := h.pr.ne_ h.vw.blk (by decide)
  have hblk1 : Blk w1 k (vwCells p X lv mv) 62 := (hg.block k h.vw.blk.lt.lt (fun e => hnk e.symm)).trans h.vw.blk
  have hb3k : b3 ≠ k := h.vw.ex.ne_ h.vw.blk (by decide)
  refine ⟨⟨h.vw.hB, hkp.blk h.vw.ex ?_, h.vw.ne3, ?_, ?_, ?_⟩, h.n34, hkp.blk h.pr ?_, h.ge, h.ne, hkp.own h.nm ?_⟩
  · rintro (hT | hT)
    · exact hb3k hT
    · exact own_ne_blk h.vw.mo h.vw.ex (by decide) hT
  · have := hblk1.set_ 12 mv'
    simpa [vwCells] using this
  · refine hkp.own h.vw.lo (fun g hg hT => ?_)
    rcases hT with rfl | hT
    · exact own_ne_blk h.vw.lo h.vw.blk (by decide) hg
    · exact own_ne_own h.vw.mo h.vw.lo (by decide) hg hT
  · have := own_set hown hblk1 (by decide) 12 mv'
    simpa using this
  · rintro (hT | hT)
    · exact hb4k hT
    · exact own_ne_blk h.vw.mo h.pr (by decide) hT
  · intro g hg hT
    rcases hT with rfl | hT
    · exact own_ne_blk h.nm h.vw.blk (by decide) hg
    · exact own_ne_own h.vw.mo h.nm (by decide) hg hT
theorem VF.lastSet (h : VF B k p b3 c3 b4 X nv names L M last lv mv w) (q : Int × Int) :
    VF B k p b3 c3 b4 X nv names L M q lv mv ((w.setCell ⟨b4, 0, none⟩ (.int .i64 q.1)).setCell ⟨b4, 1, none⟩ (.int .i64 q.2)) := by
  have hkp : Keep (fun b => b = b4) w ((w.setCell ⟨b4, 0, none⟩ (.int .i64 q.1)).setCell ⟨b4, 1, none⟩ (.int .i64 q.2)) :=
    Keep.setCell (S := fun b => b = b4) (p := ⟨b4, 1, none⟩) (Keep.setCell (S := fun b => b = b4) (p := ⟨b4, 0, none⟩) (Keep.refl _ w) (.inl rfl) _) (.inl rfl) _
  have hb4k : b4 ≠ k := h.pr.ne_ h.vw.blk (by decide)
  refine ⟨h.vw.keep hkp (fun e => hb4k e.symm) (fun g hg e => h.ne (by rw [hg, e])) (fun g hg e => ?_) h.n34, h.n34, ?_, h.ge, h.ne, hkp.own h.nm (fun g hg e => ?_)⟩
  · subst e
    exact own_ne_blk h.vw.mo h.pr (by decide) hg
  · have := (h.pr.set_ 0 (.int .i64 q.1)).set_ 1 (.int .i64 q.2)
    simpa using this
  · subst e
    exact own_ne_blk h.nm h.pr (by decide) hg
end
theorem turned_below {B k i : Nat} {v x : Value} {w w1 : World} (hg : w.grownBy w1 v.ownBlock) (hB : B ≤ w.heap.size) (hk : B ≤ k) (hv : ∀ g, v.ownBlock = some g → B ≤ g) : Below B w (w1.setCell ⟨k, i, none⟩ x) :=
  (keep_grown (lv := v) hg k i x).below hB (fun b hb hT => by
    rcases hT with rfl | hT
    · omega
    · have := hv b hT; omega)
/-- A walk's end: the last name's pair, the number; what it looks at, what it goes through. -/
structure VRes where
  last : Int × Int
  num : Int
  L : List (Int × Int)
  M : List Int
def vwalkF (S : PSt) : List ByteArray → (Int × Int) → Int → List (Int × Int) → List Int → VRes
  | [], last, num, L, M => ⟨last, num, L, M⟩
  | n :: r, last, num, L, M => match S.ins[(idxM (isNum num) S.ins).toNat]? with
    | none => ⟨(0, 0), 0, L, M⟩
    | some x => if x.dir = false then ⟨(0, 0), 0, L, M⟩ else
      if idxM (isName n) x.ents < 0 then ⟨if r.isEmpty = true then (num, bucketM n) else last, 0, L ++ [(num, bucketM n)], M⟩ else
      match x.ents[(idxM (isName n) x.ents).toNat]? with
      | none => ⟨(0, 0), 0, L, M⟩
      | some e => vwalkF S r (if r.isEmpty = true then (num, bucketM n) else last) e.num (L ++ [(num, bucketM n)]) (M ++ [e.num])
def linkedB (S : PSt) : Bool := decide (0 ≤ idxM (isNum 1) S.ins) && S.ins.all fun x => x.ents.all fun e => decide (0 ≤ idxM (isNum e.num) S.ins)
end Go.Proofs.YtjkenolgkkknaaaGreatDoor
