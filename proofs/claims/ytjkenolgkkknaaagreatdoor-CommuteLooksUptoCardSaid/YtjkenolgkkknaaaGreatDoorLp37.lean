/- Part of the proof that the calls that look alone commute. Conditions: none. -/
import Derived.Test.YtjkenolgkkknaaaGreatDoorLp35
set_option linter.unusedVariables false
set_option linter.unusedSimpArgs false
set_option maxRecDepth 100000
set_option maxHeartbeats 8000000
/- view.walk of package commute. Conditions: none. -/
set_option linter.unusedVariables false
set_option linter.unusedSimpArgs false
namespace Go.Proofs.YtjkenolgkkknaaaGreatDoor
open Go.RowKit
theorem abs_world {F : World → Prop} {c : Code} {Q : Exit → Act → World → Prop} {a : Act} {w : World} (hF : F w) (h : ∀ w, F w → c.wp Tryz.prog Q a w) : c.wp Tryz.prog Q a w := h w hF
theorem VwOwn.grown_blk {B : Nat} {w w1 : World} {k p b3 : Nat} {c3 : Array Value} {X : VX} {L : List (Int × Int)} {M : List Int} {lv mv v : Value} (h : VwOwn B w k p b3 c3 X L M lv mv) (hg : w.grownBy w1 v.ownBlock) (hv : v.ownBlock ≠ some k) : Blk w1 k (vwCells p X lv mv) 62 :=
  (hg.block k h.blk.lt.lt (fun e => hv e.symm)).trans h.blk
theorem names_flat (names : List ByteArray) : (names.map fun n => [Value.string n]).flatten = names.map Value.string := by
  induction names with
  | nil => rfl
  | cons a r ih =>
    simp only [List.map_cons, List.flatten_cons, ih]
    rfl
theorem names_at {nv : Value} {names : List ByteArray} {w : World} (h : w.ownsRow 0 9 1 nv names.length (names.map Value.string)) : RowAt w 1 nv (names.map fun n => [.string n]) := by
  have h2 : w.ownsRow 0 9 1 nv (names.map fun n => [Value.string n]).length (names.map fun n => [Value.string n]).flatten := by
    rw [List.length_map, names_flat]
    exact h
  exact (OwnP.of_own h2 (by decide) (fun cs hc => by
    obtain ⟨n, _, rfl⟩ := List.mem_map.1 hc
    rfl)).row
theorem info91 : (Tryz.prog.info? 91).map (fun i => (i.zero, i.size, i.bytes)) = some (some (.agg #[.int .i64 0, .int .i64 0]), 2, 16) := by kernel_rfl
set_option maxRecDepth 100000 in
set_option maxHeartbeats 8000000 in
theorem walk89 (B k p b3 : Nat) (c3 : Array Value) (S : PSt) (X : VX) (L : List (Int × Int)) (M : List Int) (path : ByteArray) (lv mv : Value) (w : World) (h : VwOwn B w k p b3 c3 X L M lv mv) (hL : Laid B (fun w => SP w p S) w) (hBw : B ≤ w.heap.size) (hwf : S.wf) (hlk : linkedB S = true) (hp : (parseM path).1 = 0) (hnl : (parseM path).2.length ≤ 1000000000) (hLl : L.length ≤ 1000000000) (hMl : M.length ≤ 1000000000) :
    Calls Tryz.prog 89 #[.pointer (some ⟨k, 0, none⟩), .string path] w fun e w' => let R := vwalkF S (parseM path).2 (0, 0) 1 L (M ++ [1])
      e = .returned (.tuple #[pairAt R.last, .int .i64 R.num]) ∧ (∃ lv' mv', VwOwn B w' k p b3 c3 X R.L R.M lv' mv') ∧ Below B w w' := by
  obtain ⟨i3, hi3, h30, h31, h32⟩ := info_parts info3
  obtain ⟨i9x, hi9, h90, h91, h92⟩ := info_parts info91
  have hpar := fun ww => parse136 path ww
  obtain ⟨w0, hsp, hB0, hb0⟩ := hL
  obtain ⟨hl0, iv, ov, mv0, c0, c1, c2, hr⟩ := hsp
  obtain ⟨ai, capi, rfl, hati⟩ := hr.ins_at2
  rw [show parseM path = ((parseM path).1, (parseM path).2) from rfl, hp] at hpar
  generalize hnames : (parseM path).2 = names at hpar hnl ⊢
  simp only
  unfold linkedB at hlk
  simp only [Bool.and_eq_true, decide_eq_true_eq, List.all_eq_true] at hlk
  generalize hRR : vwalkF S names (0, 0) 1 L (M ++ [1]) = RR
  have HR := Lib.hid hRR
  have iK := h.blk.lt
  have hSP0 : SP w0 p S := ⟨hl0, _, ov, mv0, c0, c1, c2, hr⟩
  have hino : ∀ ww n, Below B w ww → ww.cell? ⟨k, 0, none⟩ = some (.pointer (some ⟨p, 0, none⟩)) → BlockLt k ww → (0 ≤ idxM (isNum n) S.ins) → ∃ bi off, ai = some ⟨bi, off, none⟩ ∧ Calls Tryz.prog 48 #[.pointer (some ⟨k, 0, none⟩), .int .i64 n] ww fun e w' => e = .returned (.pointer (some ⟨bi, off + (idxM (isNum n) S.ins).toNat * 4, none⟩)) ∧ Below ww.heap.size ww w' := fun ww n hb hk0 ik hn => by
    have hbb : Below w0.heap.size w0 ww := hb0.trans (hb.mono hB0)
    have hib := idxM_bounds (isNum n) S.ins
    have hpos : 0 < S.ins.length := by omega
    obtain ⟨bi, off, ev, rfl, _⟩ := hati 0 S.ins[0] (List.getElem?_eq_getElem hpos)
    refine ⟨bi, off, rfl, (inode48 k p S n ww ik hk0 (hSP0.below hbb (Nat.le_refl _)) hwf.1 hpos).mono ?_⟩
    rintro e w' ⟨⟨bi', off', cap', h1, rfl⟩, h2⟩
    have h3 := (hbb.cell (p := ⟨p, 0, none⟩) hl0).trans c0
    rw [h3] at h1
    simp only [Option.some.injEq, Value.slice.injEq, Addr.mk.injEq] at h1
    obtain ⟨⟨rfl, rfl, -⟩, -, rfl⟩ := h1
    exact ⟨by unfold placeAt; rw [if_pos hn], h2⟩
  have hre : ∀ wr, Below B w wr → Below w0.heap.size w0 wr := fun wr h => hb0.trans (h.mono hB0)
  have iBB : ∀ ww, Below w.heap.size w ww → Below B w ww := fun ww h => h.mono hBw
  have HI := Lib.hid (And.intro hati (And.intro hlk (And.intro hwf (And.intro hLl hMl))))
  have HV := Lib.hid h
  clear hati hr c0 c1 c2 hSP0 hwf hlk hRR hLl hMl h hp
  go_enter Tryz.func89, Tryz.ntmps89
  go_upto_region 5 with (go_at_call 136; refine (hpar _).mono ?_; rintro e w1 ⟨nv, rfl, hb1, hnm, hng⟩; obtain ⟨p1, rfl⟩ := hb1.rest; clear hb1; obtain ⟨an, cn, rfl⟩ := own_form hnm)
  have hV0 : VF B k p b3 c3 w.heap.size X (.slice an names.length cn) names L M (0, 0) lv mv ((w.alloc (Obj.cells #[.int .i64 0, .int .i64 0] 91)).junk p1) := by
    refine ⟨(HV.out.below (bel w _)), (by have := HV.out.ex.lt.lt; omega), (Blk.new _ _ _).junk _, hBw, ?_, hnm⟩
    intro e
    have := HV.out.lo
    rcases this.2 with ⟨rfl, _⟩ | ⟨g, cap, cur, rfl, _, hh, _⟩
    · simp [Value.ownBlock] at e
    · have e2 : g = w.heap.size := by simpa [Value.ownBlock] using e
      have := (Array.getElem?_eq_some_iff.1 hh).1
      omega
  refine abs_world (F := fun wA => VF B k p b3 c3 w.heap.size X (.slice an names.length cn) names L M (0, 0) lv mv wA ∧ Below B w wA) ⟨hV0, iBB _ (bel w _)⟩ ?_
  clear hnm hng hV0
  rintro wA ⟨hVA, hbA⟩
  have hmo := hVA.vw.mo
  have iKA := hVA.vw.blk.lt
  have m12 : wA.cell? ⟨k, 12, none⟩ = some mv := hVA.vw.blk.cell 12
  have hBA : B ≤ wA.heap.size := Nat.le_trans hBw hbA.size
  have hMl := HI.out.2.2.2.2
  have fm : wA.frozen? ⟨k, 12, none⟩ = false := hVA.vw.blk.frozen 12
  have HA := Lib.hid (And.intro hVA hbA)
  clear hVA hbA
  go_wp2_with (at_builtin; refine wpList_append_own _ rfl _ _ 25 rfl B 3 i3 (.int .i64 0) 1 8 Tryz.underlying25 hi3 h30 h31 h32 rfl (by decide) _ _ _ rfl (hmo.alloc _) ⟨wA.heap.size, 0, none⟩ 1 1 [.int .i64 1] rfl rfl ?c1 ?c2 ?c3 ?c4 ?c5 ?_)
  case c1 =>
    intro j u hj
    match j, hj with
    | 0, hj => simp at hj; subst hj; simp [Addr.add]
  case c2 => intro u hu; simp at hu; subst hu; rfl
  case c3 => unfold maxLen; omega
  case c4 => omega
  case c5 => simp; omega
  intro mv1 w2 hown' hgrow _
  have hVA1 := HA.out.1.below (bel wA (wA.alloc (Obj.cells #[.int .i64 1] 3)))
  have hV1 := hVA1.met hgrow hown'
  have hb1 : Below B w (w2.setCell ⟨k, 12, none⟩ mv1) := HA.out.2.trans (((bel wA (wA.alloc (Obj.cells #[.int .i64 1] 3))).mono hBA).trans (turned_below hgrow (by simp; omega) HV.out.hB (fun g hg => (hVA1.vw.mo.lt g hg).1)))
  have hbk2 := hVA1.vw.grown_blk hgrow (own_ne_blk hVA1.vw.mo hVA1.vw.blk (by decide))
  have hfz2 : w2.frozen? ⟨k, 12, none⟩ = false := hbk2.frozen 12
  have hcl2 : w2.cell? ⟨k, 12, none⟩ = some mv := hbk2.cell 12
  have iK2 : BlockLt k w2 := hbk2.lt
  obtain ⟨am1, cm1, rfl⟩ := own_form hown'
  have HA1 := Lib.hid (And.intro hV1 hb1)
  clear hV1 hb1 hVA1 hgrow hown' m12 fm hmo hbk2
  go_upto_region 6 with fail
  refine abs_world (F := fun wA => (∃ mv1, VF B k p b3 c3 w.heap.size X (.slice an names.length cn) names L (M ++ [1]) (0, 0) lv mv1 wA) ∧ Below B w wA) ⟨⟨_, HA1.out.1⟩, HA1.out.2⟩ ?_
  clear hfz2 hcl2 iK2 HA HA1
  rintro wA ⟨⟨mv1, hVA⟩, hbA⟩
  have HA := Lib.hid (And.intro hVA hbA)
  clear hVA hbA
  go_wp2_with fail
  go_loopw [5, 33] (fun vn vi wr => ∃ (q : Nat) (num : Int) (last : Int × Int) (L' : List (Int × Int)) (M' : List Int) (lv' mv' : Value), vi = .int .i64 q ∧ vn = .int .i64 num ∧ q ≤ names.length ∧ vwalkF S (names.drop q) last num L' M' = RR ∧ L'.length ≤ L.length + q ∧ M'.length ≤ M.length + 1 + q ∧ 0 ≤ idxM (isNum num) S.ins ∧ I64 num ∧ VF B k p b3 c3 w.heap.size X (.slice an names.length cn) names L' M' last lv' mv' wr ∧ Below B w wr) (fun _ vi _ => (names.length - intOf vi).toNat)
  case atStart => exact ⟨0, 1, (0, 0), L, M ++ [1], _, _, rfl, rfl, by omega, HR.out, by omega, by simp, HI.out.2.1.1, by unfold I64; omega, HA.out.1, HA.out.2⟩
  case round =>
    obtain ⟨q, num, last, L', M', lv', mv', rfl, rfl, hq, hre1, hL1, hM1, hix, hn64, hV, hbr⟩ := hrel
    have hBr : B ≤ wr.heap.size := Nat.le_trans hBw hbr.size
    by_cases hlt : q < names.length
    · obtain ⟨n, hn⟩ : ∃ n, names[q]? = some n := ⟨_, List.getElem?_eq_getElem hlt⟩
      obtain ⟨a, cap, he, hat⟩ := (names_at hV.nm).at_
      simp only [List.length_map, Value.slice.injEq] at he
      obtain ⟨rfl, -, rfl⟩ := he
      obtain ⟨bn, on, rfl, iN, -, hcn⟩ := hat wr (Below.refl _ _) q [.string n] (by rw [List.getElem?_map, hn]; rfl)
      have n0 := hcn 0 _ rfl
      rw [Nat.mul_one, Nat.add_zero] at n0
      have iKr := hV.vw.blk.lt
      have k0 : wr.cell? ⟨k, 0, none⟩ = some (.pointer (some ⟨p, 0, none⟩)) := hV.vw.blk.cell 0
      have hwfn := HI.out.2.2.1
      obtain ⟨K, hK⟩ : ∃ K : Nat, idxM (isNum num) S.ins = K := ⟨(idxM (isNum num) S.ins).toNat, by omega⟩
      have hib := idxM_bounds (isNum num) S.ins
      obtain ⟨x, hx⟩ : ∃ x, S.ins[K]? = some x := ⟨_, List.getElem?_eq_getElem (by omega)⟩
      have hxm := List.mem_of_getElem? hx
      obtain ⟨bi, off, ev, hai, iG0, ho1, hev, hcl⟩ := HI.out.1 K x hx
      subst hai
      have hcall : ∀ ww, Below wr.heap.size wr ww → Calls Tryz.prog 48 #[.pointer (some ⟨k, 0, none⟩), .int .i64 num] ww fun e w' => e = .returned (.pointer (some ⟨bi, off + K * 4, none⟩)) ∧ Below ww.heap.size ww w' := fun ww hb => by
        obtain ⟨bi', off', he, hc⟩ := hino ww num (hbr.trans (hb.mono hBr)) ((hb.cell (p := ⟨k, 0, none⟩) iKr.lt).trans k0) ⟨by have := iKr.lt; have := hb.size; omega⟩ hix
        simp only [Option.some.injEq, Addr.mk.injEq, and_true] at he
        obtain ⟨rfl, rfl⟩ := he
        rw [hK, Int.toNat_natCast] at hc
        exact hc
      obtain ⟨iG, y0, y1, y2, y3⟩ := hcl wr (hre wr hbr)
      rw [drop_at hn] at hre1
      unfold vwalkF at hre1
      rw [hK, Int.toNat_natCast, hx] at hre1
      simp only at hre1
      have hxl := hwfn.2.2.2.1 x hxm
      have hlx := HI.out.2.1.2 x hxm
      have hevR : ∀ wr, Below B w wr → RowAt wr 2 ev (x.ents.map PEnt.cells) := fun wr h => hev.below (hre wr h) (Nat.le_refl _)
      obtain ⟨ae, ce, rfl, hate⟩ := hev.at_
      rw [List.length_map] at y2
      obtain ⟨xn, xd, xe, xdat⟩ := x
      simp only at hre1 y0 y1 y2 y3 hxl hlx hate
      have HX := Lib.hid (And.intro hre1 (And.intro hcl (And.intro hate (And.intro hV hbr))))
      clear hre1 hcl hate hV hx hxm hwfn hcn hat hn
      rcases xd with _ | _
      · go_upto_region 11 with (go_at_call 48; refine (hcall _ (bel wr _)).mono ?_; rintro e w' ⟨rfl, hb⟩; obtain ⟨pj, rfl⟩ := hb.rest; clear hb)
        have hR1 : (⟨(0, 0), 0, L', M'⟩ : VRes) = RR := by have := HX.out.1; simpa using this
        refine abs_world (F := fun wB => VF B k p b3 c3 w.heap.size X (.slice (some ⟨bn, on, none⟩) names.length cn) names L' M' last lv' mv' wB ∧ Below B w wB) ⟨HX.out.2.2.2.1.below (bel wr _), HX.out.2.2.2.2.trans ((bel wr _).mono hBr)⟩ ?_
        clear hcall
        rintro wB ⟨hVB, hbB⟩
        have p0 : wB.cell? ⟨w.heap.size, 0, none⟩ = some (.int .i64 last.1) := hVB.pr.cell 0
        have p1 : wB.cell? ⟨w.heap.size, 1, none⟩ = some (.int .i64 last.2) := hVB.pr.cell 1
        have fp0 : wB.frozen? ⟨w.heap.size, 0, none⟩ = false := hVB.pr.frozen 0
        have fp1 : wB.frozen? ⟨w.heap.size, 1, none⟩ = false := hVB.pr.frozen 1
        have iB4 := hVB.pr.lt
        have hV2 := hVB.lastSet (0, 0)
        have hb2 : Below B w ((wB.setCell ⟨w.heap.size, 0, none⟩ (.int .i64 0)).setCell ⟨w.heap.size, 1, none⟩ (.int .i64 0)) := (hbB.setCell (p := ⟨w.heap.size, 0, none⟩) hBw _).setCell (p := ⟨w.heap.size, 1, none⟩) hBw _
        have HB := Lib.hid (And.intro hV2 (And.intro hb2 hR1))
        clear hVB hbB hV2 hb2 hR1
        go_wp2_with fail
        refine bodyPost_ret (v := .tuple #[pairAt (0, 0), .int .i64 0]) (by unfold results pairAt; simp only [Tryz.results89]; go_simp) rfl ⟨by rw [← HB.out.2.2], ⟨lv', mv', by rw [← HB.out.2.2]; exact HB.out.1.vw⟩, HB.out.2.1⟩
      · go_upto_region 13 with (first | (go_at_call 48; refine (hcall _ (bel wr _)).mono ?_; rintro e w' ⟨rfl, hb⟩; obtain ⟨pj, rfl⟩ := hb.rest; clear hb) | (go_at_call 137; refine (bucket137 n _).mono ?_; rintro e w' ⟨rfl, hb⟩; obtain ⟨pk, rfl⟩ := hb.rest; clear hb))
        have hlx2 := HI.out.2.2.2.1
        refine abs_world (F := fun wB => (VF B k p b3 c3 w.heap.size X (.slice (some ⟨bn, on, none⟩) names.length cn) names L' M' last lv' mv' wB ∧ Below B w wB) ∧ Blk wB wr.heap.size #[.string n] 9 ∧ Blk wB (wr.heap.size + 1 + (pj.more pk).len) #[.int .i64 num, .int .i64 (bucketM n)] 91 ∧ lv'.ownBlock ≠ some (wr.heap.size + 1 + (pj.more pk).len)) ⟨⟨HX.out.2.2.2.1.below (bel wr _), HX.out.2.2.2.2.trans ((bel wr _).mono hBr)⟩, ?_, Blk.new_i _ _ _ _, ?_⟩ ?_
        · exact (((Blk.new wr _ 9).junk _).alloc _)
        · intro e
          have := HX.out.2.2.2.1.vw.lo.lt _ e
          omega
        clear hcall
        rintro wB ⟨⟨hVB, hbB⟩, h9, h11, hne11⟩
        have v10 : wB.cell? ⟨k, 10, none⟩ = some lv' := hVB.vw.blk.cell 10
        have q0 : wB.cell? ⟨(wr.heap.size + 1 + (pj.more pk).len), 0, none⟩ = some (.int .i64 num) := h11.cell 0
        have q1 : wB.cell? ⟨(wr.heap.size + 1 + (pj.more pk).len), 1, none⟩ = some (.int .i64 (bucketM n)) := h11.cell 1
        have iKB := hVB.vw.blk.lt
        have i11 := h11.lt
        have i9 := h9.lt
        have hBB : B ≤ wB.heap.size := Nat.le_trans hBw hbB.size
        have hlvo := hVB.vw.lo
        obtain ⟨al, cl, rfl⟩ := own_form hlvo
        have HB := Lib.hid (And.intro hVB (And.intro hbB (And.intro h9 (And.intro h11 hne11))))
        have HLO := Lib.hid hlvo
        clear hVB hbB h9 h11 hne11 hlvo
        refine wp_region_eff [6, 7, 10] true (fun w' => w'.cell? ⟨k, 10, none⟩ = some (.slice al L'.length cl) ∧ w'.cell? ⟨(wr.heap.size + 1 + (pj.more pk).len), 0, none⟩ = some (.int .i64 num) ∧ w'.cell? ⟨(wr.heap.size + 1 + (pj.more pk).len), 1, none⟩ = some (.int .i64 (bucketM n))) (by kernel_rfl) (by kernel_rfl) ?_ ?_
        · (try dsimp only); (repeat' apply And.intro) <;> go_simp
        repeat
          refine wpL_look rfl rfl ?_
          apply Exists.intro
          refine ⟨?_, ?_⟩
          focus
            rintro w' ⟨s0, s1, s2⟩
            go_simp
            first | done | rfl
          simp only [Act.put, List.setIfInBounds_toArray, List.set_cons_zero, List.set_cons_succ]
        refine wpL_do rfl rfl ?_
        apply Exists.intro
        apply Exists.intro
        refine ⟨?_, ?_, ?_⟩
        focus
          go_simp
          exact ⟨rfl, rfl⟩
        focus
          refine .inl ?_
          (try dsimp only); (repeat' apply And.intro) <;> go_simp
        simp only [Act.put, List.setIfInBounds_toArray, List.set_cons_zero, List.set_cons_succ]
        refine wpL_act rfl rfl ?_
        refine eff_append (.tmp 55) (.tmp 57) 60 ?e00 B 91 i9x (.agg #[.int .i64 0, .int .i64 0]) 2 16 Tryz.underlying60 hi9 h90 h91 h92 ?e9 ?e10 (.slice al L'.length cl) L'.length (L'.map prCells).flatten ?e1 ?e2 ⟨wB.heap.size, 0, none⟩ 1 1 [.int .i64 num, .int .i64 (bucketM n)] ?e3 ?e4 ?news ?e5 ?e6 ?e7 ?e8 ?_
        case e00 => rfl
        case e9 => rfl
        case e10 => decide
        case e1 => rfl
        case e3 => rfl
        case e4 => rfl
        case e2 => exact own_drew (HLO.out.alloc _)
        case e5 => intro u hu; simp at hu; rcases hu with rfl | rfl <;> rfl
        case e6 => unfold maxLen; omega
        case e7 => omega
        case e8 => simp; omega
        case news => exact news_new wB.drew [.int .i64 num, .int .i64 (bucketM n)] 91 wB.heap.size
        intro v' w1 hown1 hgrow hloc
        obtain ⟨a', cp', rfl⟩ := own_form hown1
        have hVB2 := HB.out.1.below (bel wB (wB.drew.alloc (Obj.cells #[.int .i64 num, .int .i64 (bucketM n)] 91)))
        have hV2 := hVB2.looks (q := (num, bucketM n)) hgrow hown1 hloc
        have hbk1 := hVB2.vw.grown_blk hgrow (own_ne_blk hVB2.vw.lo hVB2.vw.blk (by decide))
        have h11b : Blk w1 (wr.heap.size + 1 + (pj.more pk).len) #[.int .i64 num, .int .i64 (bucketM n)] 91 := (hgrow.block _ (by have := i11.lt; simp; omega) (fun e => HB.out.2.2.2.2 e.symm)).trans (HB.out.2.2.2.1.drew.alloc _)
        have h9b : Blk w1 wr.heap.size #[.string n] 9 := (hgrow.block _ (by have := i9.lt; simp; omega) (fun e => own_ne_blk hVB2.vw.lo (HB.out.2.2.1.drew.alloc _) (by decide) e.symm)).trans (HB.out.2.2.1.drew.alloc _)
        have hb2 : Below B w (w1.setCell ⟨k, 10, none⟩ (.slice a' (L'.length + 1) cp')) := HB.out.2.1.trans (((bel wB (wB.drew.alloc (Obj.cells #[.int .i64 num, .int .i64 (bucketM n)] 91))).mono hBB).trans (turned_below hgrow (by simp; omega) HV.out.hB (fun g hg => (hVB2.vw.lo.lt g hg).1)))
        have w10 : w1.cell? ⟨k, 10, none⟩ = some (.slice al L'.length cl) := hbk1.cell 10
        have f10 : w1.frozen? ⟨k, 10, none⟩ = false := hbk1.frozen 10
        have r0 : w1.cell? ⟨(wr.heap.size + 1 + (pj.more pk).len), 0, none⟩ = some (.int .i64 num) := h11b.cell 0
        have r1 : w1.cell? ⟨(wr.heap.size + 1 + (pj.more pk).len), 1, none⟩ = some (.int .i64 (bucketM n)) := h11b.cell 1
        have iK1 := hbk1.lt
        have n11k : (wr.heap.size + 1 + (pj.more pk).len) ≠ k := h11b.ne_ hbk1 (by decide)
        have n9k : wr.heap.size ≠ k := h9b.ne_ hbk1 (by decide)
        have HC := Lib.hid (And.intro hV2 (And.intro hb2 (And.intro (Blk.far (a := ⟨k, 10, none⟩) h9b n9k (.slice a' (L'.length + 1) cp')) (Blk.far (a := ⟨k, 10, none⟩) h11b n11k (.slice a' (L'.length + 1) cp')))))
        clear hown1 hgrow hloc hVB2 hV2 hb2 hbk1 h11b h9b
        refine ⟨.inl ?_, ?_⟩
        focus
          (try dsimp only); (repeat' apply And.intro) <;> go_simp
        simp only [Act.put, List.setIfInBounds_toArray, List.set_cons_zero, List.set_cons_succ]
        repeat
          refine wpL_look rfl rfl ?_
          apply Exists.intro
          refine ⟨?_, ?_⟩
          focus
            rintro w' ⟨s0, s1, s2⟩
            go_simp
            first | done | rfl
          simp only [Act.put, List.setIfInBounds_toArray, List.set_cons_zero, List.set_cons_succ]
        refine wpL_skip rfl rfl ?_
        refine ⟨w1.setCell ⟨k, 10, none⟩ (.slice a' (L'.length + 1) cp'), ?_, .inr ⟨rfl, rfl⟩, ?_⟩
        focus
          go_simp
        simp only [Act.put, List.setIfInBounds_toArray, List.set_cons_zero, List.set_cons_succ]
        refine wpL_end ?_
        go_upto_region 14 with fail
        refine abs_world (F := fun wC => (∃ lv2, VF B k p b3 c3 w.heap.size X (.slice (some ⟨bn, on, none⟩) names.length cn) names (L' ++ [(num, bucketM n)]) M' last lv2 mv' wC) ∧ Below B w wC ∧ Blk wC wr.heap.size #[.string n] 9 ∧ Blk wC (wr.heap.size + 1 + (pj.more pk).len) #[.int .i64 num, .int .i64 (bucketM n)] 91) ⟨⟨_, HC.out.1⟩, HC.out.2.1, HC.out.2.2.1, HC.out.2.2.2⟩ ?_
        clear w10 f10 r0 r1 iK1 n11k n9k HC HB HLO v10 q0 q1 iKB i11 i9
        rintro wC ⟨⟨lv2, hVC⟩, hbC, h9, h11⟩
        have hqe : (names.drop (q + 1)).isEmpty = decide (q + 1 = names.length) := by
          by_cases hq1 : q + 1 = names.length
          · rw [List.drop_of_length_le (by omega)]
            simp [hq1]
          · have : (names.drop (q + 1)).length ≠ 0 := by rw [List.length_drop]; omega
            rcases hd : names.drop (q + 1) with _ | ⟨a, r⟩
            · rw [hd] at this; simp at this
            · simp [hq1]
        by_cases hq1 : q + 1 = names.length
        · have hqb : (names.drop (q + 1)).isEmpty = true := by rw [hqe]; simpa using hq1
          have hqi : ((q : Int) == (names.length : Int) - 1) = true := by simp; omega
          have p0 : wC.cell? ⟨w.heap.size, 0, none⟩ = some (.int .i64 last.1) := hVC.pr.cell 0
          have p1 : wC.cell? ⟨w.heap.size, 1, none⟩ = some (.int .i64 last.2) := hVC.pr.cell 1
          have fp0 : wC.frozen? ⟨w.heap.size, 0, none⟩ = false := hVC.pr.frozen 0
          have fp1 : wC.frozen? ⟨w.heap.size, 1, none⟩ = false := hVC.pr.frozen 1
          have iB4 := hVC.pr.lt
          have q0 : wC.cell? ⟨(wr.heap.size + 1 + (pj.more pk).len), 0, none⟩ = some (.int .i64 num) := h11.cell 0
          have q1 : wC.cell? ⟨(wr.heap.size + 1 + (pj.more pk).len), 1, none⟩ = some (.int .i64 (bucketM n)) := h11.cell 1
          have i11 := h11.lt
          have hV3 := hVC.lastSet (num, bucketM n)
          have hb3 : Below B w ((wC.setCell ⟨w.heap.size, 0, none⟩ (.int .i64 num)).setCell ⟨w.heap.size, 1, none⟩ (.int .i64 (bucketM n))) := (hbC.setCell (p := ⟨w.heap.size, 0, none⟩) hBw _).setCell (p := ⟨w.heap.size, 1, none⟩) hBw _
          have n94 : wr.heap.size ≠ w.heap.size := h9.ne_ hVC.pr (by decide)
          have h93 : Blk ((wC.setCell ⟨w.heap.size, 0, none⟩ (.int .i64 num)).setCell ⟨w.heap.size, 1, none⟩ (.int .i64 (bucketM n))) wr.heap.size #[.string n] 9 := Blk.far (a := ⟨w.heap.size, 1, none⟩) (Blk.far (a := ⟨w.heap.size, 0, none⟩) h9 n94 _) n94 _
          have HD := Lib.hid (And.intro (And.intro hV3 hb3) h93)
          clear hVC hbC h9 h11 hV3 hb3 h93 n94
          have hre2 := HX.out.1
          rw [hqb] at hre2
          clear hqe hqb
          go_upto_region 16 with fail
          refine abs_world (F := fun wD => (VF B k p b3 c3 w.heap.size X (.slice (some ⟨bn, on, none⟩) names.length cn) names (L' ++ [(num, bucketM n)]) M' (num, bucketM n) lv2 mv' wD ∧ Below B w wD) ∧ Blk wD wr.heap.size #[.string n] 9) HD.out ?_
          clear q0 q1 p0 p1 fp0 fp1 iB4 i11 HD
          rintro wD ⟨⟨hVD, hbD⟩, h9⟩
          have hBD : B ≤ wD.heap.size := Nat.le_trans hBw hbD.size
          have iBD : Bel wD wD := inferInstance
          obtain ⟨iGD, _, z1, z2, z3⟩ := HX.out.2.1 wD (hre wD hbD)
          rw [List.length_map] at z2
          have hrw := hevR wD hbD
          rw [List.length_map] at hrw
          have n90 : wD.cell? ⟨wr.heap.size, 0, none⟩ = some (.string n) := h9.cell 0
          have i9 := h9.lt
          have hidx : ∀ ww, Below wD.heap.size wD ww → Calls Tryz.prog 138 #[.slice ae xe.length ce, .func (.func 139) #[] #[.pointer (some ⟨wr.heap.size, 0, none⟩)]] ww _ := fun ww hb =>
            index138 xe _ _ (isName n) ww (hrw.below hb (Nat.le_refl _)) hxl.2.1 (fun z wz _ hz => clo139 z wr.heap.size n wz ⟨by have := i9.lt; have := hb.size; have := hz.size; omega⟩ ((hz.cell (p := ⟨wr.heap.size, 0, none⟩) (by have := i9.lt; have := hb.size; show wr.heap.size < ww.heap.size; omega)).trans ((hb.cell (p := ⟨wr.heap.size, 0, none⟩) i9.lt).trans n90)))
          have hIb := idxM_bounds (isName n) xe
          generalize idxM (isName n) xe = I at hidx hre2 hIb
          simp only [Bool.true_eq_false, Bool.false_eq_true, if_false, if_true] at hre2
          have HD := Lib.hid (And.intro hVD hbD)
          clear hrw h9
          by_cases hI0 : I < 0
          · rw [if_pos hI0] at hre2
            have p0 : wD.cell? ⟨w.heap.size, 0, none⟩ = some (.int .i64 (num, bucketM n).1) := hVD.pr.cell 0
            have p1 : wD.cell? ⟨w.heap.size, 1, none⟩ = some (.int .i64 (num, bucketM n).2) := hVD.pr.cell 1
            have fp0 : wD.frozen? ⟨w.heap.size, 0, none⟩ = false := hVD.pr.frozen 0
            have fp1 : wD.frozen? ⟨w.heap.size, 1, none⟩ = false := hVD.pr.frozen 1
            have iB4 := hVD.pr.lt
            clear hVD hbD
            go_upto_region 18 with (go_at_call 138; refine (hidx _ (bel wD _)).mono ?_; rintro e w' ⟨rfl, hb⟩; obtain ⟨pm, rfl⟩ := hb.rest; clear hb)
            refine abs_world (F := fun wE => VF B k p b3 c3 w.heap.size X (.slice (some ⟨bn, on, none⟩) names.length cn) names (L' ++ [(num, bucketM n)]) M' (num, bucketM n) lv2 mv' wE ∧ Below B w wE) ⟨HD.out.1.below (bel wD _), HD.out.2.trans ((bel wD _).mono hBD)⟩ ?_
            clear p0 p1 fp0 fp1 iB4 hidx i9 z1 z2 z3 n90
            rintro wE ⟨hVE, hbE⟩
            have p0 : wE.cell? ⟨w.heap.size, 0, none⟩ = some (.int .i64 (num, bucketM n).1) := hVE.pr.cell 0
            have p1 : wE.cell? ⟨w.heap.size, 1, none⟩ = some (.int .i64 (num, bucketM n).2) := hVE.pr.cell 1
            have fp0 : wE.frozen? ⟨w.heap.size, 0, none⟩ = false := hVE.pr.frozen 0
            have fp1 : wE.frozen? ⟨w.heap.size, 1, none⟩ = false := hVE.pr.frozen 1
            have iB4 := hVE.pr.lt
            have hV4 := hVE.lastSet (num, bucketM n)
            have hb4 : Below B w ((wE.setCell ⟨w.heap.size, 0, none⟩ (.int .i64 (num, bucketM n).1)).setCell ⟨w.heap.size, 1, none⟩ (.int .i64 (num, bucketM n).2)) := (hbE.setCell (p := ⟨w.heap.size, 0, none⟩) hBw _).setCell (p := ⟨w.heap.size, 1, none⟩) hBw _
            have HE := Lib.hid (And.intro hV4 (And.intro hb4 hre2))
            clear hVE hbE hV4 hb4 hre2
            go_wp2_with fail
            refine bodyPost_ret (v := .tuple #[pairAt (num, bucketM n), .int .i64 0]) (by unfold results pairAt; simp only [Tryz.results89]; go_simp) rfl ⟨by rw [← HE.out.2.2], ⟨lv2, mv', by rw [← HE.out.2.2]; exact HE.out.1.vw⟩, HE.out.2.1⟩
          · rw [if_neg hI0] at hre2
            obtain ⟨j, rfl⟩ : ∃ j : Nat, I = j := ⟨I.toNat, by omega⟩
            have hjl : j < xe.length := by omega
            have hjI : (j : Int) < xe.length := by omega
            obtain ⟨e, he⟩ : ∃ e, xe[j]? = some e := ⟨_, List.getElem?_eq_getElem hjl⟩
            rw [Int.toNat_natCast, he] at hre2
            simp only at hre2
            have hem := List.mem_of_getElem? he
            have hen := hxl.2.2 e hem
            have hel := hlx e hem
            obtain ⟨be, oe, rfl, iE0, iE, hce⟩ := HX.out.2.2.1 wD (hre wD hbD) j e.cells (by rw [List.getElem?_map, he]; rfl)
            have e1 := hce 1 _ rfl
            clear hce he hem
            have m12 : wD.cell? ⟨k, 12, none⟩ = some mv' := hVD.vw.blk.cell 12
            have iKD := hVD.vw.blk.lt
            have hmo := hVD.vw.mo
            obtain ⟨am, cm, rfl⟩ := own_form hmo
            have HMO := Lib.hid hmo
            have hMl2 := HI.out.2.2.2.2
            clear hVD hbD hmo
            go_upto_region 20 with (go_at_call 138; refine (hidx _ (bel wD _)).mono ?_; rintro e w' ⟨rfl, hb⟩; obtain ⟨pm, rfl⟩ := hb.rest; clear hb)
            refine abs_world (F := fun wE => VF B k p b3 c3 w.heap.size X (.slice (some ⟨bn, on, none⟩) names.length cn) names (L' ++ [(num, bucketM n)]) M' (num, bucketM n) lv2 (.slice am M'.length cm) wE ∧ Below B w wE) ⟨HD.out.1.below (bel wD _), HD.out.2.trans ((bel wD _).mono hBD)⟩ ?_
            clear hidx i9 z1 z2 z3 n90 e1 m12 iKD HMO
            rintro wE ⟨hVE, hbE⟩
            have m12 : wE.cell? ⟨k, 12, none⟩ = some (.slice am M'.length cm) := hVE.vw.blk.cell 12
            have iKE := hVE.vw.blk.lt
            have hmoE := hVE.vw.mo
            have hBE : B ≤ wE.heap.size := Nat.le_trans hBw hbE.size
            have HE := Lib.hid (And.intro hVE hbE)
            clear hVE hbE
            go_wp2_with (at_builtin; refine wpList_append_own _ rfl _ _ 25 rfl B 3 i3 (.int .i64 0) 1 8 Tryz.underlying25 hi3 h30 h31 h32 rfl (by decide) _ _ _ rfl (hmoE.alloc _) ⟨wE.heap.size, 0, none⟩ 1 1 [.int .i64 e.num] rfl rfl ?c1 ?c2 ?c3 ?c4 ?c5 ?_)
            case c1 => exact news_new wE [.int .i64 e.num] 3 wE.heap.size
            case c2 => intro u hu; simp at hu; subst hu; rfl
            case c3 => unfold maxLen; omega
            case c4 => omega
            case c5 => simp; omega
            intro mv3 w3 hown' hgrow _
            have hVE1 := HE.out.1.below (bel wE (wE.alloc (Obj.cells #[.int .i64 e.num] 3)))
            have hV5 := hVE1.met hgrow hown'
            have hb5 : Below B w (w3.setCell ⟨k, 12, none⟩ mv3) := HE.out.2.trans (((bel wE (wE.alloc (Obj.cells #[.int .i64 e.num] 3))).mono hBE).trans (turned_below hgrow (by simp; omega) HV.out.hB (fun g hg => (hVE1.vw.mo.lt g hg).1)))
            have hbk3 := hVE1.vw.grown_blk hgrow (own_ne_blk hVE1.vw.mo hVE1.vw.blk (by decide))
            have hfz3 : w3.frozen? ⟨k, 12, none⟩ = false := hbk3.frozen 12
            have hcl3 : w3.cell? ⟨k, 12, none⟩ = some (.slice am M'.length cm) := hbk3.cell 12
            have iK3 : BlockLt k w3 := hbk3.lt
            obtain ⟨am3, cm3, rfl⟩ := own_form hown'
            have HE1 := Lib.hid (And.intro hV5 (And.intro hb5 hre2))
            clear hV5 hb5 hVE1 hgrow hown' m12 hmoE hbk3 hre2 hMl2
            go_wp2_with fail
            go_roundw
            case rel => exact ⟨q + 1, e.num, (num, bucketM n), L' ++ [(num, bucketM n)], M' ++ [e.num], lv2, _, by go_num, rfl, by omega, HE1.out.2.2, by rw [List.length_append]; simp; omega, by rw [List.length_append]; simp; omega, hel, hen, HE1.out.1, HE1.out.2.1⟩
            case measure => simp [intOf]; omega
        · have hqb : (names.drop (q + 1)).isEmpty = false := by rw [hqe]; simpa using hq1
          have hqi : ((q : Int) == (names.length : Int) - 1) = false := by simp; omega
          have HD := Lib.hid (And.intro (And.intro hVC hbC) h9)
          clear hVC hbC h9 h11
          have hre2 := HX.out.1
          rw [hqb] at hre2
          clear hqe hqb
          go_upto_region 16 with fail
          refine abs_world (F := fun wD => (VF B k p b3 c3 w.heap.size X (.slice (some ⟨bn, on, none⟩) names.length cn) names (L' ++ [(num, bucketM n)]) M' last lv2 mv' wD ∧ Below B w wD) ∧ Blk wD wr.heap.size #[.string n] 9) HD.out ?_
          clear HD
          rintro wD ⟨⟨hVD, hbD⟩, h9⟩
          have hBD : B ≤ wD.heap.size := Nat.le_trans hBw hbD.size
          have iBD : Bel wD wD := inferInstance
          obtain ⟨iGD, _, z1, z2, z3⟩ := HX.out.2.1 wD (hre wD hbD)
          rw [List.length_map] at z2
          have hrw := hevR wD hbD
          rw [List.length_map] at hrw
          have n90 : wD.cell? ⟨wr.heap.size, 0, none⟩ = some (.string n) := h9.cell 0
          have i9 := h9.lt
          have hidx : ∀ ww, Below wD.heap.size wD ww → Calls Tryz.prog 138 #[.slice ae xe.length ce, .func (.func 139) #[] #[.pointer (some ⟨wr.heap.size, 0, none⟩)]] ww _ := fun ww hb =>
            index138 xe _ _ (isName n) ww (hrw.below hb (Nat.le_refl _)) hxl.2.1 (fun z wz _ hz => clo139 z wr.heap.size n wz ⟨by have := i9.lt; have := hb.size; have := hz.size; omega⟩ ((hz.cell (p := ⟨wr.heap.size, 0, none⟩) (by have := i9.lt; have := hb.size; show wr.heap.size < ww.heap.size; omega)).trans ((hb.cell (p := ⟨wr.heap.size, 0, none⟩) i9.lt).trans n90)))
          have hIb := idxM_bounds (isName n) xe
          generalize idxM (isName n) xe = I at hidx hre2 hIb
          simp only [Bool.true_eq_false, Bool.false_eq_true, if_false, if_true] at hre2
          have HD := Lib.hid (And.intro hVD hbD)
          clear hrw h9
          by_cases hI0 : I < 0
          · rw [if_pos hI0] at hre2
            have p0 : wD.cell? ⟨w.heap.size, 0, none⟩ = some (.int .i64 last.1) := hVD.pr.cell 0
            have p1 : wD.cell? ⟨w.heap.size, 1, none⟩ = some (.int .i64 last.2) := hVD.pr.cell 1
            have fp0 : wD.frozen? ⟨w.heap.size, 0, none⟩ = false := hVD.pr.frozen 0
            have fp1 : wD.frozen? ⟨w.heap.size, 1, none⟩ = false := hVD.pr.frozen 1
            have iB4 := hVD.pr.lt
            clear hVD hbD
            go_upto_region 18 with (go_at_call 138; refine (hidx _ (bel wD _)).mono ?_; rintro e w' ⟨rfl, hb⟩; obtain ⟨pm, rfl⟩ := hb.rest; clear hb)
            refine abs_world (F := fun wE => VF B k p b3 c3 w.heap.size X (.slice (some ⟨bn, on, none⟩) names.length cn) names (L' ++ [(num, bucketM n)]) M' last lv2 mv' wE ∧ Below B w wE) ⟨HD.out.1.below (bel wD _), HD.out.2.trans ((bel wD _).mono hBD)⟩ ?_
            clear p0 p1 fp0 fp1 iB4 hidx i9 z1 z2 z3 n90
            rintro wE ⟨hVE, hbE⟩
            have p0 : wE.cell? ⟨w.heap.size, 0, none⟩ = some (.int .i64 last.1) := hVE.pr.cell 0
            have p1 : wE.cell? ⟨w.heap.size, 1, none⟩ = some (.int .i64 last.2) := hVE.pr.cell 1
            have fp0 : wE.frozen? ⟨w.heap.size, 0, none⟩ = false := hVE.pr.frozen 0
            have fp1 : wE.frozen? ⟨w.heap.size, 1, none⟩ = false := hVE.pr.frozen 1
            have iB4 := hVE.pr.lt
            have hV4 := hVE.lastSet last
            have hb4 : Below B w ((wE.setCell ⟨w.heap.size, 0, none⟩ (.int .i64 last.1)).setCell ⟨w.heap.size, 1, none⟩ (.int .i64 last.2)) := (hbE.setCell (p := ⟨w.heap.size, 0, none⟩) hBw _).setCell (p := ⟨w.heap.size, 1, none⟩) hBw _
            have HE := Lib.hid (And.intro hV4 (And.intro hb4 hre2))
            clear hVE hbE hV4 hb4 hre2
            go_wp2_with fail
            refine bodyPost_ret (v := .tuple #[pairAt last, .int .i64 0]) (by unfold results pairAt; simp only [Tryz.results89]; go_simp) rfl ⟨by rw [← HE.out.2.2], ⟨lv2, mv', by rw [← HE.out.2.2]; exact HE.out.1.vw⟩, HE.out.2.1⟩
          · rw [if_neg hI0] at hre2
            obtain ⟨j, rfl⟩ : ∃ j : Nat, I = j := ⟨I.toNat, by omega⟩
            have hjl : j < xe.length := by omega
            have hjI : (j : Int) < xe.length := by omega
            obtain ⟨e, he⟩ : ∃ e, xe[j]? = some e := ⟨_, List.getElem?_eq_getElem hjl⟩
            rw [Int.toNat_natCast, he] at hre2
            simp only at hre2
            have hem := List.mem_of_getElem? he
            have hen := hxl.2.2 e hem
            have hel := hlx e hem
            obtain ⟨be, oe, rfl, iE0, iE, hce⟩ := HX.out.2.2.1 wD (hre wD hbD) j e.cells (by rw [List.getElem?_map, he]; rfl)
            have e1 := hce 1 _ rfl
            clear hce he hem
            have m12 : wD.cell? ⟨k, 12, none⟩ = some mv' := hVD.vw.blk.cell 12
            have iKD := hVD.vw.blk.lt
            have hmo := hVD.vw.mo
            obtain ⟨am, cm, rfl⟩ := own_form hmo
            have HMO := Lib.hid hmo
            have hMl2 := HI.out.2.2.2.2
            clear hVD hbD hmo
            go_upto_region 20 with (go_at_call 138; refine (hidx _ (bel wD _)).mono ?_; rintro e w' ⟨rfl, hb⟩; obtain ⟨pm, rfl⟩ := hb.rest; clear hb)
            refine abs_world (F := fun wE => VF B k p b3 c3 w.heap.size X (.slice (some ⟨bn, on, none⟩) names.length cn) names (L' ++ [(num, bucketM n)]) M' last lv2 (.slice am M'.length cm) wE ∧ Below B w wE) ⟨HD.out.1.below (bel wD _), HD.out.2.trans ((bel wD _).mono hBD)⟩ ?_
            clear hidx i9 z1 z2 z3 n90 e1 m12 iKD HMO
            rintro wE ⟨hVE, hbE⟩
            have m12 : wE.cell? ⟨k, 12, none⟩ = some (.slice am M'.length cm) := hVE.vw.blk.cell 12
            have iKE := hVE.vw.blk.lt
            have hmoE := hVE.vw.mo
            have hBE : B ≤ wE.heap.size := Nat.le_trans hBw hbE.size
            have HE := Lib.hid (And.intro hVE hbE)
            clear hVE hbE
            go_wp2_with (at_builtin; refine wpList_append_own _ rfl _ _ 25 rfl B 3 i3 (.int .i64 0) 1 8 Tryz.underlying25 hi3 h30 h31 h32 rfl (by decide) _ _ _ rfl (hmoE.alloc _) ⟨wE.heap.size, 0, none⟩ 1 1 [.int .i64 e.num] rfl rfl ?c1 ?c2 ?c3 ?c4 ?c5 ?_)
            case c1 => exact news_new wE [.int .i64 e.num] 3 wE.heap.size
            case c2 => intro u hu; simp at hu; subst hu; rfl
            case c3 => unfold maxLen; omega
            case c4 => omega
            case c5 => simp; omega
            intro mv3 w3 hown' hgrow _
            have hVE1 := HE.out.1.below (bel wE (wE.alloc (Obj.cells #[.int .i64 e.num] 3)))
            have hV5 := hVE1.met hgrow hown'
            have hb5 : Below B w (w3.setCell ⟨k, 12, none⟩ mv3) := HE.out.2.trans (((bel wE (wE.alloc (Obj.cells #[.int .i64 e.num] 3))).mono hBE).trans (turned_below hgrow (by simp; omega) HV.out.hB (fun g hg => (hVE1.vw.mo.lt g hg).1)))
            have hbk3 := hVE1.vw.grown_blk hgrow (own_ne_blk hVE1.vw.mo hVE1.vw.blk (by decide))
            have hfz3 : w3.frozen? ⟨k, 12, none⟩ = false := hbk3.frozen 12
            have hcl3 : w3.cell? ⟨k, 12, none⟩ = some (.slice am M'.length cm) := hbk3.cell 12
            have iK3 : BlockLt k w3 := hbk3.lt
            obtain ⟨am3, cm3, rfl⟩ := own_form hown'
            have HE1 := Lib.hid (And.intro hV5 (And.intro hb5 hre2))
            clear hV5 hb5 hVE1 hgrow hown' m12 hmoE hbk3 hre2 hMl2
            go_wp2_with fail
            go_roundw
            case rel => exact ⟨q + 1, e.num, last, L' ++ [(num, bucketM n)], M' ++ [e.num], lv2, _, by go_num, rfl, by omega, HE1.out.2.2, by rw [List.length_append]; simp; omega, by rw [List.length_append]; simp; omega, hel, hen, HE1.out.1, HE1.out.2.1⟩
            case measure => simp [intOf]; omega
    · rw [List.drop_of_length_le (by omega)] at hre1
      have hR1 : (⟨last, num, L', M'⟩ : VRes) = RR := hre1
      have p0 : wr.cell? ⟨w.heap.size, 0, none⟩ = some (.int .i64 last.1) := hV.pr.cell 0
      have p1 : wr.cell? ⟨w.heap.size, 1, none⟩ = some (.int .i64 last.2) := hV.pr.cell 1
      have fp0 : wr.frozen? ⟨w.heap.size, 0, none⟩ = false := hV.pr.frozen 0
      have fp1 : wr.frozen? ⟨w.heap.size, 1, none⟩ = false := hV.pr.frozen 1
      have iB4 := hV.pr.lt
      have hV2 := hV.lastSet last
      have hb2 : Below B w ((wr.setCell ⟨w.heap.size, 0, none⟩ (.int .i64 last.1)).setCell ⟨w.heap.size, 1, none⟩ (.int .i64 last.2)) := (hbr.setCell (p := ⟨w.heap.size, 0, none⟩) hBw _).setCell (p := ⟨w.heap.size, 1, none⟩) hBw _
      have HB := Lib.hid (And.intro hV2 (And.intro hb2 hR1))
      clear hV hbr hV2 hb2 hR1 hre1
      go_wp2_with fail
      refine bodyPost_ret (v := .tuple #[pairAt last, .int .i64 num]) (by unfold results pairAt; simp only [Tryz.results89]; go_simp) rfl ⟨by rw [← HB.out.2.2], ⟨lv', mv', by rw [← HB.out.2.2]; exact HB.out.1.vw⟩, HB.out.2.1⟩
end Go.Proofs.YtjkenolgkkknaaaGreatDoor
