/- The reference's do at an Open. Conditions: none. The reference's Decimal at small numbers. Conditions: none. The reference's Do, whatever do comes to. Conditions: none. The six calls of the reference by which Pair makes its state. Conditions: none. The small functions of the laws: at, bucket, named, bucketsOf. Conditions: none. The reference's New: the state that it makes is its own. Conditions: none. -/
import Derived.Test.YtjkenolgkkknaaaGreatDoorTw24
import Derived.Test.YtjkenolgkkknaaaGreatDoorTw11
set_option linter.unusedVariables false
set_option linter.unusedSimpArgs false
namespace Go.Proofs.YtjkenolgkkknaaaGreatDoor
open Go.RowKit
set_option maxRecDepth 100000 in
set_option maxHeartbeats 8000000 in
theorem do34_2 (S S' : PSt) (iv ov mv : Value) (core fd off nu r : Int) (pt p2 dt : ByteArray) (w : World) (h : StRead w iv ov mv S) (hwf : S.wf) (hg : mayG S = true) (hc0 : 0 ≤ core) (hc1 : core < S.made.length)
    (hin : ∀ B b iv' ov' mv' ww, Blk ww b #[iv', ov', mv'] 27 → StOwn B ww iv' ov' mv' S → B ≤ ww.heap.size → B ≤ b → Calls Tryz.prog 57 #[.pointer (some ⟨b, 0, none⟩), .agg #[.int .i64 2, .int .i64 core, .int .i64 fd, .int .i64 off, .int .i64 nu, .string pt, .string p2, .string dt], .int .i64 (-1)] ww fun e w' => e = .returned (.tuple #[resV 0 0 r, .bool true]) ∧ Below B ww w' ∧ Spared b ww w' ∧ ∃ iv' ov' mv', Blk w' b #[iv', ov', mv'] 27 ∧ StOwn B w' iv' ov' mv' S') :
    Calls Tryz.prog 34 #[.agg #[iv, ov, mv], .agg #[.int .i64 2, .int .i64 core, .int .i64 fd, .int .i64 off, .int .i64 nu, .string pt, .string p2, .string dt], .int .i64 (-1)] w fun e w' => ∃ iv' ov' mv', e = .returned (.tuple #[.agg #[iv', ov', mv'], resV 0 0 r, .bool true]) ∧ Below w.heap.size w w' ∧ StOwn w.heap.size w' iv' ov' mv' S' := by
  have h13 : ∀ ww, Below w.heap.size w ww → Calls Tryz.prog 13 #[.agg #[iv, ov, mv]] ww fun e w' => e = .returned (.bool true) ∧ Below ww.heap.size ww w' := fun ww hb => may13 S iv ov mv ww (h.below hb (Nat.le_refl _)) hwf hg
  have h54 : ∀ ww, Below w.heap.size w ww → Calls Tryz.prog 54 #[.agg #[iv, ov, mv]] ww fun e w' => ∃ iv' ov' mv', e = .returned (.agg #[iv', ov', mv']) ∧ Below ww.heap.size ww w' ∧ StOwn ww.heap.size w' iv' ov' mv' S := fun ww hb => copy54 S iv ov mv ww (h.below hb (Nat.le_refl _)) hwf
  obtain ⟨am, cm, rfl⟩ : ∃ am cm, mv = .slice am S.made.length cm := by
    obtain ⟨a, c, e, _⟩ := h.2.1.at_
    rw [List.length_map] at e
    exact ⟨a, c, e⟩
  obtain ⟨ai, ni, ci, ao, no, co, am', nm', cm', rfl, rfl, -⟩ := h.slices
  have hc0n : ¬ core < 0 := by omega
  have hc1n : ¬ (S.made.length : Int) ≤ core := by omega
  have HIN := Lib.hid hin
  clear h hwf hg hin
  go_enter Tryz.func34, Tryz.ntmps34
  go_upto_region 5 with (first | (go_at_call 13; with_reducible refine (h13 _ (bel _ _)).mono ?_; rintro e w' ⟨rfl, hb⟩; obtain ⟨p, rfl⟩ := hb.rest; clear hb) | (go_at_call 54; (with_reducible refine (h54 _ (bel _ _)).mono ?_); rintro e w1 ⟨iv1, ov1, mv1, rfl, hb1, hs1⟩; have i1 : Bel w w1 := ⟨(bel w _).trans (hb1.mono (bel w _).size)⟩; have hC1 : Blk w1 (w.heap.size + 1) #[.int .i64 2, .int .i64 core, .int .i64 fd, .int .i64 off, .int .i64 nu, .string pt, .string p2, .string dt] 29 := blk_on (blk_on (Blk.new_i (w.alloc (.cells #[.slice ai ni ci, .slice ao no co, .slice am S.made.length cm] 27)) #[.int .i64 2, .int .i64 core, .int .i64 fd, .int .i64 off, .int .i64 nu, .string pt, .string p2, .string dt] 29 (w.heap.size + 1)) (bel _ _)) hb1; have hN1 : Blk w1 (w.heap.size + 1 + 1) #[.slice none 0 0, .slice none 0 0, .slice none 0 0] 27 := blk_on (blk_on (Blk.new_i ((w.alloc (.cells #[.slice ai ni ci, .slice ao no co, .slice am S.made.length cm] 27)).alloc (.cells #[.int .i64 2, .int .i64 core, .int .i64 fd, .int .i64 off, .int .i64 nu, .string pt, .string p2, .string dt] 29)) #[.slice none 0 0, .slice none 0 0, .slice none 0 0] 27 (w.heap.size + 1 + 1)) (bel _ _)) hb1; have hR1 : Blk w1 (w.heap.size + 1 + 1 + 1) #[.int .i64 0, .int .i64 0, .int .i64 0, .bool false, .string { data := #[] }, .slice none 0 0] 46 := blk_on (blk_on (Blk.new_i (((w.alloc (.cells #[.slice ai ni ci, .slice ao no co, .slice am S.made.length cm] 27)).alloc (.cells #[.int .i64 2, .int .i64 core, .int .i64 fd, .int .i64 off, .int .i64 nu, .string pt, .string p2, .string dt] 29)).alloc (.cells #[.slice none 0 0, .slice none 0 0, .slice none 0 0] 27)) #[.int .i64 0, .int .i64 0, .int .i64 0, .bool false, .string { data := #[] }, .slice none 0 0] 46 (w.heap.size + 1 + 1 + 1)) (bel _ _)) hb1; obtain ⟨a1, a2, a3, a4, a5, a6, a7, a8, a9, rfl, rfl, rfl⟩ := hs1.forms; have H1 := Lib.hid (And.intro (hs1.mono (B' := w.heap.size + 1 + 1 + 1 + 1) (by simp)) (And.intro hC1 (And.intro hN1 (And.intro hR1 i1.below)))); clear hb1 hs1 hC1 hN1 hR1))
  have hbl : w.heap.size + 1 + 1 + 1 + 1 ≤ w1.heap.size := by
    have := H1.out.2.2.2.1.lt.lt
    omega
  refine abs_world (F := fun W => StOwn (w.heap.size + 1 + 1 + 1 + 1) W (.slice a1 a2 a3) (.slice a4 a5 a6) (.slice a7 a8 a9) S ∧ Blk W (w1.heap.size) #[.slice a1 a2 a3, .slice a4 a5 a6, .slice a7 a8 a9] 27 ∧ Blk W (w1.heap.size + 1) #[.int .i64 0, .int .i64 0, .int .i64 0, .bool false, .string { data := #[] }, .slice none 0 0] 46 ∧ Blk W (w.heap.size + 1) #[.int .i64 2, .int .i64 core, .int .i64 fd, .int .i64 off, .int .i64 nu, .string pt, .string p2, .string dt] 29 ∧ Blk W (w.heap.size + 1 + 1) #[.slice none 0 0, .slice none 0 0, .slice none 0 0] 27 ∧ Blk W (w.heap.size + 1 + 1 + 1) #[.int .i64 0, .int .i64 0, .int .i64 0, .bool false, .string { data := #[] }, .slice none 0 0] 46 ∧ Below w.heap.size w W) ⟨H1.out.1.on (bel w1 _), blk_on (Blk.new w1 #[.slice a1 a2 a3, .slice a4 a5 a6, .slice a7 a8 a9] 27) (bel _ _), Blk.new_i _ _ _ _, blk_on H1.out.2.1 (bel w1 _), blk_on H1.out.2.2.1 (bel w1 _), blk_on H1.out.2.2.2.1 (bel w1 _), H1.out.2.2.2.2.trans ((bel w1 _).mono H1.out.2.2.2.2.size)⟩ ?_
  clear H1 h13 h54 i1
  obtain ⟨b, hbn⟩ : ∃ b, w1.heap.size = b := ⟨_, rfl⟩
  rw [hbn] at hbl ⊢
  clear hbn
  rintro W ⟨ho, hb, hr, hC, hN, hR, hbw⟩
  have iB := hb.lt
  have iR := hr.lt
  have iC := hC.lt
  have c0 := hC.cell 0
  have c1 := hC.cell 1
  have c2 := hC.cell 2
  have c3 := hC.cell 3
  have c4 := hC.cell 4
  have c5 := hC.cell 5
  have c6 := hC.cell 6
  have c7 := hC.cell 7
  simp at c0 c1 c2 c3 c4 c5 c6 c7
  have hin := HIN.out (w.heap.size + 1 + 1 + 1 + 1) b _ _ _ W hb ho (by have := iB.lt; omega) hbl
  simp only [resV] at hin
  have HW := Lib.hid (And.intro hr (And.intro hN (And.intro hR hbw)))
  clear ho hb hr hC hN hR hbw
  go_upto_region 29 with (go_at_call 57; (with_reducible refine hin.mono ?_); rintro e w5 ⟨rfl, hb5, hp5, iv5, ov5, mv5, hk5, hs5⟩; have hr5 := hp5 _ _ _ HW.out.1 (by omega) (.inr (.inr rfl)); have iR5 := hr5.lt; have g0 := hr5.cell 0; have g1 := hr5.cell 1; have g2 := hr5.cell 2; have g3 := hr5.cell 3; have g4 := hr5.cell 4; have g5 := hr5.cell 5; have fz0 := hr5.frozen 0; have fz1 := hr5.frozen 1; have fz2 := hr5.frozen 2; have fz3 := hr5.frozen 3; have fz4 := hr5.frozen 4; have fz5 := hr5.frozen 5; simp at g0 g1 g2 g3 g4 g5; obtain ⟨b1, b2, b3, b4, b5, b6, b7, b8, b9, rfl, rfl, rfl⟩ := hs5.forms; have H5 := Lib.hid (And.intro hb5 (And.intro hp5 (And.intro hk5 (And.intro hs5 hr5)))); clear hb5 hp5 hk5 hs5 hr5)
  refine abs_world (F := fun W' => StOwn (w.heap.size + 1 + 1 + 1 + 1) W' (.slice b1 b2 b3) (.slice b4 b5 b6) (.slice b7 b8 b9) S' ∧ Blk W' b #[.slice b1 b2 b3, .slice b4 b5 b6, .slice b7 b8 b9] 27 ∧ Blk W' (b + 1) #[.int .i64 0, .int .i64 0, .int .i64 r, .bool false, .string { data := #[] }, .slice none 0 0] 46 ∧ Blk W' (w.heap.size + 1 + 1) #[.slice none 0 0, .slice none 0 0, .slice none 0 0] 27 ∧ Blk W' (w.heap.size + 1 + 1 + 1) #[.int .i64 0, .int .i64 0, .int .i64 0, .bool false, .string { data := #[] }, .slice none 0 0] 46 ∧ Below w.heap.size w W') ?_ ?_
  · obtain ⟨e1, e2, e3, e4, e5⟩ := H5.out
    obtain ⟨f1, f2, f3, f4⟩ := HW.out
    have kq := e2 _ _ _ f2 (by omega) (.inl rfl)
    have kr := e2 _ _ _ f3 (by omega) (.inr (.inr rfl))
    have hbwz : Below w.heap.size w w5 := f4.trans (e1.mono (by omega))
    have hK := keep46n (wz := w5) (r := b + 1) (a0 := .int .i64 0) (a1 := .int .i64 0) (a2 := .int .i64 r) (a3 := .bool false) (a4 := .string { data := #[] }) (a5 := .slice none 0 0)
    have hK := hK.alloc (.cells #[.int .i64 0, .int .i64 0, .int .i64 r, .bool false, .string { data := #[] }, .slice none 0 0] 46)
    exact ⟨e4.keep hK (fun g hg => by rw [hg]; exact ⟨_, 46, e5, by decide, by decide, by decide, by decide⟩), hK.blk e3 (by omega), Blk.alloc ((((((e5.set_ 0 _).set_ 1 _).set_ 2 _).set_ 3 _).set_ 4 _).set_ 5 _) _, hK.blk kq (by omega), hK.blk kr (by omega), hbwz.trans (hK.below hbwz.size (fun i hi e => by omega))⟩
  clear HW H5 iB iR iC c0 c1 c2 c3 c4 c5 c6 c7 hin
  rintro W' ⟨ho, hb, hr, hN, hR, hbw⟩
  have iB := hb.lt
  have iR := hr.lt
  have iN := hN.lt
  have iS := hR.lt
  have d0 := hb.cell 0
  have d1 := hb.cell 1
  have d2 := hb.cell 2
  have g0 := hr.cell 0
  have g1 := hr.cell 1
  have g2 := hr.cell 2
  have g3 := hr.cell 3
  have g4 := hr.cell 4
  have g5 := hr.cell 5
  have u0 := hN.cell 0
  have u1 := hN.cell 1
  have u2 := hN.cell 2
  have fu0 := hN.frozen 0
  have fu1 := hN.frozen 1
  have fu2 := hN.frozen 2
  have v0 := hR.cell 0
  have v1 := hR.cell 1
  have v2 := hR.cell 2
  have v3 := hR.cell 3
  have v4 := hR.cell 4
  have v5 := hR.cell 5
  have fv0 := hR.frozen 0
  have fv1 := hR.frozen 1
  have fv2 := hR.frozen 2
  have fv3 := hR.frozen 3
  have fv4 := hR.frozen 4
  have fv5 := hR.frozen 5
  simp at d0 d1 d2 g0 g1 g2 g3 g4 g5 u0 u1 u2 v0 v1 v2 v3 v4 v5
  have n1 : ¬ b = w.heap.size + 1 + 1 := by omega
  have n2 : ¬ b = w.heap.size + 1 + 1 + 1 := by omega
  have n3 : ¬ b + 1 = w.heap.size + 1 + 1 := by omega
  have n4 : ¬ b + 1 = w.heap.size + 1 + 1 + 1 := by omega
  have n5 : ¬ w.heap.size + 1 + 1 = w.heap.size + 1 + 1 + 1 := by omega
  have n6 : ¬ w.heap.size + 1 + 1 + 1 = w.heap.size + 1 + 1 := by omega
  have n7 : ¬ w.heap.size + 1 + 1 = b := by omega
  have n8 : ¬ w.heap.size + 1 + 1 + 1 = b := by omega
  have n9 : ¬ w.heap.size + 1 + 1 = b + 1 := by omega
  have n10 : ¬ w.heap.size + 1 + 1 + 1 = b + 1 := by omega
  have HZ := Lib.hid (And.intro ho (And.intro hN (And.intro hR hbw)))
  clear ho hb hr hN hR hbw
  go_wp2_with fail
  refine wp_region_eff [2, 3] true (fun w' => w'.cell? ⟨b, 0, none⟩ = some (.slice b1 b2 b3) ∧ w'.cell? ⟨b, 1, none⟩ = some (.slice b4 b5 b6) ∧ w'.cell? ⟨b, 2, none⟩ = some (.slice b7 b8 b9) ∧ w'.cell? ⟨b + 1, 0, none⟩ = some (.int .i64 0) ∧ w'.cell? ⟨b + 1, 1, none⟩ = some (.int .i64 0) ∧ w'.cell? ⟨b + 1, 2, none⟩ = some (.int .i64 r) ∧ w'.cell? ⟨b + 1, 3, none⟩ = some (.bool false) ∧ w'.cell? ⟨b + 1, 4, none⟩ = some (.string { data := #[] }) ∧ w'.cell? ⟨b + 1, 5, none⟩ = some (.slice none 0 0)) (by kernel_rfl) (by kernel_rfl) ?_ ?_
  · (try dsimp only); (repeat' apply And.intro) <;> go_simp
  repeat
    refine wpL_look rfl rfl ?_
    apply Exists.intro
    refine ⟨?_, ?_⟩
    focus
      rintro w' ⟨s0, s1, s2, s3, s4, s5, s6, s7, s8⟩
      go_simp
      first | done | rfl
    simp only [Act.put, List.setIfInBounds_toArray, List.set_cons_zero, List.set_cons_succ]
  refine wpL_skip rfl rfl ?_
  apply Exists.intro
  refine ⟨?_, ?_, ?_⟩
  focus
    go_simp
    first | done | rfl
  focus
    refine .inl ?_
    (try dsimp only); (repeat' apply And.intro) <;> go_simp
  simp only [Act.put, List.setIfInBounds_toArray, List.set_cons_zero, List.set_cons_succ]
  refine wpL_skip rfl rfl ?_
  apply Exists.intro
  refine ⟨?_, ?_, ?_⟩
  focus
    go_simp
    first | done | rfl
  focus
    refine .inl ?_
    (try dsimp only); (repeat' apply And.intro) <;> go_simp
  simp only [Act.put, List.setIfInBounds_toArray, List.set_cons_zero, List.set_cons_succ]
  repeat
    refine wpL_look rfl rfl ?_
    apply Exists.intro
    refine ⟨?_, ?_⟩
    focus
      rintro w' ⟨s0, s1, s2, s3, s4, s5, s6, s7, s8⟩
      go_simp
      first | done | rfl
    simp only [Act.put, List.setIfInBounds_toArray, List.set_cons_zero, List.set_cons_succ]
  refine wpL_end ?_
  go_wp2_with fail
  have hK := keep9 (wz := W') (q := w.heap.size + 1 + 1) (r := w.heap.size + 1 + 1 + 1) (c0 := .slice b1 b2 b3) (c1 := .slice b4 b5 b6) (c2 := .slice b7 b8 b9) (a0 := .int .i64 0) (a1 := .int .i64 0) (a2 := .int .i64 r) (a3 := .bool false) (a4 := .string { data := #[] }) (a5 := .slice none 0 0)
  have hfin := HZ.out.1.keep hK (fun g hg => by
    rcases hg with rfl | rfl
    · exact ⟨_, 27, HZ.out.2.1, by decide, by decide, by decide, by decide⟩
    · exact ⟨_, 46, HZ.out.2.2.1, by decide, by decide, by decide, by decide⟩)
  have hbf := HZ.out.2.2.2.trans (hK.below HZ.out.2.2.2.size (fun i hi e => by omega))
  exact bodyPost_ret (v := .tuple #[.agg #[.slice b1 b2 b3, .slice b4 b5 b6, .slice b7 b8 b9], resV 0 0 r, .bool true]) (by unfold results; simp only [Tryz.results34, resV]; go_simp) rfl ⟨_, _, _, rfl, hbf, hfin.mono (by omega)⟩
end Go.Proofs.YtjkenolgkkknaaaGreatDoor
namespace Go.Proofs.YtjkenolgkkknaaaGreatDoor
open Go.RowKit
theorem info5 : (Tryz.prog.info? 5).map (fun i => (i.zero, i.size, i.bytes)) = some (some (.int .u8 0), 1, 1) := by kernel_rfl
def byteC (x : Int) : List Value := [.int .u8 x]
theorem byteC_len : ∀ (zs : List Int), ∀ cs ∈ zs.map byteC, cs.length = 1 := by
  intro zs cs h
  obtain ⟨r, _, rfl⟩ := List.mem_map.1 h
  rfl
theorem byteC_one : ∀ (zs : List Int), ∀ cs ∈ zs.map byteC, ∀ u ∈ cs, u.oneCell' = true := by
  intro zs cs h u hu
  obtain ⟨r, _, rfl⟩ := List.mem_map.1 h
  simp only [byteC, List.mem_cons, List.not_mem_nil, or_false] at hu
  subst hu; rfl
theorem app5 {w : World} {ops : Array Oper} {rest : List Oper} {o : Oper} {a : Act} {Q : Exit → Act → World → Prop} (hgd : o.guard = none) (s y : Operand)
    (hop : o.op = .call { callee := .builtin .append, args := #[s, y], argTypes := #[43, 43] }) (B : Nat) (v x : Value) (zs more : List Int) (hs : a.eval s = v) (hy : a.eval y = x) (ho : OwnP B w 5 1 v (zs.map byteC)) (hx : RowAt w 1 x (more.map byteC)) (hl : zs.length + more.length ≤ 1000000000000) (hB : B ≤ w.heap.size)
    (h : ∀ v' w', Grew B 5 1 w v ((zs ++ more).map byteC) v' w' → wpList Tryz.prog ops Q rest (a.put o.dst v') w') :
    wpList Tryz.prog ops Q (o :: rest) a w := by
  obtain ⟨i, hi, hz, h1, h2⟩ := info_parts info5
  refine wpList_append_P w hgd s y 43 hop B 5 1 1 i _ Tryz.underlying43 hi hz h1 h2 rfl (by decide) v x (zs.map byteC) (more.map byteC) hs hy (byteC_len _) (byteC_len _) (byteC_one _) ho hx ?_ ?_ hB ?_
  · rw [List.length_map, List.length_map]; unfold maxLen; omega
  · rw [List.length_map, List.length_map]; omega
  · intro v' w' hg
    rw [← List.map_append] at hg
    exact h v' w' hg
/-- A fresh row of one is owned. -/
theorem OwnP.single {B : Nat} {w : World} {b k : Nat} {t : TypeId} {cs : List Value} (h : Blk w b cs.toArray t) (hk : cs.length = k) (hB : B ≤ b) : OwnP B w t k (.slice (some ⟨b, 0, none⟩) 1 1) [cs] := by
  refine .inr ⟨b, 1, cs.toArray, rfl, hB, h, Nat.le_refl _, by unfold maxLen; omega, by simp [hk], fun q c hq u x hu => ?_⟩
  rcases q with _ | q
  · simp only [List.getElem?_cons_zero, Option.some.injEq] at hq
    subst hq
    simpa using hu
  · simp at hq
theorem OwnP.conv {B : Nat} {w : World} {v : Value} {zs : List Int} (h : OwnP B w 5 1 v (zs.map byteC)) (h0 : 0 < zs.length) : (convert 43 9 v).run Tryz.prog w = .ok (.string (strOfNums zs)) w := by
  rcases h with ⟨rfl, h1⟩ | ⟨g, cap, arr, rfl, hg, hb, hn, hm, hs, hr⟩
  · rw [List.map_eq_nil_iff] at h1
    subst h1
    simp at h0
  · rw [List.length_map]
    refine run_convert_bytes_arg w 43 5 Tryz.underlying43 Tryz.underlying5 g 0 zs.length cap zs rfl (fun i hi => ?_) 9 Tryz.underlying9
    rw [hb.cell, Nat.zero_add]
    have := hr i (byteC zs[i]) (by rw [List.getElem?_map, List.getElem?_eq_getElem hi]; rfl) 0 _ rfl
    rw [Nat.mul_one, Nat.add_zero] at this
    rw [this]
    simp [List.getD, List.getElem?_eq_getElem hi]
def decN (n : Nat) : List Int := if n < 10 then [48 + (n : Int) % 10] else [48 + (n : Int) / 10 % 10, 48 + (n : Int) % 10]
def isNil : Value → Nat
  | .slice none _ _ => 1
  | _ => 0
set_option maxRecDepth 100000 in
set_option maxHeartbeats 8000000 in
theorem decimal33 (n : Nat) (hn : n < 100) (w : World) :
    Calls Tryz.prog 33 #[.int .i64 n] w fun e w' => e = .returned (.string (strOfNums (decN n))) ∧ Below w.heap.size w w' := by
  have hnI : (n : Int) < 100 := by omega
  have hn0 : ¬ (n : Int) < 0 := by omega
  have u1 : IntKind.u64.wrap (n : Int) = n := by simp [IntKind.wrap, IntKind.bits, IntKind.signed]; omega
  have m1 : (n : Int).tmod 10 = (n : Int) % 10 := Int.tmod_eq_emod_of_nonneg (by omega)
  have d1 : (n : Int).tdiv 10 = (n : Int) / 10 := Int.tdiv_eq_ediv_of_nonneg (by omega)
  obtain ⟨a, ha⟩ : ∃ a : Int, (n : Int) % 10 = a := ⟨_, rfl⟩
  obtain ⟨b, hb⟩ : ∃ b : Int, (n : Int) / 10 = b := ⟨_, rfl⟩
  have ha0 : 0 ≤ a ∧ a < 10 := by omega
  have hb0 : 0 ≤ b ∧ b < 10 := by omega
  have m2 : b.tmod 10 = b := by rw [Int.tmod_eq_emod_of_nonneg (by omega)]; omega
  have d2 : b.tdiv 10 = 0 := by rw [Int.tdiv_eq_ediv_of_nonneg (by omega)]; omega
  have hnb : (n < 10) ↔ b = 0 := by omega
  have hD : (if b = 0 then [48 + a] else [48 + b, 48 + a]) = decN n := by
    unfold decN
    rw [hb, ha]
    by_cases h : n < 10
    · rw [if_pos h, if_pos (hnb.1 h)]
    · rw [if_neg h, if_neg (fun e => h (hnb.2 e)), show b % 10 = b by omega]
  have u2 : IntKind.u64.wrap b = b := by simp [IntKind.wrap, IntKind.bits, IntKind.signed]; omega
  have u3 : IntKind.u64.wrap (48 + a) = 48 + a := by simp [IntKind.wrap, IntKind.bits, IntKind.signed]; omega
  have u4 : IntKind.u64.wrap (48 + b) = 48 + b := by simp [IntKind.wrap, IntKind.bits, IntKind.signed]; omega
  have u5 : IntKind.u8.wrap (48 + a) = 48 + a := by simp [IntKind.wrap, IntKind.bits, IntKind.signed]; omega
  have u6 : IntKind.u8.wrap (48 + b) = 48 + b := by simp [IntKind.wrap, IntKind.bits, IntKind.signed]; omega
  rw [ha] at m1
  rw [hb] at d1
  have HAB := Lib.hid (And.intro ha (And.intro hb (And.intro hnb hD)))
  clear ha hb hnb hD
  go_enter Tryz.func33, Tryz.ntmps33
  go_wp2_with fail
  go_loopw [3, 4] (fun v3 v4 wr => Below w.heap.size w wr ∧ ((v3 = .int .u64 n ∧ v4 = .slice none 0 0) ∨ (∃ g, v3 = .int .u64 b ∧ v4 = .slice (some ⟨g, 0, none⟩) 1 1 ∧ OwnP w.heap.size wr 5 1 (.slice (some ⟨g, 0, none⟩) 1 1) ([48 + a].map byteC)) ∨ (b ≠ 0 ∧ ∃ g c, v3 = .int .u64 0 ∧ v4 = .slice (some ⟨g, 0, none⟩) 2 c ∧ OwnP w.heap.size wr 5 1 (.slice (some ⟨g, 0, none⟩) 2 c) ([48 + b, 48 + a].map byteC)))) (fun v3 v4 _ => (intOf v3).toNat + isNil v4)
  case atStart => exact ⟨bel _ _, .inl ⟨rfl, rfl⟩⟩
  case round =>
    obtain ⟨hbw, h⟩ := hrel
    have iB : Bel w wr := ⟨hbw⟩
    have g1 : ∀ (x y : Int), decide (x > y) = decide (y < x) := fun _ _ => rfl
    rcases h with ⟨rfl, rfl⟩ | ⟨g, rfl, rfl, hO⟩ | ⟨hbz, g, c, rfl, rfl, hO⟩
    · by_cases hz : (0 : Int) < n
      · go_wp2_with fail
        refine ⟨⟨bel w _, .inr (.inl ⟨_, rfl, rfl, OwnP.single (Blk.new wr _ _) rfl hbw.size⟩)⟩, ?_⟩
        simp [intOf, isNil]
        have := HAB.out.2.1
        omega
      · go_wp2_with fail
        have h1 := HAB.out.1
        have h2 := HAB.out.2.1
        have ha00 : a = 0 := by omega
        refine ⟨⟨bel w _, by omega, ?_⟩, by simp [isNil]⟩
        rw [ha00]
        exact OwnP.single (Blk.new wr _ _) rfl hbw.size
    · by_cases hz : (0 : Int) < b
      · have HO := Lib.hid hO
        clear hO
        go_wp2_with (at_builtin; refine app5 rfl (.tmp 25) (.tmp 26) rfl w.heap.size _ _ [48 + b] [48 + a] rfl (by go_simp) (OwnP.single (Blk.new_i _ _ _ _) rfl (bel w _).size) (OwnP.below HO.out (bel wr _)).row (by simp) (bel w _).size ?_)
        intro v' w' hg
        have hbg := hg.on (OwnP.single (Blk.new_i _ _ _ _) rfl (bel w _).size) (bel w _).size
        have hb2 := (bel w _).trans hbg
        have hO2 : OwnP w.heap.size w' 5 1 v' ([48 + b, 48 + a].map byteC) := hg.1
        obtain ⟨va, vc, rfl⟩ := hO2.formL
        obtain ⟨vg, rfl⟩ : ∃ vg, va = some ⟨vg, 0, none⟩ := by
          rcases hO2 with ⟨h, _⟩ | ⟨g, cap, arr, h, _⟩
          · cases h
          · cases h
            exact ⟨g, rfl⟩
        have H2 := Lib.hid (And.intro hO2 hb2)
        clear hg hbg hO2 hb2
        go_wp2_with fail
        refine ⟨⟨H2.out.2, .inr (.inr ⟨by omega, vg, vc, rfl, rfl, H2.out.1⟩)⟩, ?_⟩
        simp [intOf, isNil]
        omega
      · have hb00 : b = 0 := by omega
        have hcv := hO.conv (by simp)
        go_wp2_with fail
        refine bodyPost_ret (v := .string (strOfNums [48 + a])) (by unfold results; simp only [Tryz.results33]; go_simp) rfl ⟨?_, hbw⟩
        rw [← HAB.out.2.2.2, if_pos hb00]
    · have hcv := hO.conv (by simp)
      go_wp2_with fail
      refine bodyPost_ret (v := .string (strOfNums [48 + b, 48 + a])) (by unfold results; simp only [Tryz.results33]; go_simp) rfl ⟨?_, hbw⟩
      rw [← HAB.out.2.2.2, if_neg hbz]
end Go.Proofs.YtjkenolgkkknaaaGreatDoor
namespace Go.Proofs.YtjkenolgkkknaaaGreatDoor
open Go.RowKit
set_option maxRecDepth 100000 in
set_option maxHeartbeats 8000000 in
theorem ref15 (S S' : PSt) (iv ov mv : Value) (kd core fd off nu r : Int) (pt p2 dt : ByteArray) (w : World) (h : StRead w iv ov mv S)
    (hin : ∀ ww, Below w.heap.size w ww → Calls Tryz.prog 34 #[.agg #[iv, ov, mv], .agg #[.int .i64 kd, .int .i64 core, .int .i64 fd, .int .i64 off, .int .i64 nu, .string pt, .string p2, .string dt], .int .i64 (-1)] ww fun e w' => ∃ iv' ov' mv', e = .returned (.tuple #[.agg #[iv', ov', mv'], resV 0 0 r, .bool true]) ∧ Below ww.heap.size ww w' ∧ StOwn ww.heap.size w' iv' ov' mv' S') :
    Calls Tryz.prog 15 #[.agg #[iv, ov, mv], .agg #[.int .i64 kd, .int .i64 core, .int .i64 fd, .int .i64 off, .int .i64 nu, .string pt, .string p2, .string dt]] w fun e w' => ∃ iv' ov' mv', e = .returned (.tuple #[.agg #[iv', ov', mv'], resV 0 0 r]) ∧ Below w.heap.size w w' ∧ StOwn w.heap.size w' iv' ov' mv' S' := by
  obtain ⟨ai, ni, ci, ao, no, co, am, nm, cm, rfl, rfl, rfl⟩ := h.slices
  clear h
  simp only [resV] at hin ⊢
  go_enter Tryz.func15, Tryz.ntmps15
  go_upto_region 2 with (go_at_call 34; (with_reducible refine (hin _ (bel _ _)).mono ?_); rintro e w1 ⟨iv1, ov1, mv1, rfl, hb1, hs1⟩; obtain ⟨a1, a2, a3, a4, a5, a6, a7, a8, a9, rfl, rfl, rfl⟩ := hs1.forms; obtain ⟨p, rfl⟩ := hb1.rest; have H1 := Lib.hid (hs1.mono (B' := w.heap.size + 1 + 1 + 1 + 1) (by simp)); clear hs1 hb1)
  refine abs_world (F := fun W => StOwn (w.heap.size + 1 + 1 + 1 + 1) W (.slice a1 a2 a3) (.slice a4 a5 a6) (.slice a7 a8 a9) S' ∧ Blk W (w.heap.size + 1 + 1 + 1 + 1 + p.len) #[.slice a1 a2 a3, .slice a4 a5 a6, .slice a7 a8 a9] 27 ∧ Blk W (w.heap.size + 1 + 1 + 1 + 1 + p.len + 1) #[.int .i64 0, .int .i64 0, .int .i64 r, .bool false, .string { data := #[] }, .slice none 0 0] 46 ∧ Blk W (w.heap.size + 1 + 1) #[.slice none 0 0, .slice none 0 0, .slice none 0 0] 27 ∧ Blk W (w.heap.size + 1 + 1 + 1) #[.int .i64 0, .int .i64 0, .int .i64 0, .bool false, .string { data := #[] }, .slice none 0 0] 46 ∧ Below w.heap.size w W) ⟨H1.out.on (bel _ _), Blk.alloc (Blk.new_i _ _ _ _) _, Blk.new_i _ _ _ _, blk_on (Blk.new_i ((w.alloc (.cells #[.slice ai ni ci, .slice ao no co, .slice am nm cm] 27)).alloc (.cells #[.int .i64 kd, .int .i64 core, .int .i64 fd, .int .i64 off, .int .i64 nu, .string pt, .string p2, .string dt] 29)) #[.slice none 0 0, .slice none 0 0, .slice none 0 0] 27 (w.heap.size + 1 + 1)) (bel _ _), blk_on (Blk.new_i (((w.alloc (.cells #[.slice ai ni ci, .slice ao no co, .slice am nm cm] 27)).alloc (.cells #[.int .i64 kd, .int .i64 core, .int .i64 fd, .int .i64 off, .int .i64 nu, .string pt, .string p2, .string dt] 29)).alloc (.cells #[.slice none 0 0, .slice none 0 0, .slice none 0 0] 27)) #[.int .i64 0, .int .i64 0, .int .i64 0, .bool false, .string { data := #[] }, .slice none 0 0] 46 (w.heap.size + 1 + 1 + 1)) (bel _ _), bel w _⟩ ?_
  clear H1 hin
  obtain ⟨b, hbn⟩ : ∃ b, w.heap.size + 1 + 1 + 1 + 1 + p.len = b := ⟨_, rfl⟩
  have hbl : w.heap.size + 1 + 1 + 1 + 1 ≤ b := by omega
  rw [hbn]
  clear hbn
  rintro W' ⟨ho, hb, hr, hN, hR, hbw⟩
  have iB := hb.lt
  have iR := hr.lt
  have iN := hN.lt
  have iS := hR.lt
  have d0 := hb.cell 0
  have d1 := hb.cell 1
  have d2 := hb.cell 2
  have g0 := hr.cell 0
  have g1 := hr.cell 1
  have g2 := hr.cell 2
  have g3 := hr.cell 3
  have g4 := hr.cell 4
  have g5 := hr.cell 5
  have u0 := hN.cell 0
  have u1 := hN.cell 1
  have u2 := hN.cell 2
  have fu0 := hN.frozen 0
  have fu1 := hN.frozen 1
  have fu2 := hN.frozen 2
  have v0 := hR.cell 0
  have v1 := hR.cell 1
  have v2 := hR.cell 2
  have v3 := hR.cell 3
  have v4 := hR.cell 4
  have v5 := hR.cell 5
  have fv0 := hR.frozen 0
  have fv1 := hR.frozen 1
  have fv2 := hR.frozen 2
  have fv3 := hR.frozen 3
  have fv4 := hR.frozen 4
  have fv5 := hR.frozen 5
  simp at d0 d1 d2 g0 g1 g2 g3 g4 g5 u0 u1 u2 v0 v1 v2 v3 v4 v5
  have n1 : ¬ b = w.heap.size + 1 + 1 := by omega
  have n2 : ¬ b = w.heap.size + 1 + 1 + 1 := by omega
  have n3 : ¬ b + 1 = w.heap.size + 1 + 1 := by omega
  have n4 : ¬ b + 1 = w.heap.size + 1 + 1 + 1 := by omega
  have n5 : ¬ w.heap.size + 1 + 1 = w.heap.size + 1 + 1 + 1 := by omega
  have n6 : ¬ w.heap.size + 1 + 1 + 1 = w.heap.size + 1 + 1 := by omega
  have n7 : ¬ w.heap.size + 1 + 1 = b := by omega
  have n8 : ¬ w.heap.size + 1 + 1 + 1 = b := by omega
  have n9 : ¬ w.heap.size + 1 + 1 = b + 1 := by omega
  have n10 : ¬ w.heap.size + 1 + 1 + 1 = b + 1 := by omega
  have HZ := Lib.hid (And.intro ho (And.intro hN (And.intro hR hbw)))
  clear ho hb hr hN hR hbw
  refine wp_region_eff [2, 3] true (fun w' => w'.cell? ⟨b, 0, none⟩ = some (.slice a1 a2 a3) ∧ w'.cell? ⟨b, 1, none⟩ = some (.slice a4 a5 a6) ∧ w'.cell? ⟨b, 2, none⟩ = some (.slice a7 a8 a9) ∧ w'.cell? ⟨b + 1, 0, none⟩ = some (.int .i64 0) ∧ w'.cell? ⟨b + 1, 1, none⟩ = some (.int .i64 0) ∧ w'.cell? ⟨b + 1, 2, none⟩ = some (.int .i64 r) ∧ w'.cell? ⟨b + 1, 3, none⟩ = some (.bool false) ∧ w'.cell? ⟨b + 1, 4, none⟩ = some (.string { data := #[] }) ∧ w'.cell? ⟨b + 1, 5, none⟩ = some (.slice none 0 0)) (by kernel_rfl) (by kernel_rfl) ?_ ?_
  · (try dsimp only); (repeat' apply And.intro) <;> go_simp
  repeat
    refine wpL_look rfl rfl ?_
    apply Exists.intro
    refine ⟨?_, ?_⟩
    focus
      rintro w' ⟨s0, s1, s2, s3, s4, s5, s6, s7, s8⟩
      go_simp
      first | done | rfl
    simp only [Act.put, List.setIfInBounds_toArray, List.set_cons_zero, List.set_cons_succ]
  refine wpL_skip rfl rfl ?_
  apply Exists.intro
  refine ⟨?_, ?_, ?_⟩
  focus
    go_simp
    first | done | rfl
  focus
    refine .inl ?_
    (try dsimp only); (repeat' apply And.intro) <;> go_simp
  simp only [Act.put, List.setIfInBounds_toArray, List.set_cons_zero, List.set_cons_succ]
  refine wpL_skip rfl rfl ?_
  apply Exists.intro
  refine ⟨?_, ?_, ?_⟩
  focus
    go_simp
    first | done | rfl
  focus
    exact .inr ⟨rfl, rfl⟩
  simp only [Act.put, List.setIfInBounds_toArray, List.set_cons_zero, List.set_cons_succ]
  refine wpL_end ?_
  go_wp2_with fail
  have hK := keep9 (wz := W') (q := w.heap.size + 1 + 1) (r := w.heap.size + 1 + 1 + 1) (c0 := .slice a1 a2 a3) (c1 := .slice a4 a5 a6) (c2 := .slice a7 a8 a9) (a0 := .int .i64 0) (a1 := .int .i64 0) (a2 := .int .i64 r) (a3 := .bool false) (a4 := .string { data := #[] }) (a5 := .slice none 0 0)
  have hfin := HZ.out.1.keep hK (fun g hg => by
    rcases hg with rfl | rfl
    · exact ⟨_, 27, HZ.out.2.1, by decide, by decide, by decide, by decide⟩
    · exact ⟨_, 46, HZ.out.2.2.1, by decide, by decide, by decide, by decide⟩)
  have hbf := HZ.out.2.2.2.trans (hK.below HZ.out.2.2.2.size (fun i hi e => by omega))
  exact bodyPost_ret (v := .tuple #[.agg #[.slice a1 a2 a3, .slice a4 a5 a6, .slice a7 a8 a9], resV 0 0 r]) (by unfold results; simp only [Tryz.results15, resV]; go_simp) rfl ⟨_, _, _, rfl, hbf, hfin.mono (by omega)⟩
end Go.Proofs.YtjkenolgkkknaaaGreatDoor
namespace Go.Proofs.YtjkenolgkkknaaaGreatDoor
open Go.RowKit
set_option maxRecDepth 100000
/-- The reference's Do at a call, as data. -/
def RDid (S : PSt) (kd core fd off nu : Int) (pt p2 dt : ByteArray) (S' : PSt) (r : Int) : Prop :=
  ∀ (w : World) (iv ov mv : Value), StRead w iv ov mv S → Calls Tryz.prog 15 #[.agg #[iv, ov, mv], .agg #[.int .i64 kd, .int .i64 core, .int .i64 fd, .int .i64 off, .int .i64 nu, .string pt, .string p2, .string dt]] w fun e w' => ∃ iv' ov' mv', e = .returned (.tuple #[.agg #[iv', ov', mv'], resV 0 0 r]) ∧ Below w.heap.size w w' ∧ StOwn w.heap.size w' iv' ov' mv' S'
theorem r_make {S : PSt} {kd fd off nu : Int} {p2 dt : ByteArray} {ch : UInt8} {x : PIn} {k : Nat} {m : Int} (hkd : kd = 0 ∨ kd = 1) (hgo : goodB S = true) (hg : mayG S = true) (hr : rootB S = true) (hx : S.ins[0]? = some x) (hch : ch ≠ 47) (hck : checkR (n1 ch) = 0)
    (hent : entryR S 1 (n1 ch) = 0) (hful : decide (4 ≤ fullF (bucketR (n1 ch)) { data := #[] } x.ents 0) = false) (hes : ∀ e ∈ x.ents, e.name.size ≤ 1000000000) (hm : S.made[k]? = some m) (hm0 : 0 ≤ m ∧ m < 32) (hk8 : k < 8) :
    RDid S kd k fd off nu (p1 ch) p2 dt (mk1 S x (n1 ch) k m (kd == 1)) 0 := by
  intro w iv ov mv h
  obtain ⟨hkl, -⟩ := List.getElem?_eq_some_iff.1 hm
  refine ref15 S _ iv ov mv kd k fd off nu 0 (p1 ch) p2 dt w h (fun ww hb => ?_)
  have h' := h.below hb (Nat.le_refl _)
  rcases hkd with rfl | rfl
  · exact do34_0 S _ iv ov mv k fd off nu 0 (p1 ch) p2 dt ww h' (good_wf hgo).1 hg (by omega) (by omega) (fun B b iv' ov' mv' w3 k1 k2 k3 k4 => make56 B b S iv' ov' mv' 0 fd off nu p2 dt ch x k m w3 k1 k2 k3 k4 (good_wf hgo).1 hr hx hch hck hent hful hes hm hm0 hk8)
  · exact do34_1 S _ iv ov mv k fd off nu 0 (p1 ch) p2 dt ww h' (good_wf hgo).1 hg (by omega) (by omega) (fun B b iv' ov' mv' w3 k1 k2 k3 k4 => make56 B b S iv' ov' mv' 1 fd off nu p2 dt ch x k m w3 k1 k2 k3 k4 (good_wf hgo).1 hr hx hch hck hent hful hes hm hm0 hk8)
theorem r_open {S : PSt} {core fd off nu : Int} {p2 dt : ByteArray} {ch : UInt8} {num : Int} {K : Nat} {x : PIn} (hgo : goodB S = true) (hg : mayG S = true) (hr : rootB S = true) (hch : ch ≠ 47) (hck : checkR (n1 ch) = 0) (hc0 : 0 ≤ core) (hc1 : core < S.made.length)
    (hent : entryR S 1 (n1 ch) = num) (hn0 : num ≠ 0) (hat : atR S num = K) (hx : S.ins[K]? = some x) (hd : x.dir = false) (hfd : ∀ i : Int, 0 ≤ i → i ≤ 3 → fdR S core i = 0) :
    RDid S 2 core fd off nu (p1 ch) p2 dt { S with op := insF (aheadD core 0) ⟨core, 0, num⟩ S.op false [] } 0 := by
  intro w iv ov mv h
  refine ref15 S _ iv ov mv 2 core fd off nu 0 (p1 ch) p2 dt w h (fun ww hb => ?_)
  exact do34_2 S _ iv ov mv core fd off nu 0 (p1 ch) p2 dt ww (h.below hb (Nat.le_refl _)) (good_wf hgo).1 hg hc0 hc1 (fun B b iv' ov' mv' w3 k1 k2 k3 k4 => opened57 B b S iv' ov' mv' 2 core fd off nu p2 dt ch num K x w3 k1 k2 k3 k4 (good_wf hgo).1 hr hch hck hent hn0 hat hx hd hfd)
theorem r_write {S : PSt} {core fd nu : Int} {pt p2 : ByteArray} {num : Int} {K : Nat} {x : PIn} (hgo : goodB S = true) (hg : mayG S = true) (hc0 : 0 ≤ core) (hc1 : core < S.made.length) (hfd : fdR S core fd = num) (hn0 : num ≠ 0) (hat : atR S num = K) (hx : S.ins[K]? = some x) (hdt : x.data = { data := #[] }) :
    RDid S 5 core fd 0 nu pt p2 z200 { S with ins := S.ins.set K { x with data := z200 } } 200 := by
  intro w iv ov mv h
  refine ref15 S _ iv ov mv 5 core fd 0 nu 200 pt p2 z200 w h (fun ww hb => ?_)
  exact do34_5 S _ iv ov mv core fd 0 nu 200 pt p2 z200 ww (h.below hb (Nat.le_refl _)) (good_wf hgo).1 hg hc0 hc1 (fun B b iv' ov' mv' w3 k1 k2 k3 k4 => write58 B b S iv' ov' mv' core fd nu pt p2 num K x w3 k1 k2 k3 k4 (good_wf hgo).1 hfd hn0 hat hx hdt)
def nil : ByteArray := ⟨#[]⟩
def q1 : PSt := mk1 s2 ⟨1, true, [], ⟨#[]⟩⟩ (n1 120) 0 0 false
def q2 : PSt := { q1 with op := insF (aheadD 0 0) ⟨0, 0, 2⟩ q1.op false [] }
def q3 : PSt := { q2 with op := insF (aheadD 1 0) ⟨1, 0, 2⟩ q2.op false [] }
def q4 : PSt := { q3 with ins := q3.ins.set 1 ⟨2, false, [], z200⟩ }
def q5 : PSt := mk1 q4 ⟨1, true, [⟨⟨#[120]⟩, 2⟩], ⟨#[]⟩⟩ (n1 100) 0 1 true
def q6 : PSt := mk1 q5 ⟨1, true, [⟨⟨#[100]⟩, 10⟩, ⟨⟨#[120]⟩, 2⟩], ⟨#[]⟩⟩ (n1 101) 1 0 true
theorem q6_ : q6 = s6 := by kernel_rfl
theorem fds {S : PSt} {core : Int} (h0 : fdR S core 0 = 0) (h1 : fdR S core 1 = 0) (h2 : fdR S core 2 = 0) (h3 : fdR S core 3 = 0) : ∀ i : Int, 0 ≤ i → i ≤ 3 → fdR S core i = 0 := by
  intro i a b
  have : i = 0 ∨ i = 1 ∨ i = 2 ∨ i = 3 := by omega
  rcases this with rfl | rfl | rfl | rfl <;> assumption
theorem small_ {es : List PEnt} (h : (es.all fun e => e.name.size.ble 1000) = true) : ∀ e ∈ es, e.name.size ≤ 1000000000 := by
  intro e he
  have := Nat.le_of_ble_eq_true (List.all_eq_true.1 h e he)
  omega
theorem d1 : RDid s2 0 0 0 0 0 ⟨#[47, 120]⟩ nil nil q1 0 := r_make (k := 0) (.inl rfl) g0 (by kernel_rfl) (by kernel_rfl) (by kernel_rfl) (by decide) (by kernel_rfl) (by kernel_rfl) (by kernel_rfl) (small_ (by kernel_rfl)) (by kernel_rfl) (by omega) (by omega)
theorem d2 : RDid q1 2 0 0 0 0 ⟨#[47, 120]⟩ nil nil q2 0 := r_open (K := 1) (x := ⟨2, false, [], ⟨#[]⟩⟩) (by kernel_rfl) (by kernel_rfl) (by kernel_rfl) (by decide) (by kernel_rfl) (by omega) (by show (0 : Int) < ((2 : Nat) : Int); omega) (by kernel_rfl) (by omega) (by kernel_rfl) (by kernel_rfl) rfl (fds (by kernel_rfl) (by kernel_rfl) (by kernel_rfl) (by kernel_rfl))
theorem d3 : RDid q2 2 1 0 0 0 ⟨#[47, 120]⟩ nil nil q3 0 := r_open (K := 1) (x := ⟨2, false, [], ⟨#[]⟩⟩) (by kernel_rfl) (by kernel_rfl) (by kernel_rfl) (by decide) (by kernel_rfl) (by omega) (by show (1 : Int) < ((2 : Nat) : Int); omega) (by kernel_rfl) (by omega) (by kernel_rfl) (by kernel_rfl) rfl (fds (by kernel_rfl) (by kernel_rfl) (by kernel_rfl) (by kernel_rfl))
theorem d4 : RDid q3 5 0 0 0 0 nil nil z200 q4 200 := r_write (num := 2) (K := 1) (x := ⟨2, false, [], ⟨#[]⟩⟩) (by kernel_rfl) (by kernel_rfl) (by omega) (by show (0 : Int) < ((2 : Nat) : Int); omega) (by kernel_rfl) (by omega) (by kernel_rfl) (by kernel_rfl) rfl
theorem d5 : RDid q4 1 0 0 0 0 ⟨#[47, 100]⟩ nil nil q5 0 := r_make (k := 0) (.inr rfl) (by kernel_rfl) (by kernel_rfl) (by kernel_rfl) (by kernel_rfl) (by decide) (by kernel_rfl) (by kernel_rfl) (by kernel_rfl) (small_ (by kernel_rfl)) (by kernel_rfl) (by omega) (by omega)
theorem d6 : RDid q5 1 1 0 0 0 ⟨#[47, 101]⟩ nil nil s6 0 := by
  rw [← q6_]
  exact r_make (k := 1) (.inr rfl) (by kernel_rfl) (by kernel_rfl) (by kernel_rfl) (by kernel_rfl) (by decide) (by kernel_rfl) (by kernel_rfl) (by kernel_rfl) (small_ (by kernel_rfl)) (by kernel_rfl) (by omega) (by omega)
end Go.Proofs.YtjkenolgkkknaaaGreatDoor
namespace Go.Proofs.YtjkenolgkkknaaaGreatDoor
open Go.RowKit
theorem dec_pth : ∀ n, n < 16 → (⟨#[47, 110]⟩ : ByteArray) ++ strOfNums (decN n) = pth n := by
  intro n hn
  have h : ((List.range 16).all fun n => ((⟨#[47, 110]⟩ : ByteArray) ++ strOfNums (decN n)).data.toList == (pth n).data.toList) = true := by kernel_rfl
  rw [List.all_eq_true] at h
  have := h n (List.mem_range.2 hn)
  simp only [beq_iff_eq] at this
  exact bytes_inj this
theorem dec_size {n : Nat} (hn : n < 16) : (strOfNums (decN n)).size ≤ 2 := by
  have h : ((List.range 16).all fun n => (strOfNums (decN n)).size.ble 2) = true := by kernel_rfl
  exact Nat.le_of_ble_eq_true (List.all_eq_true.1 h n (List.mem_range.2 hn))
/-- A name's bytes: n and the number. -/
def nmn (n : Nat) : ByteArray := ⟨#[110]⟩ ++ strOfNums (decN n)
set_option maxRecDepth 100000 in
set_option maxHeartbeats 4000000 in
theorem at14 (i : Int) (w : World) : Calls Tryz.prog 14 #[.int .i64 i] w fun e w' => e = .returned (.string (pth (i % 16).toNat)) ∧ Below w.heap.size w w' := by
  have hi : 0 ≤ i % 16 ∧ i % 16 < 16 := by omega
  obtain ⟨n, hn⟩ : ∃ n : Nat, i % 16 = n := ⟨(i % 16).toNat, by omega⟩
  have hp := dec_pth n (by omega)
  have hd := fun ww => decimal33 n (by omega) ww
  have e : (i % 16).toNat = n := by omega
  rw [e, ← hp]
  have hz : ¬ 9223372036854775807 < 2 + (strOfNums (decN n)).size := by have := dec_size (n := n) (by omega); omega
  generalize strOfNums (decN n) = s at hd hz ⊢
  clear hp e hi
  go_enter Tryz.func14, Tryz.ntmps14
  go_wp2_with (go_at_call 33; (with_reducible refine (hd _).mono ?_); rintro e w' ⟨rfl, hb⟩; obtain ⟨p, rfl⟩ := hb.rest; clear hb)
  go_ret
  exact ⟨rfl, bel _ _⟩
set_option maxRecDepth 100000 in
set_option maxHeartbeats 4000000 in
theorem bucket16 (i : Int) (w : World) : Calls Tryz.prog 16 #[.int .i64 i] w fun e w' => e = .returned (.int .i64 (bucketR (nmn (i % 16).toNat))) ∧ Below w.heap.size w w' := by
  have hi : 0 ≤ i % 16 ∧ i % 16 < 16 := by omega
  obtain ⟨n, hn⟩ : ∃ n : Nat, i % 16 = n := ⟨(i % 16).toNat, by omega⟩
  have hd := fun ww => decimal33 n (by omega) ww
  have hz : (nmn n).size ≤ 1000000000 := by
    have h : ((List.range 16).all fun n => (nmn n).size.ble 100) = true := by kernel_rfl
    have := Nat.le_of_ble_eq_true (List.all_eq_true.1 h n (List.mem_range.2 (by omega)))
    omega
  have hb := fun ww => bucket35 (nmn n) hz ww
  have e : (i % 16).toNat = n := by omega
  rw [e]
  unfold nmn at hb ⊢
  have hz2 : ¬ 9223372036854775807 < 1 + (strOfNums (decN n)).size := by have := dec_size (n := n) (by omega); omega
  generalize strOfNums (decN n) = s at hd hb hz2 ⊢
  clear e hi hz
  go_enter Tryz.func16, Tryz.ntmps16
  go_wp2_with (first | (go_at_call 33; (with_reducible refine (hd _).mono ?_); rintro e w' ⟨rfl, hb⟩; obtain ⟨p, rfl⟩ := hb.rest; clear hb) | (go_at_call 35; (with_reducible refine (hb _).mono ?_); rintro e w' ⟨rfl, hb⟩; obtain ⟨p, rfl⟩ := hb.rest; clear hb))
  go_ret
  exact ⟨rfl, bel _ _⟩
def namedM (k c : Int) (p : ByteArray) : PCall := if k = 8 then ⟨8, c, 0, 0, 0, ⟨#[47, 120]⟩, p, ⟨#[]⟩⟩ else ⟨k, c, 0, 0, 0, p, ⟨#[]⟩, ⟨#[]⟩⟩
set_option maxRecDepth 100000 in
set_option maxHeartbeats 4000000 in
theorem named17 (k c : Int) (p : ByteArray) (w : World) : Calls Tryz.prog 17 #[.int .i64 k, .int .i64 c, .string p] w fun e w' => e = .returned (namedM k c p).val ∧ Below w.heap.size w w' := by
  unfold namedM
  by_cases h : k = 8
  · subst h
    rw [if_pos rfl]
    unfold PCall.val
    go_enter Tryz.func17, Tryz.ntmps17
    go_wp2_with fail
    refine bodyPost_ret (v := .agg #[.int .i64 8, .int .i64 c, .int .i64 0, .int .i64 0, .int .i64 0, .string ⟨#[47, 120]⟩, .string p, .string ⟨#[]⟩]) (by unfold results; simp only [Tryz.results17]; go_simp) rfl ⟨rfl, bel w _⟩
  · rw [if_neg h]
    unfold PCall.val
    go_enter Tryz.func17, Tryz.ntmps17
    go_wp2_with fail
    refine bodyPost_ret (v := .agg #[.int .i64 k, .int .i64 c, .int .i64 0, .int .i64 0, .int .i64 0, .string p, .string ⟨#[]⟩, .string ⟨#[]⟩]) (by unfold results; simp only [Tryz.results17]; go_simp) rfl ⟨rfl, bel w _⟩
set_option maxRecDepth 100000 in
set_option maxHeartbeats 4000000 in
theorem bk18 (p q : ByteArray) (w : World) : Calls Tryz.prog 18 #[.int .i64 0, .string p, .int .i64 0, .string q] w fun e w' => e = .returned (.bool true) ∧ Below w.heap.size w w' := by
  have hb := fun ww => bucket35 ⟨#[120]⟩ (by show (1 : Nat) ≤ _; omega) ww
  generalize bucketR ⟨#[120]⟩ = B at hb
  go_enter Tryz.func18, Tryz.ntmps18
  go_wp2_with (go_at_call 35; (with_reducible refine (hb _).mono ?_); rintro e w' ⟨rfl, hb⟩; obtain ⟨p, rfl⟩ := hb.rest; clear hb)
  go_ret
  exact ⟨rfl, bel _ _⟩
end Go.Proofs.YtjkenolgkkknaaaGreatDoor
namespace Go.Proofs.YtjkenolgkkknaaaGreatDoor
open Go.RowKit
set_option maxRecDepth 100000 in
set_option maxHeartbeats 2000000 in
theorem new11o (n : Nat) (h1 : 1 ≤ n) (h8 : n ≤ 8) (w : World) :
    Calls Tryz.prog 11 #[.int .i64 n] w fun e w' => ∃ iv ov mv, e = .returned (.tuple #[.agg #[iv, ov, mv], .int .i64 0]) ∧ Below w.heap.size w w' ∧ StOwn w.heap.size w' iv ov mv (newSt n) := by
  obtain ⟨i0, hi, hz0, hz1, hz2⟩ := info_parts info3
  have hmk : ∀ u : World, (Instr.makeSlice 25 (.int .i64 n) (.int .i64 n)).run Tryz.prog u = .ok (.slice (some ⟨u.heap.size, 0, none⟩) n n) (u.alloc (.cells ((List.replicate n (0 : Int)).map fun x => Value.int .i64 x).toArray 3)) := fun u => by
    have := run_makeSlice (P := Tryz.prog) u 25 3 i0 _ Tryz.underlying25 hi hz0 .i64 .i64 n n (by omega) (Int.le_refl _) (by rw [hz1]; omega) (by rw [hz2]; omega) (by omega)
    rw [← made_map' (fun x => Value.int .i64 x)]
    simpa [hz1, Value.cells] using this
  have g1 : ¬ (n : Int) < 1 := by omega
  have g2 : ¬ (8 : Int) < n := by omega
  go_enter Tryz.func11, Tryz.ntmps11
  go_wp2_with fail
  have hb3 : Blk (((w.alloc (.cells #[.slice (some ⟨w.heap.size + 1, 0, none⟩) 1 1, .slice none 0 0, .slice (some ⟨w.heap.size + 1 + 1, 0, none⟩) n n] 27)).alloc (.cells #[.int .i64 1, .bool true, .slice none 0 0, .string { data := #[] }] 65)).alloc (.cells (Array.replicate n (.int .i64 0)) 3)) (w.heap.size + 1 + 1) (Array.replicate n (.int .i64 0)) 3 := Blk.new_i ((w.alloc (.cells #[.slice (some ⟨w.heap.size + 1, 0, none⟩) 1 1, .slice none 0 0, .slice (some ⟨w.heap.size + 1 + 1, 0, none⟩) n n] 27)).alloc (.cells #[.int .i64 1, .bool true, .slice none 0 0, .string { data := #[] }] 65)) _ _ _
  have hb : Blk ((((w.alloc (.cells #[.slice (some ⟨w.heap.size + 1, 0, none⟩) 1 1, .slice none 0 0, .slice (some ⟨w.heap.size + 1 + 1, 0, none⟩) n n] 27)).alloc (.cells #[.int .i64 1, .bool true, .slice none 0 0, .string { data := #[] }] 65))).alloc (.cells (Array.replicate n (.int .i64 0)) 3)) (w.heap.size + 1) #[.int .i64 1, .bool true, .slice none 0 0, .string { data := #[] }] 65 := (Blk.new_i (w.alloc (.cells #[.slice (some ⟨w.heap.size + 1, 0, none⟩) 1 1, .slice none 0 0, .slice (some ⟨w.heap.size + 1 + 1, 0, none⟩) n n] 27)) _ _ _).alloc _
  refine bodyPost_ret (v := .tuple #[.agg #[.slice (some ⟨w.heap.size + 1, 0, none⟩) 1 1, .slice none 0 0, .slice (some ⟨w.heap.size + 1 + 1, 0, none⟩) n n], .int .i64 0]) (by unfold results; simp only [Tryz.results11]; go_simp) rfl ⟨_, _, _, rfl, bel _ _, ?_⟩
  have e : ((List.replicate n (0 : Int)).map fun x => Value.int .i64 x).toArray = Array.replicate n (.int .i64 0) := by simp
  first | rw [e] | skip
  refine ⟨.inl ⟨rfl, rfl⟩, .inr ⟨w.heap.size + 1 + 1, n, Array.replicate n (.int .i64 0), ?_, by omega, hb3, ?_, ?_, ?_, ?_⟩, [⟨1, true, .slice none 0 0, { data := #[] }, rfl⟩], .inr ⟨w.heap.size + 1, 1, _, rfl, by omega, hb, by simp, by unfold maxLen; omega, rfl, ?_⟩, rfl, ?_, ?_⟩
  · simp [newSt]
  · simp [newSt]
  · unfold maxLen; omega
  · simp
  · intro q cs hq t u hu
    rw [List.getElem?_map] at hq
    obtain ⟨x, hx, rfl⟩ := Option.map_eq_some_iff.1 hq
    have hx2 : (List.replicate n (0 : Int))[q]? = some x := hx
    obtain ⟨hl, hx3⟩ := List.getElem?_eq_some_iff.1 hx2
    rw [List.getElem_replicate] at hx3
    subst hx3
    rw [List.length_replicate] at hl
    rcases t with _ | t
    · simp only [intCells, List.getElem?_cons_zero, Option.some.injEq] at hu
      subst hu
      rw [Nat.mul_one, Nat.add_zero]
      simp [hl]
    · simp [intCells] at hu
  · intro q cs hq t u hu
    rcases q with _ | q
    · simp only [List.map_cons, List.map_nil, List.getElem?_cons_zero, Option.some.injEq] at hq
      subst hq
      simpa [IRec.cells] using hu
    · simp at hq
  · intro q r x hr hx
    rcases q with _ | q
    · cases hr
      cases hx
      exact ⟨rfl, rfl, rfl, .inl ⟨rfl, rfl⟩⟩
    · simp at hr
  · intro p q r r' hpq hp hq g hg
    rcases p with _ | p
    · cases hp
      simp [Value.ownBlock] at hg
    · simp at hp
end Go.Proofs.YtjkenolgkkknaaaGreatDoor
