/- Part of the proof that the calls that look alone commute. Conditions: none. -/
import Derived.Test.YtjkenolgkkknaaaGreatDoorLp39
set_option linter.unusedVariables false
set_option linter.unusedSimpArgs false
set_option maxRecDepth 100000
set_option maxHeartbeats 8000000
/- Apart of package commute, where no bytes and no counts are shared. Conditions: none. -/
set_option linter.unusedVariables false
set_option linter.unusedSimpArgs false
namespace Go.Proofs.YtjkenolgkkknaaaGreatDoor
open Go.RowKit
set_option maxRecDepth 100000 in
set_option maxHeartbeats 4000000 in
theorem counted26 (k1 k2 p1 p2 : Nat) (c1 c2 : PCall) (f1 f2 : Bool) (L1 T1 L2 T2 : List (Int × Int)) (M1 M2 : List Int) (b1 o1 b2 o2 g2 : Int) (w : World) (h1 : VwAt w k1 p1 c1 f1 L1 T1 M1 b1 o1 0) (h2 : VwAt w k2 p2 c2 f2 L2 T2 M2 b2 o2 g2)
    (hc : o1 = 0 ∨ c2.kind ≠ 14) :
    Calls Tryz.prog 26 #[.pointer (some ⟨k1, 0, none⟩), .pointer (some ⟨k2, 0, none⟩)] w fun e w' => e = .returned (.bool false) ∧ Below w.heap.size w w' := by
  obtain ⟨lv1, tv1, mv1, e1, _⟩ := h1.rows
  obtain ⟨lv2, tv2, mv2, e2, _⟩ := h2.rows
  have i1 := e1.lt
  have i2 := e2.lt
  have x14 : w.cell? ⟨k1, 14, none⟩ = some (.int .i64 o1) := e1.cell 14
  have x15 : w.cell? ⟨k1, 15, none⟩ = some (.int .i64 0) := e1.cell 15
  have z1 : w.cell? ⟨k2, 1, none⟩ = some (.int .i64 c2.kind) := e2.cell 1
  clear h1 h2 e1 e2
  generalize hb1 : (o1 != 0) = u1
  generalize hb2 : (c2.kind == 14) = u2
  have hcase : u1 = false ∨ (u1 = true ∧ u2 = false) := by
    rcases u1 with _ | _
    · exact .inl rfl
    · refine .inr ⟨rfl, ?_⟩
      rcases hc with h | h
      · subst h; simp at hb1
      · rw [← hb2]; simpa using h
  clear hc
  rcases hcase with rfl | ⟨rfl, rfl⟩
  · go_enter Tryz.func26, Tryz.ntmps26
    go_upto_region 1 with fail
    refine wp_region_quiet_rest (by kernel_rfl) (by kernel_rfl) (WQ.out ?_)
    repeat
      refine WQ_step (fun K hK => ?_)
      go_simp
      first
        | (refine hK _ ?_; clear hK K)
        | (apply Exists.intro
           refine ⟨fun _ => ?_, hK _ ?_⟩
           focus (fail)
           clear hK K)
    refine WQ_nil ?_
    intro w1 hw1
    obtain ⟨p, hw1⟩ := hw1
    subst hw1
    go_upto_region 3 with fail
    refine wp_region_quiet_rest (by kernel_rfl) (by kernel_rfl) (WQ.out ?_)
    repeat
      refine WQ_step (fun K hK => ?_)
      go_simp
      first
        | (refine hK _ ?_; clear hK K)
        | (apply Exists.intro
           refine ⟨fun _ => ?_, hK _ ?_⟩
           focus (fail)
           clear hK K)
    refine WQ_nil ?_
    intro w1 hw1
    obtain ⟨p, hw1⟩ := hw1
    subst hw1
    go_wp2_with fail
    go_ret
    exact ⟨rfl, bel _ _⟩
  · go_enter Tryz.func26, Tryz.ntmps26
    go_upto_region 1 with fail
    refine wp_region_quiet_rest (by kernel_rfl) (by kernel_rfl) (WQ.out ?_)
    repeat
      refine WQ_step (fun K hK => ?_)
      go_simp
      first
        | (refine hK _ ?_; clear hK K)
        | (apply Exists.intro
           refine ⟨fun _ => ?_, hK _ ?_⟩
           focus (fail)
           clear hK K)
    refine WQ_nil ?_
    intro w1 hw1
    obtain ⟨p, hw1⟩ := hw1
    subst hw1
    go_upto_region 3 with fail
    refine wp_region_quiet_rest (by kernel_rfl) (by kernel_rfl) (WQ.out ?_)
    repeat
      refine WQ_step (fun K hK => ?_)
      go_simp
      first
        | (refine hK _ ?_; clear hK K)
        | (apply Exists.intro
           refine ⟨fun _ => ?_, hK _ ?_⟩
           focus (fail)
           clear hK K)
    refine WQ_nil ?_
    intro w1 hw1
    obtain ⟨p, hw1⟩ := hw1
    subst hw1
    go_wp2_with fail
    go_ret
    exact ⟨rfl, bel _ _⟩
/-- A call's view at a state, wherever the state lies. -/
def HasView (S : PSt) (c : PCall) (fine : Bool) (L T : List (Int × Int)) (M : List Int) (by_ co : Int) : Prop := ∀ (ww : World) (p : Nat), SP ww p S → Calls Tryz.prog 23 #[.pointer (some ⟨p, 0, none⟩), .agg #[.int .i64 c.kind, .int .i64 c.core, .int .i64 c.fd, .int .i64 c.off, .int .i64 c.num, .string c.path, .string c.path2, .string c.data]] ww fun e w' => ∃ k, e = .returned (.pointer (some ⟨k, 0, none⟩)) ∧ VwAt w' k p c fine L T M by_ co 0 ∧ Below ww.heap.size ww w'
set_option maxRecDepth 100000 in
set_option maxHeartbeats 8000000 in
theorem apart_yes (iv ov mv : Value) (S : PSt) (x y : PCall) (f1 f2 : Bool) (L1 T1 L2 T2 : List (Int × Int)) (M1 M2 : List Int) (b1 o1 b2 o2 : Int) (w : World) (h : StRead w iv ov mv S) (hwf : S.wf) (hask0 : askedM S x y = true) (hx : x.kind < 15) (hy : y.kind < 15)
    (V1 : HasView S x f1 L1 T1 M1 b1 o1) (V2 : HasView S y f2 L2 T2 M2 b2 o2) (hby : b1 = 0 ∨ b1 ≠ b2) (hc1 : o1 = 0 ∨ y.kind ≠ 14) (hc2 : o2 = 0 ∨ x.kind ≠ 14)
    (l1 : L1.length ≤ 1000000000) (l2 : L2.length ≤ 1000000000) (t1 : T1.length ≤ 1000000000) (t2 : T2.length ≤ 1000000000) :
    Calls Tryz.prog 10 #[.agg #[iv, ov, mv], x.val, y.val] w fun e w' => e = .returned (.bool (!(meetsM T1 L2 T2 || meetsM T2 L1 T1))) ∧ Below w.heap.size w w' := by
  have hio : iv.oneCell' = true := by obtain ⟨_, _, _, h3, _⟩ := h; exact h3.one
  have hoo := h.1.one
  have hmo := h.2.1.one
  have hask : ∀ ww k1 k2 k3, Below w.heap.size w ww → Blk ww k1 #[iv, ov, mv] 27 → Blk ww k2 #[.int .i64 x.kind, .int .i64 x.core, .int .i64 x.fd, .int .i64 x.off, .int .i64 x.num, .string x.path, .string x.path2, .string x.data] 29 → Blk ww k3 #[.int .i64 y.kind, .int .i64 y.core, .int .i64 y.fd, .int .i64 y.off, .int .i64 y.num, .string y.path, .string y.path2, .string y.data] 29 →
      Calls Tryz.prog 19 #[.pointer (some ⟨k1, 0, none⟩), .pointer (some ⟨k2, 0, none⟩), .pointer (some ⟨k3, 0, none⟩)] ww fun e w' => e = .returned (.bool true) ∧ Below ww.heap.size ww w' := fun ww k1 k2 k3 hb h1 h2 h3 => by
    have := asked19 k1 k2 k3 S x y ww (SP.of_blk h1 (h.below hb (Nat.le_refl _))) hwf (CP.of_blk h2) (CP.of_blk h3)
    rw [hask0] at this
    exact this
  have HS := Lib.hid h
  obtain ⟨r1, hr1⟩ : ∃ r, meetsM T1 L2 T2 = r := ⟨_, rfl⟩
  obtain ⟨r2, hr2⟩ : ∃ r, meetsM T2 L1 T1 = r := ⟨_, rfl⟩
  rw [hr1, hr2]
  have HR1 := Lib.hid hr1
  have HR2 := Lib.hid hr2
  clear h hwf hask0 hr1 hr2
  unfold PCall.val
  go_enter Tryz.func10, Tryz.ntmps10
  go_upto_region 3 with (go_at_call 19; refine (hask _ _ _ _ (bel _ _) (by repeat (first | exact Blk.new_i _ _ _ _ | refine Blk.alloc ?_ _)) (by repeat (first | exact Blk.new_i _ _ _ _ | refine Blk.alloc ?_ _)) (by repeat (first | exact Blk.new_i _ _ _ _ | refine Blk.alloc ?_ _))).mono ?_; rintro e w' ⟨rfl, hb⟩; obtain ⟨p, rfl⟩ := hb.rest; clear hb)
  have F0 : ∀ (W : World), W = (((w.alloc (Obj.cells #[iv, ov, mv] 27)).alloc (Obj.cells #[.int .i64 x.kind, .int .i64 x.core, .int .i64 x.fd, .int .i64 x.off, .int .i64 x.num, .string x.path, .string x.path2, .string x.data] 29)).alloc (Obj.cells #[.int .i64 y.kind, .int .i64 y.core, .int .i64 y.fd, .int .i64 y.off, .int .i64 y.num, .string y.path, .string y.path2, .string y.data] 29)).junk p → SP W w.heap.size S ∧ Blk W (w.heap.size + 1) #[.int .i64 x.kind, .int .i64 x.core, .int .i64 x.fd, .int .i64 x.off, .int .i64 x.num, .string x.path, .string x.path2, .string x.data] 29 ∧ Blk W (w.heap.size + 1 + 1) #[.int .i64 y.kind, .int .i64 y.core, .int .i64 y.fd, .int .i64 y.off, .int .i64 y.num, .string y.path, .string y.path2, .string y.data] 29 ∧ Below w.heap.size w W := by
    rintro W rfl
    exact ⟨SP.of_blk ((((Blk.new w _ 27).alloc _).alloc _).junk _) (HS.out.below (bel w _) (Nat.le_refl _)), ((Blk.new_i _ _ _ _).alloc _).junk _, (Blk.new_i _ _ _ _).junk _, bel w _⟩
  refine abs_world (F := fun W => SP W w.heap.size S ∧ Blk W (w.heap.size + 1) #[.int .i64 x.kind, .int .i64 x.core, .int .i64 x.fd, .int .i64 x.off, .int .i64 x.num, .string x.path, .string x.path2, .string x.data] 29 ∧ Blk W (w.heap.size + 1 + 1) #[.int .i64 y.kind, .int .i64 y.core, .int .i64 y.fd, .int .i64 y.off, .int .i64 y.num, .string y.path, .string y.path2, .string y.data] 29 ∧ Below w.heap.size w W) (F0 _ rfl) ?_
  clear hask F0
  rintro W ⟨hsp, hbx, hby2, hbW⟩
  have iX := hbx.lt
  have iY := hby2.lt
  have u0 : W.cell? ⟨w.heap.size + 1, 0, none⟩ = some (.int .i64 x.kind) := hbx.cell 0
  have u1 : W.cell? ⟨w.heap.size + 1, 1, none⟩ = some (.int .i64 x.core) := hbx.cell 1
  have u2 : W.cell? ⟨w.heap.size + 1, 2, none⟩ = some (.int .i64 x.fd) := hbx.cell 2
  have u3 : W.cell? ⟨w.heap.size + 1, 3, none⟩ = some (.int .i64 x.off) := hbx.cell 3
  have u4 : W.cell? ⟨w.heap.size + 1, 4, none⟩ = some (.int .i64 x.num) := hbx.cell 4
  have u5 : W.cell? ⟨w.heap.size + 1, 5, none⟩ = some (.string x.path) := hbx.cell 5
  have u6 : W.cell? ⟨w.heap.size + 1, 6, none⟩ = some (.string x.path2) := hbx.cell 6
  have u7 : W.cell? ⟨w.heap.size + 1, 7, none⟩ = some (.string x.data) := hbx.cell 7
  have v0 : W.cell? ⟨w.heap.size + 1 + 1, 0, none⟩ = some (.int .i64 y.kind) := hby2.cell 0
  have v1 : W.cell? ⟨w.heap.size + 1 + 1, 1, none⟩ = some (.int .i64 y.core) := hby2.cell 1
  have v2 : W.cell? ⟨w.heap.size + 1 + 1, 2, none⟩ = some (.int .i64 y.fd) := hby2.cell 2
  have v3 : W.cell? ⟨w.heap.size + 1 + 1, 3, none⟩ = some (.int .i64 y.off) := hby2.cell 3
  have v4 : W.cell? ⟨w.heap.size + 1 + 1, 4, none⟩ = some (.int .i64 y.num) := hby2.cell 4
  have v5 : W.cell? ⟨w.heap.size + 1 + 1, 5, none⟩ = some (.string y.path) := hby2.cell 5
  have v6 : W.cell? ⟨w.heap.size + 1 + 1, 6, none⟩ = some (.string y.path2) := hby2.cell 6
  have v7 : W.cell? ⟨w.heap.size + 1 + 1, 7, none⟩ = some (.string y.data) := hby2.cell 7
  have HW := Lib.hid (And.intro hsp hbW)
  clear hsp hbx hby2 hbW
  refine wp_region_eff [1, 3] false (fun w' => w'.cell? ⟨w.heap.size + 1, 0, none⟩ = some (.int .i64 x.kind) ∧ w'.cell? ⟨w.heap.size + 1, 1, none⟩ = some (.int .i64 x.core) ∧ w'.cell? ⟨w.heap.size + 1, 2, none⟩ = some (.int .i64 x.fd) ∧ w'.cell? ⟨w.heap.size + 1, 3, none⟩ = some (.int .i64 x.off) ∧ w'.cell? ⟨w.heap.size + 1, 4, none⟩ = some (.int .i64 x.num) ∧ w'.cell? ⟨w.heap.size + 1, 5, none⟩ = some (.string x.path) ∧ w'.cell? ⟨w.heap.size + 1, 6, none⟩ = some (.string x.path2) ∧ w'.cell? ⟨w.heap.size + 1, 7, none⟩ = some (.string x.data) ∧ w'.cell? ⟨w.heap.size + 1 + 1, 0, none⟩ = some (.int .i64 y.kind) ∧ w'.cell? ⟨w.heap.size + 1 + 1, 1, none⟩ = some (.int .i64 y.core) ∧ w'.cell? ⟨w.heap.size + 1 + 1, 2, none⟩ = some (.int .i64 y.fd) ∧ w'.cell? ⟨w.heap.size + 1 + 1, 3, none⟩ = some (.int .i64 y.off) ∧ w'.cell? ⟨w.heap.size + 1 + 1, 4, none⟩ = some (.int .i64 y.num) ∧ w'.cell? ⟨w.heap.size + 1 + 1, 5, none⟩ = some (.string y.path) ∧ w'.cell? ⟨w.heap.size + 1 + 1, 6, none⟩ = some (.string y.path2) ∧ w'.cell? ⟨w.heap.size + 1 + 1, 7, none⟩ = some (.string y.data)) (by kernel_rfl) (by kernel_rfl) ?_ ?_
  · (try dsimp only); (repeat' apply And.intro) <;> go_simp
  repeat
    refine wpL_look rfl rfl ?_
    apply Exists.intro
    refine ⟨?_, ?_⟩
    focus
      rintro w' ⟨s0, s1, s2, s3, s4, s5, s6, s7, s8, s9, s10, s11, s12, s13, s14, s15⟩
      go_simp
      first | done | rfl
    simp only [Act.put, List.setIfInBounds_toArray, List.set_cons_zero, List.set_cons_succ]
  refine wpL_act rfl rfl ?_
  refine eff_call 23 #[.pointer (some ⟨w.heap.size, 0, none⟩), .agg #[.int .i64 x.kind, .int .i64 x.core, .int .i64 x.fd, .int .i64 x.off, .int .i64 x.num, .string x.path, .string x.path2, .string x.data]] ?hr1 ?_
  case hr1 =>
    go_simp
    first | done | rfl
  refine (V1 _ w.heap.size (HW.out.1.below (bel W _) (Nat.le_refl _))).mono ?_
  rintro e w' ⟨k1, rfl, hv1, hb⟩
  obtain ⟨q1, rfl⟩ := hb.rest
  clear hb
  have HV1 := Lib.hid hv1
  clear hv1
  refine ⟨_, rfl, .inl ?_, ?_⟩
  · (try dsimp only); (repeat' apply And.intro) <;> go_simp
  simp only [Act.put, List.setIfInBounds_toArray, List.set_cons_zero, List.set_cons_succ]
  repeat
    refine wpL_look rfl rfl ?_
    apply Exists.intro
    refine ⟨?_, ?_⟩
    focus
      rintro w' ⟨s0, s1, s2, s3, s4, s5, s6, s7, s8, s9, s10, s11, s12, s13, s14, s15⟩
      go_simp
      first | done | rfl
    simp only [Act.put, List.setIfInBounds_toArray, List.set_cons_zero, List.set_cons_succ]
  refine wpL_act rfl rfl ?_
  refine eff_call 23 #[.pointer (some ⟨w.heap.size, 0, none⟩), .agg #[.int .i64 y.kind, .int .i64 y.core, .int .i64 y.fd, .int .i64 y.off, .int .i64 y.num, .string y.path, .string y.path2, .string y.data]] ?hr2 ?_
  case hr2 =>
    go_simp
    first | done | rfl
  refine (V2 _ w.heap.size (HW.out.1.below (bel W _) (Nat.le_refl _))).mono ?_
  rintro e w' ⟨k2, rfl, hv2, hb⟩
  have hv1' := HV1.out.below hb
  obtain ⟨q2, rfl⟩ := hb.rest
  clear hb
  have HV2 := Lib.hid (And.intro hv1' hv2)
  clear hv1' hv2 HV1
  refine ⟨_, rfl, .inl ?_, ?_⟩
  · (try dsimp only); (repeat' apply And.intro) <;> go_simp
  simp only [Act.put, List.setIfInBounds_toArray, List.set_cons_zero, List.set_cons_succ]
  repeat
    refine wpL_look rfl rfl ?_
    apply Exists.intro
    refine ⟨?_, ?_⟩
    focus
      rintro w' ⟨s0, s1, s2, s3, s4, s5, s6, s7, s8, s9, s10, s11, s12, s13, s14, s15⟩
      go_simp
      first | done | rfl
    simp only [Act.put, List.setIfInBounds_toArray, List.set_cons_zero, List.set_cons_succ]
  refine wpL_end ?_
  go_upto_region 4 with fail
  refine abs_world (F := fun wB => (VwAt wB k1 w.heap.size x f1 L1 T1 M1 b1 o1 0 ∧ VwAt wB k2 w.heap.size y f2 L2 T2 M2 b2 o2 0) ∧ Below w.heap.size w wB) ⟨HV2.out, HW.out.2.trans ((bel W _).mono HW.out.2.size)⟩ ?_
  clear u0 u1 u2 u3 u4 u5 u6 u7 v0 v1 v2 v3 v4 v5 v6 v7 iX iY HW HV2
  rintro wB ⟨⟨g1, g2⟩, hbB⟩
  have m1 : ∀ ww, Below wB.heap.size wB ww → Calls Tryz.prog 24 #[.pointer (some ⟨k1, 0, none⟩), .pointer (some ⟨k2, 0, none⟩)] ww _ := fun ww hb => meets24 k1 k2 w.heap.size w.heap.size x y f1 f2 L1 T1 L2 T2 M1 M2 b1 o1 0 b2 o2 0 ww (g1.below hb) (g2.below hb) t1 l2 t2
  have m2 : ∀ ww, Below wB.heap.size wB ww → Calls Tryz.prog 24 #[.pointer (some ⟨k2, 0, none⟩), .pointer (some ⟨k1, 0, none⟩)] ww _ := fun ww hb => meets24 k2 k1 w.heap.size w.heap.size y x f2 f1 L2 T2 L1 T1 M2 M1 b2 o2 0 b1 o1 0 ww (g2.below hb) (g1.below hb) t2 l1 t1
  have n1 : ∀ ww, Below wB.heap.size wB ww → Calls Tryz.prog 26 #[.pointer (some ⟨k1, 0, none⟩), .pointer (some ⟨k2, 0, none⟩)] ww _ := fun ww hb => counted26 k1 k2 w.heap.size w.heap.size x y f1 f2 L1 T1 L2 T2 M1 M2 b1 o1 b2 o2 0 ww (g1.below hb) (g2.below hb) hc1
  have n2 : ∀ ww, Below wB.heap.size wB ww → Calls Tryz.prog 26 #[.pointer (some ⟨k2, 0, none⟩), .pointer (some ⟨k1, 0, none⟩)] ww _ := fun ww hb => counted26 k2 k1 w.heap.size w.heap.size y x f2 f1 L2 T2 L1 T1 M2 M1 b2 o2 b1 o1 0 ww (g2.below hb) (g1.below hb) hc2
  simp only [HR1.out] at m1
  simp only [HR2.out] at m2
  have y13 : wB.cell? ⟨k1, 13, none⟩ = some (.int .i64 b1) := by obtain ⟨_, _, _, h, _⟩ := g1; exact h.cell 13
  have z13 : wB.cell? ⟨k2, 13, none⟩ = some (.int .i64 b2) := by obtain ⟨_, _, _, h, _⟩ := g2; exact h.cell 13
  have j1 : BlockLt k1 wB := by obtain ⟨_, _, _, h, _⟩ := g1; exact h.lt
  have j2 : BlockLt k2 wB := by obtain ⟨_, _, _, h, _⟩ := g2; exact h.lt
  have HB := Lib.hid hbB
  clear g1 g2 hbB V1 V2
  have hcase : (b1 != 0) = false ∨ ((b1 != 0) = true ∧ (b1 == b2) = false) := by
    by_cases h0 : b1 = 0
    · exact .inl (by simpa using h0)
    · refine .inr ⟨by simpa using h0, ?_⟩
      rcases hby with h | h
      · exact absurd h h0
      · simpa using h
  rcases r1 with _ | _
  · rcases r2 with _ | _
    · rcases hcase with hz | ⟨hz, hz2⟩
      · go_upto_region 6 with (first | (go_at_call 24; with_reducible refine (m1 _ (bel wB _)).mono ?_; rintro e w' ⟨rfl, hb⟩; obtain ⟨p, rfl⟩ := hb.rest; clear hb) | (go_at_call 24; with_reducible refine (m2 _ (bel wB _)).mono ?_; rintro e w' ⟨rfl, hb⟩; obtain ⟨p, rfl⟩ := hb.rest; clear hb) | (go_at_call 26; with_reducible refine (n1 _ (bel wB _)).mono ?_; rintro e w' ⟨rfl, hb⟩; obtain ⟨p, rfl⟩ := hb.rest; clear hb) | (go_at_call 26; with_reducible refine (n2 _ (bel wB _)).mono ?_; rintro e w' ⟨rfl, hb⟩; obtain ⟨p, rfl⟩ := hb.rest; clear hb))
        refine wp_region_quiet_rest (by kernel_rfl) (by kernel_rfl) ?_
        repeat
          first
            | go_big_quiet_skip
            | (go_big_quiet_want; go_big_quiet_op; first | go_big_quiet_on | (apply Exists.intro; refine ⟨fun _ => ?_, ?_⟩; (focus (fail)); go_big_quiet_on))
        refine wpQuiet_nil ?_
        intro w1 hw1
        obtain ⟨p, hw1⟩ := hw1
        subst hw1
        go_wp2_with (first | (go_at_call 24; with_reducible refine (m1 _ (bel wB _)).mono ?_; rintro e w' ⟨rfl, hb⟩; obtain ⟨p, rfl⟩ := hb.rest; clear hb) | (go_at_call 24; with_reducible refine (m2 _ (bel wB _)).mono ?_; rintro e w' ⟨rfl, hb⟩; obtain ⟨p, rfl⟩ := hb.rest; clear hb) | (go_at_call 26; with_reducible refine (n1 _ (bel wB _)).mono ?_; rintro e w' ⟨rfl, hb⟩; obtain ⟨p, rfl⟩ := hb.rest; clear hb) | (go_at_call 26; with_reducible refine (n2 _ (bel wB _)).mono ?_; rintro e w' ⟨rfl, hb⟩; obtain ⟨p, rfl⟩ := hb.rest; clear hb))
        go_ret
        exact ⟨rfl, HB.out.trans ((bel wB _).mono HB.out.size)⟩
      · go_upto_region 6 with (first | (go_at_call 24; with_reducible refine (m1 _ (bel wB _)).mono ?_; rintro e w' ⟨rfl, hb⟩; obtain ⟨p, rfl⟩ := hb.rest; clear hb) | (go_at_call 24; with_reducible refine (m2 _ (bel wB _)).mono ?_; rintro e w' ⟨rfl, hb⟩; obtain ⟨p, rfl⟩ := hb.rest; clear hb) | (go_at_call 26; with_reducible refine (n1 _ (bel wB _)).mono ?_; rintro e w' ⟨rfl, hb⟩; obtain ⟨p, rfl⟩ := hb.rest; clear hb) | (go_at_call 26; with_reducible refine (n2 _ (bel wB _)).mono ?_; rintro e w' ⟨rfl, hb⟩; obtain ⟨p, rfl⟩ := hb.rest; clear hb))
        refine wp_region_quiet_rest (by kernel_rfl) (by kernel_rfl) ?_
        repeat
          first
            | go_big_quiet_skip
            | (go_big_quiet_want; go_big_quiet_op; first | go_big_quiet_on | (apply Exists.intro; refine ⟨fun _ => ?_, ?_⟩; (focus (fail)); go_big_quiet_on))
        refine wpQuiet_nil ?_
        intro w1 hw1
        obtain ⟨p, hw1⟩ := hw1
        subst hw1
        go_wp2_with (first | (go_at_call 24; with_reducible refine (m1 _ (bel wB _)).mono ?_; rintro e w' ⟨rfl, hb⟩; obtain ⟨p, rfl⟩ := hb.rest; clear hb) | (go_at_call 24; with_reducible refine (m2 _ (bel wB _)).mono ?_; rintro e w' ⟨rfl, hb⟩; obtain ⟨p, rfl⟩ := hb.rest; clear hb) | (go_at_call 26; with_reducible refine (n1 _ (bel wB _)).mono ?_; rintro e w' ⟨rfl, hb⟩; obtain ⟨p, rfl⟩ := hb.rest; clear hb) | (go_at_call 26; with_reducible refine (n2 _ (bel wB _)).mono ?_; rintro e w' ⟨rfl, hb⟩; obtain ⟨p, rfl⟩ := hb.rest; clear hb))
        go_ret
        exact ⟨rfl, HB.out.trans ((bel wB _).mono HB.out.size)⟩
    · go_wp2_with (first | (go_at_call 24; with_reducible refine (m1 _ (bel wB _)).mono ?_; rintro e w' ⟨rfl, hb⟩; obtain ⟨p, rfl⟩ := hb.rest; clear hb) | (go_at_call 24; with_reducible refine (m2 _ (bel wB _)).mono ?_; rintro e w' ⟨rfl, hb⟩; obtain ⟨p, rfl⟩ := hb.rest; clear hb) | (go_at_call 26; with_reducible refine (n1 _ (bel wB _)).mono ?_; rintro e w' ⟨rfl, hb⟩; obtain ⟨p, rfl⟩ := hb.rest; clear hb) | (go_at_call 26; with_reducible refine (n2 _ (bel wB _)).mono ?_; rintro e w' ⟨rfl, hb⟩; obtain ⟨p, rfl⟩ := hb.rest; clear hb))
      go_ret
      exact ⟨rfl, HB.out.trans ((bel wB _).mono HB.out.size)⟩
  · go_wp2_with (first | (go_at_call 24; with_reducible refine (m1 _ (bel wB _)).mono ?_; rintro e w' ⟨rfl, hb⟩; obtain ⟨p, rfl⟩ := hb.rest; clear hb) | (go_at_call 24; with_reducible refine (m2 _ (bel wB _)).mono ?_; rintro e w' ⟨rfl, hb⟩; obtain ⟨p, rfl⟩ := hb.rest; clear hb) | (go_at_call 26; with_reducible refine (n1 _ (bel wB _)).mono ?_; rintro e w' ⟨rfl, hb⟩; obtain ⟨p, rfl⟩ := hb.rest; clear hb) | (go_at_call 26; with_reducible refine (n2 _ (bel wB _)).mono ?_; rintro e w' ⟨rfl, hb⟩; obtain ⟨p, rfl⟩ := hb.rest; clear hb))
    go_ret
    exact ⟨by simp, HB.out.trans ((bel wB _).mono HB.out.size)⟩
end Go.Proofs.YtjkenolgkkknaaaGreatDoor
