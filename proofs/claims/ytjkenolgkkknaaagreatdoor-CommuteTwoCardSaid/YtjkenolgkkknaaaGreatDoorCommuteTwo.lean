/- CommuteTwo. Conditions: none. The statement on CommuteTwo: whatever comes in, the law answers true and leaves its arguments as they were; the tables that the program's own text lays are tied to it. Conditions: none. -/
import Derived.Test.YtjkenolgkkknaaaGreatDoorTw27
import Derived.Test.YtjkenolgkkknaaaGreatDoorCards
import Derived.Test.YtjkenolgkkknaaaGreatDoorTie
import Derived.ProofKit
import Derived.LaidMore
import Derived.OpenShut
import Derived.ChangeOld
import Derived.Lib.SmallJoins
import Derived.Lib.LaidTab
import Derived.Stop.LaidErr
import Derived.Stop.Joined
import Derived.MakeChecks
set_option linter.unusedVariables false
set_option linter.unusedSimpArgs false
namespace Go.Proofs.YtjkenolgkkknaaaGreatDoor
open Go.RowKit
def cqL (core : Int) (p : ByteArray) : List PCall := [cq 0 core p, cq 1 core p, cq 2 core p, cq 3 core p]
set_option maxRecDepth 100000 in
set_option maxHeartbeats 8000000 in
theorem two6 (which i : Int) (w : World) (hp : Laid w.heap.size Pow10 w) : Calls Tryz.prog 6 #[.int .i64 which, .int .i64 i] w fun e w' => e = .returned (.bool true) ∧ Below w.heap.size w w' := by
  have haw : ∀ ww, Below w.heap.size w ww → Calls Tryz.prog 7 #[] ww _ := fun ww hb => awake7 ww ((hp.below hb).up hb.size)
  have hpr : ∀ ww, Calls Tryz.prog 8 #[.int .i64 0, .int .i64 0, .int .i64 1] ww fun e w' => ∃ (iv ov mv : Value) (x y : PCall) (t : Bool), e = .returned (.tuple #[.agg #[iv, ov, mv], .agg #[.int .i64 x.kind, .int .i64 x.core, .int .i64 x.fd, .int .i64 x.off, .int .i64 x.num, .string x.path, .string x.path2, .string x.data], .agg #[.int .i64 y.kind, .int .i64 y.core, .int .i64 y.fd, .int .i64 y.off, .int .i64 y.num, .string y.path, .string y.path2, .string y.data], .bool t, .bool true]) ∧ Below ww.heap.size ww w' ∧ StRead w' iv ov mv s6 := fun ww => pair8 ww
  have hat := fun ww => at14 i ww
  go_enter Tryz.func6, Tryz.ntmps6
  go_upto_region 4 with (first | (go_at_call 7; refine (haw _ (bel w _)).mono ?_; rintro e w' ⟨rfl, hb⟩; obtain ⟨p, rfl⟩ := hb.rest; clear hb) | (go_at_call 8; refine (hpr _).mono ?_; rintro e w1 ⟨iv, ov, mv, x, y, t, rfl, hb1, hst⟩; obtain ⟨ai, ni, ci, ao, no, co, am, nm, cm, rfl, rfl, rfl⟩ := hst.slices; have hbw := (bel w _).trans (hb1.mono (bel w _).size); have HST := Lib.hid (And.intro hst hbw); clear hst hb1 hbw))
  refine abs_world (F := fun W => StRead W (.slice ai ni ci) (.slice ao no co) (.slice am nm cm) s6 ∧ Blk W w1.heap.size #[.slice ai ni ci, .slice ao no co, .slice am nm cm] 27 ∧ Below w.heap.size w W) ⟨HST.out.1.below (bel w1 _) (Nat.le_refl _), blk_on (Blk.new_i w1 _ _ _) (bel _ _), HST.out.2.trans ((bel w1 _).mono HST.out.2.size)⟩ ?_
  obtain ⟨g5, hg5⟩ : ∃ g, w1.heap.size = g := ⟨_, rfl⟩
  rw [hg5]
  clear HST hg5 haw hpr
  rintro W ⟨hst, h5, hbW⟩
  obtain ⟨n, hn⟩ : ∃ n : Nat, (i % 16).toNat = n := ⟨_, rfl⟩
  have hn16 : n < 16 := by omega
  rw [hn] at hat
  clear hn
  have i5 := h5.lt
  have HW := Lib.hid (And.intro hst (And.intro h5 hbW))
  clear hst h5 hbW
  obtain ⟨q, hq⟩ : ∃ q, pth n = q := ⟨_, rfl⟩
  rw [hq] at hat
  have HQ := Lib.hid hq
  clear hq
  go_upto_region 6 with (go_at_call 14; refine (hat _).mono ?_; rintro e w' ⟨rfl, hb⟩; obtain ⟨p, rfl⟩ := hb.rest; clear hb)
  refine abs_world (F := fun W' => CRow W' (W.heap.size + p.len) (cqL 0 q) ∧ Below W.heap.size W W') ⟨Blk.new_i _ _ _ _, bel W _⟩ ?_
  obtain ⟨gq, hgq⟩ : ∃ g, W.heap.size + p.len = g := ⟨_, rfl⟩
  rw [hgq]
  clear hgq hat i5
  rintro W' ⟨hrow, hbW'⟩
  obtain ⟨k1, hk1⟩ : ∃ k : Nat, which % 4 = k := ⟨(which % 4).toNat, by omega⟩
  obtain ⟨k2, hk2⟩ : ∃ k : Nat, IntKind.i64.wrap (which.tdiv 4) % 4 = k := ⟨(IntKind.i64.wrap (which.tdiv 4) % 4).toNat, by omega⟩
  have hk2w : wrap64 (which.tdiv 4) % 4 = k2 := by rw [← IntWalk.i64_left]; exact hk2
  have hl1 : k1 < 4 := by omega
  have hl2 : k2 < 4 := by omega
  have hl1I : (k1 : Int) < 4 := by omega
  have hl2I : (k2 : Int) < 4 := by omega
  obtain ⟨c1, hc1⟩ : ∃ c, (cqL 0 q)[k1]? = some c := ⟨_, List.getElem?_eq_getElem hl1⟩
  obtain ⟨c2, hc2⟩ : ∃ c, (cqL 0 q)[k2]? = some c := ⟨_, List.getElem?_eq_getElem hl2⟩
  have x0 := hrow.at_ hc1 0 _ rfl
  have x1 := hrow.at_ hc1 1 _ rfl
  have x2 := hrow.at_ hc1 2 _ rfl
  have x3 := hrow.at_ hc1 3 _ rfl
  have x4 := hrow.at_ hc1 4 _ rfl
  have x5 := hrow.at_ hc1 5 _ rfl
  have x6 := hrow.at_ hc1 6 _ rfl
  have x7 := hrow.at_ hc1 7 _ rfl
  have y0 := hrow.at_ hc2 0 _ rfl
  have y1 := hrow.at_ hc2 1 _ rfl
  have y2 := hrow.at_ hc2 2 _ rfl
  have y3 := hrow.at_ hc2 3 _ rfl
  have y4 := hrow.at_ hc2 4 _ rfl
  have y5 := hrow.at_ hc2 5 _ rfl
  have y6 := hrow.at_ hc2 6 _ rfl
  have y7 := hrow.at_ hc2 7 _ rfl
  rw [Nat.add_zero] at x0 y0
  have iQ := hrow.lt
  have HC := Lib.hid (And.intro hc1 (And.intro hc2 hbW'))
  clear hc1 hc2 hrow hbW'
  go_cut [12, 13] (fun v12 v13 wx => ∃ g12 g13, v12 = .pointer (some ⟨g12, 0, none⟩) ∧ v13 = .pointer (some ⟨g13, 0, none⟩) ∧ g12 ≠ g13 ∧ W'.heap.size ≤ g13 ∧ Blk wx g12 #[.int .i64 c1.kind, .int .i64 c1.core, .int .i64 c1.fd, .int .i64 c1.off, .int .i64 c1.num, .string c1.path, .string c1.path2, .string c1.data] 29 ∧ Blk wx g13 #[.int .i64 c2.kind, .int .i64 c2.core, .int .i64 c2.fd, .int .i64 c2.off, .int .i64 c2.num, .string c2.path, .string c2.path2, .string c2.data] 29 ∧ Below W'.heap.size W' wx)
  case first =>
    go_region_held3 (fun w' => w'.cell? ⟨gq, k1 * 8, none⟩ = some (.int .i64 c1.kind) ∧ w'.cell? ⟨gq, k1 * 8 + 1, none⟩ = some (.int .i64 c1.core) ∧ w'.cell? ⟨gq, k1 * 8 + 2, none⟩ = some (.int .i64 c1.fd) ∧ w'.cell? ⟨gq, k1 * 8 + 3, none⟩ = some (.int .i64 c1.off) ∧ w'.cell? ⟨gq, k1 * 8 + 4, none⟩ = some (.int .i64 c1.num) ∧ w'.cell? ⟨gq, k1 * 8 + 5, none⟩ = some (.string c1.path) ∧ w'.cell? ⟨gq, k1 * 8 + 6, none⟩ = some (.string c1.path2) ∧ w'.cell? ⟨gq, k1 * 8 + 7, none⟩ = some (.string c1.data) ∧ w'.cell? ⟨gq, k2 * 8, none⟩ = some (.int .i64 c2.kind) ∧ w'.cell? ⟨gq, k2 * 8 + 1, none⟩ = some (.int .i64 c2.core) ∧ w'.cell? ⟨gq, k2 * 8 + 2, none⟩ = some (.int .i64 c2.fd) ∧ w'.cell? ⟨gq, k2 * 8 + 3, none⟩ = some (.int .i64 c2.off) ∧ w'.cell? ⟨gq, k2 * 8 + 4, none⟩ = some (.int .i64 c2.num) ∧ w'.cell? ⟨gq, k2 * 8 + 5, none⟩ = some (.string c2.path) ∧ w'.cell? ⟨gq, k2 * 8 + 6, none⟩ = some (.string c2.path2) ∧ w'.cell? ⟨gq, k2 * 8 + 7, none⟩ = some (.string c2.data))
      (first | (try dsimp only) <;> (repeat' apply And.intro) <;> go_simp)
      (first | fail)
    all_goals go_wp2_with fail
    all_goals go_meet
    all_goals (refine ⟨_, _, rfl, rfl, by omega, by omega, ?_, ?_, bel W' _⟩)
    all_goals ((repeat (first | exact Blk.new_i _ _ _ _ | refine Blk.alloc ?_ _ | refine Blk.junk ?_ _ | refine Blk.drew ?_)); done)
  case rest =>
    obtain ⟨g12, g13, rfl, rfl, hne, hge, h12, h13, hbc⟩ := hcut
    clear x0 x1 x2 x3 x4 x5 x6 x7 y0 y1 y2 y3 y4 y5 y6 y7 iQ
    have hbw : Below w.heap.size w wc := HW.out.2.2.trans ((HC.out.2.2.trans (hbc.mono HC.out.2.2.size)).mono HW.out.2.2.size)
    have hstc := HW.out.1.below (HC.out.2.2.trans (hbc.mono HC.out.2.2.size)) (Nat.le_refl _)
    have h5c := blk_on HW.out.2.1 (HC.out.2.2.trans (hbc.mono HC.out.2.2.size))
    have i12 := h12.lt
    have i13 := h13.lt
    have i5 := h5c.lt
    have h5l : g5 < W'.heap.size := Nat.lt_of_lt_of_le HW.out.2.1.lt.lt HC.out.2.2.size
    have z0 := h5c.cell 0
    have z1 := h5c.cell 1
    have z2 := h5c.cell 2
    have x0 := h12.cell 0
    have y0 := h13.cell 0
    have x1 := h12.cell 1
    have y1 := h13.cell 1
    have x2 := h12.cell 2
    have y2 := h13.cell 2
    have x3 := h12.cell 3
    have y3 := h13.cell 3
    have x4 := h12.cell 4
    have y4 := h13.cell 4
    have x5 := h12.cell 5
    have y5 := h13.cell 5
    have x6 := h12.cell 6
    have y6 := h13.cell 6
    have x7 := h12.cell 7
    have y7 := h13.cell 7
    have fy := h13.frozen 1
    simp at x0 x1 x2 x3 x4 x5 x6 x7 y0 y1 y2 y3 y4 y5 y6 y7 z0 z1 z2
    have n1 : ¬ g12 = g13 := hne
    have n2 : ¬ g13 = g12 := fun e => hne e.symm
    have n3 : ¬ g5 = g13 := by omega
    have n4 : ¬ g13 = g5 := by omega
    have hB2 : Below w.heap.size w (wc.setCell ⟨g13, 1, none⟩ (.int .i64 1)) := hbw.setCell (p := ⟨g13, 1, none⟩) (Nat.le_trans (Nat.le_trans HW.out.2.2.size HC.out.2.2.size) hge) _
    have hS2 : StRead (wc.setCell ⟨g13, 1, none⟩ (.int .i64 1)) (.slice ai ni ci) (.slice ao no co) (.slice am nm cm) s6 := HW.out.1.below (HC.out.2.2.trans ((hbc.setCell (p := ⟨g13, 1, none⟩) hge (.int .i64 1)).mono HC.out.2.2.size)) (Nat.le_refl _)
    have ek : k1 + 4 * k2 < 16 := by omega
    have hck := chk_at ek hn16
    rw [show (k1 + 4 * k2) % 4 = k1 by omega, show (k1 + 4 * k2) / 4 = k2 by omega] at hck
    rw [HQ.out] at hck
    have ec1 : cq k1 0 q = c1 := by
      have h := HC.out.1
      have : k1 = 0 ∨ k1 = 1 ∨ k1 = 2 ∨ k1 = 3 := by omega
      rcases this with rfl | rfl | rfl | rfl <;> exact Option.some.inj h
    have ec2 : cq k2 1 q = { c2 with core := 1 } := by
      have h := HC.out.2.1
      have : k2 = 0 ∨ k2 = 1 ∨ k2 = 2 ∨ k2 = 3 := by omega
      rcases this with rfl | rfl | rfl | rfl <;> (obtain rfl := Option.some.inj h; rfl)
    rw [ec1, ec2] at hck
    have a1 : ∀ ww, Below (wc.setCell ⟨g13, 1, none⟩ (.int .i64 1)).heap.size (wc.setCell ⟨g13, 1, none⟩ (.int .i64 1)) ww → Calls Tryz.prog 9 #[.agg #[.slice ai ni ci, .slice ao no co, .slice am nm cm], .agg #[.int .i64 c1.kind, .int .i64 c1.core, .int .i64 c1.fd, .int .i64 c1.off, .int .i64 c1.num, .string c1.path, .string c1.path2, .string c1.data], .agg #[.int .i64 c2.kind, .int .i64 1, .int .i64 c2.fd, .int .i64 c2.off, .int .i64 c2.num, .string c2.path, .string c2.path2, .string c2.data]] ww fun e w' => e = .returned (.bool false) ∧ Below ww.heap.size ww w' := fun ww hb => chk_cm hck.1 _ _ _ ww (hS2.below hb (Nat.le_refl _))
    have a2 : ∀ ww, Below (wc.setCell ⟨g13, 1, none⟩ (.int .i64 1)).heap.size (wc.setCell ⟨g13, 1, none⟩ (.int .i64 1)) ww → Calls Tryz.prog 10 #[.agg #[.slice ai ni ci, .slice ao no co, .slice am nm cm], .agg #[.int .i64 c1.kind, .int .i64 c1.core, .int .i64 c1.fd, .int .i64 c1.off, .int .i64 c1.num, .string c1.path, .string c1.path2, .string c1.data], .agg #[.int .i64 c2.kind, .int .i64 1, .int .i64 c2.fd, .int .i64 c2.off, .int .i64 c2.num, .string c2.path, .string c2.path2, .string c2.data]] ww fun e w' => e = .returned (.bool false) ∧ Below ww.heap.size ww w' := fun ww hb => chk_ap hck.2 _ _ _ ww (hS2.below hb (Nat.le_refl _))
    have HZ := Lib.hid hB2
    clear hB2 hS2 hck ec1 ec2 ek hstc h5c h12 h13 hbc hbw HC HW hk1 hk2 hk2w
    go_wp2_with (first | (go_at_call 9; with_reducible refine (a1 _ (bel _ _)).mono ?_; rintro e w' ⟨rfl, hb⟩; obtain ⟨p, rfl⟩ := hb.rest; clear hb) | (go_at_call 10; with_reducible refine (a2 _ (bel _ _)).mono ?_; rintro e w' ⟨rfl, hb⟩; obtain ⟨p, rfl⟩ := hb.rest; clear hb))
    go_ret
    exact ⟨rfl, HZ.out.trans ((bel _ _).mono HZ.out.size)⟩
end Go.Proofs.YtjkenolgkkknaaaGreatDoor
namespace Go.Proofs.YtjkenolgkkknaaaGreatDoor.commuteTwo
open Go.ChangeShapes Go.WideShapes Go.ChangeAt Go.RowKit Go.Joins
theorem own : ownKnob Tryz.prog.godebug = none := by kernel_rfl
theorem laidOut : laidOutB Tryz.prog = true := by kernel_rfl
theorem gPow : Tryz.prog.globalNamed "internal/strconv.uint64pow10" = some 1 := by kernel_rfl
theorem tPow : (Tryz.prog.globals[1]?).map (·.type) = some 219 := by kernel_rfl
theorem cells101 : Tryz.prog.cellsOf 101 = 1 := by kernel_rfl
theorem cells219 : Tryz.prog.cellsOf 219 = 20 := by kernel_rfl
theorem under101 : Tryz.prog.underlying 101 = some (.int .u64) := by kernel_rfl
theorem under219 : Tryz.prog.underlying 219 = some (.array 20 101) := by kernel_rfl
/-- What the row's condition gives the walk: the table of powers of ten. -/
theorem pow_of_laid {W : World} (h : laidMetH Tryz.prog Rows.commuteTwoRow.laid W) : Pow10 W := by
  rw [MakeChecks.laidMetH_plain _ _ _ (by kernel_rfl)] at h
  have h2 : laidMet Tryz.prog [("internal/strconv.uint64pow10", Lib.tabData .u64 Lib.pow10Tab)] W := h.tail.tail
  exact Lib.tabIs_of_head gPow tPow under219 under101 cells101 cells219 h2
/-- The door's own heap meets the condition. -/
theorem door_met (os : Os) (args : Array Value) : laidMetH Tryz.prog Rows.commuteTwoRow.laid ((World.doorLaid Tryz.prog 400 os).forCall (fun _ _ => 0) ⟨#[], args, []⟩).memory :=
  laidMetH_of_parts3 (fuel := 8) (laidMet_of_run' 8 (by kernel_rfl) (by kernel_rfl)) (by kernel_rfl) (by kernel_rfl)

set_option maxRecDepth 100000 in
theorem lifted (os : Os) (started : os.Started) (H : Type) (enc : TypeId × Value → H) :
    ReturnsInHanded {} Tryz.checked os 6 .any (fun w args => (Rows.commuteTwoSpec.pre enc Tryz.prog Tryz.f6 [] false w args ∧ laidMetH Tryz.prog Rows.commuteTwoRow.laid w) ∧ sizedMet enc Tryz.prog Tryz.f6 (OpenSpec.ofChange Rows.commuteTwoSpec) false w args)
      (Rows.commuteTwoSpec.post enc Tryz.prog Tryz.f6 false true false false) := by
  refine returnsInHanded_of_change_and (C := Tryz.checked) (X := fun w _ => laidMetH Tryz.prog Rows.commuteTwoRow.laid w) (fun _ _ _ hh h => h.of_heap hh) own started (by kernel_rfl) Tryz.func6
    (ChangeSpec.witness_shaped (enc := enc) (C := Tryz.checked) (os := os) (X := fun w _ => laidMetH Tryz.prog Rows.commuteTwoRow.laid w) false (World.doorLaid Tryz.prog 400 os) #[.int .i64 0, .int .i64 0] 8 rfl (World.shaped_of_RefB (by kernel_rfl) (by kernel_rfl)) (by kernel_rfl) (by kernel_rfl) (by kernel_rfl) (door_met os _)) ?_
  intro W base args ds gs before hval0 hW _ _ hL _
  have hval : ∀ (j : Nat) t v, Tryz.f6.params[j]? = some t → args[j]? = some v → Value.okWide Tryz.prog W .any base t v := hval0
  have hW' := hW
  obtain ⟨p, q, hA0, hV, rfl, hfz, hnd⟩ := hW
  have hA : DataW.TrodAll enc Tryz.prog W 0 (fun _ => true) true Tryz.f6.params.toList args.toList ds p := hA0
  rw [Tryz.params6] at hA hval
  obtain ⟨v0, vs0, d0, ds0, p0, q0, hargs, rfl, rfl, h0, r0⟩ := trodAll_cons hA
  obtain ⟨v1, vs1, d1, ds1, p1, q1, rfl, rfl, rfl, h1, r1⟩ := trodAll_cons r0
  obtain ⟨rfl, rfl, rfl⟩ := trodAll_nil r1
  obtain rfl : args = #[v0, v1] := by cases args; simp_all
  obtain ⟨rfl, rfl⟩ := trodVars_none hV
  have k0 := h0
  have lt0 : ∀ x ∈ p0, x.block < W.heap.size := by obtain ⟨m, hm⟩ := k0; exact DataW.trod_lt m _ _ _ hm
  obtain ⟨a0, rfl, e0, f0, wa0⟩ := open_int Tryz.underlying3 (hval 0 3 v0 rfl rfl) h0
  have k1 := h1
  have lt1 : ∀ x ∈ p1, x.block < W.heap.size := by obtain ⟨m, hm⟩ := k1; exact DataW.trod_lt m _ _ _ hm
  obtain ⟨a1, rfl, e1, f1, wa1⟩ := open_int Tryz.underlying3 (hval 1 3 v1 rfl rfl) h1
  clear hA0 hval0
  refine (two6 a0 a1 W (Laid.at_ (pow_of_laid hL))).mono fun e W' ⟨he, bel⟩ => ?_
  subst he
  subst e0
  subst e1
  exact ⟨_, rfl, _, _, _, [], _, [], hW', trodAll_mk1 (shut_bool Tryz.underlying4 _), (trodAll_cons_mk (Below.trod laidOut (by kernel_rfl) (of_decide_eq_true (by kernel_rfl)) k0 bel lt0) (trodAll_cons_mk (Below.trod laidOut (by kernel_rfl) (of_decide_eq_true (by kernel_rfl)) k1 bel lt1) trodAll_mk0)), rfl, bel.frame _, fun h => by cases h⟩

theorem over : Rows.CommuteTwoSaid :=
  OpenClaim.holds_of_wide 6 Tryz.f6 rfl rfl rfl rfl rfl rfl rfl ⟨rfl, rfl, rfl, rfl, rfl⟩ rfl rfl rfl rfl rfl (by kernel_rfl) Tryz.func6 (by kernel_rfl)
    (of_decide_eq_true (by kernel_rfl)) (by unfold Func.isWrapper; first | (rw [if_pos (by decide +kernel)]; kernel_rfl) | (rw [if_neg (by decide +kernel)]; exact ⟨rfl, rfl⟩))
    (fun os started H enc _ => lifted os started H enc)

theorem proved : Rows.CommuteTwoCardSaid :=
  Claim7.holds_tied_plain_at .later [] [.data, .data, .data] true (true, "0f5d4dacf9ce65686671c0f13a54115dc827369c2619eb707281170696ae9348") true
    over (fun _ h => by cases h) (by kernel_rfl) (fun _ h => by cases h) commuteTwo_row_tie rfl ⟨rfl, rfl⟩ (by kernel_rfl) rfl
    (fun f fn hf hfn => by
      obtain rfl : f = 6 := Option.some.inj ((show Tryz.prog.funcNamed "concourse/concourselaw24.CommuteTwo" = some 6 by kernel_rfl).symm.trans hf) |>.symm
      obtain rfl : fn = Tryz.f6 := (Option.some.inj (Tryz.func6.symm.trans hfn)).symm
      exact ⟨by kernel_rfl, fun j t ht => by
        rw [Tryz.params6] at ht
        have hm : t ∈ [3, 3] := by simpa using Array.mem_of_getElem? ht
        have hall : ([3, 3].all fun u => !Tryz.prog.wantsStandIn u) = true := by kernel_rfl
        exact (show Tryz.prog.wantsStandIn t = false by simpa using List.all_eq_true.1 hall t hm)⟩)
    (by kernel_rfl)
#print axioms proved
end Go.Proofs.YtjkenolgkkknaaaGreatDoor.commuteTwo
