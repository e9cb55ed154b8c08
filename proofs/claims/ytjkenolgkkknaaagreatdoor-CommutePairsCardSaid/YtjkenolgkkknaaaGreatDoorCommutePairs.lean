/- The forty named pairs of calls commute and keep apart as the document says. Conditions: none. -/
import Derived.Test.YtjkenolgkkknaaaGreatDoorPp40
import Derived.Test.YtjkenolgkkknaaaGreatDoorPp42
import Derived.Test.YtjkenolgkkknaaaGreatDoorPp43
import Derived.Test.YtjkenolgkkknaaaGreatDoorPp44
import Derived.Test.YtjkenolgkkknaaaGreatDoorPp51
import Derived.Test.YtjkenolgkkknaaaGreatDoorCards
import Derived.Test.YtjkenolgkkknaaaGreatDoorTie
import Derived.ProofKit
import Derived.LaidMore
import Derived.OpenShut
import Derived.ChangeOld
import Derived.Lib.SmallJoins
import Derived.Lib.LaidTab
import Derived.Stop.LaidErr
import Derived.Stop.Joined
import Derived.MakeChecks
set_option linter.unusedVariables false
set_option linter.unusedSimpArgs false
set_option maxRecDepth 100000
set_option maxHeartbeats 8000000
namespace Go.Proofs.YtjkenolgkkknaaaGreatDoor
open Go.RowKit
theorem rows_all {W : Nat} (h : W < 40) : (List.range 16).all (rowP W) = true := by
 have : W = 0 ∨ W = 1 ∨ W = 2 ∨ W = 3 ∨ W = 4 ∨ W = 5 ∨ W = 6 ∨ W = 7 ∨ W = 8 ∨ W = 9 ∨ W = 10 ∨ W = 11 ∨ W = 12 ∨ W = 13 ∨ W = 14 ∨ W = 15 ∨ W = 16 ∨ W = 17 ∨ W = 18 ∨ W = 19 ∨ W = 20 ∨ W = 21 ∨ W = 22 ∨ W = 23 ∨ W = 24 ∨ W = 25 ∨ W = 26 ∨ W = 27 ∨ W = 28 ∨ W = 29 ∨ W = 30 ∨ W = 31 ∨ W = 32 ∨ W = 33 ∨ W = 34 ∨ W = 35 ∨ W = 36 ∨ W = 37 ∨ W = 38 ∨ W = 39 := by omega
 rcases this with rfl | rfl | rfl | rfl | rfl | rfl | rfl | rfl | rfl | rfl | rfl | rfl | rfl | rfl | rfl | rfl | rfl | rfl | rfl | rfl | rfl | rfl | rfl | rfl | rfl | rfl | rfl | rfl | rfl | rfl | rfl | rfl | rfl | rfl | rfl | rfl | rfl | rfl | rfl | rfl
 exact rows_0
 exact rows_1
 exact rows_2
 exact rows_3
 exact rows_4
 exact rows_5
 exact rows_6
 exact rows_7
 exact rows_8
 exact rows_9
 exact rows_10
 exact rows_11
 exact rows_12
 exact rows_13
 exact rows_14
 exact rows_15
 exact rows_16
 exact rows_17
 exact rows_18
 exact rows_19
 exact rows_20
 exact rows_21
 exact rows_22
 exact rows_23
 exact rows_24
 exact rows_25
 exact rows_26
 exact rows_27
 exact rows_28
 exact rows_29
 exact rows_30
 exact rows_31
 exact rows_32
 exact rows_33
 exact rows_34
 exact rows_35
 exact rows_36
 exact rows_37
 exact rows_38
 exact rows_39
theorem chk_pair {W n m : Nat} (hW : W < 40) (hn : n < 16) (hm : m < 16) (ho : pairOk W n m = true) : chkU s6 (pairX W n) (pairY W m) = true ∧ chkW s6 (pairX W n) (pairY W m) (pairWant W n m) = true := by
 have h1 := List.all_eq_true.1 (rows_all hW) n (List.mem_range.2 hn)
 unfold rowP at h1
 have h2 := List.all_eq_true.1 h1 m (List.mem_range.2 hm)
 rw [ho] at h2
 simpa only [Bool.not_true, Bool.false_or, Bool.and_eq_true] using h2
theorem three3 (which i k : Int) (w : World) (hp : Laid w.heap.size Pow10 w) : Calls Tryz.prog 3 #[.int .i64 which, .int .i64 i, .int .i64 k] w fun e w' => e = .returned (.bool true) ∧ Below w.heap.size w w' := by
 have haw : ∀ ww, Below w.heap.size w ww → Calls Tryz.prog 7 #[] ww _ := fun ww hb => awake7 ww ((hp.below hb).up hb.size)
 have hpr : ∀ ww, Calls Tryz.prog 8 #[.int .i64 which, .int .i64 i, .int .i64 k] ww fun e w' => ∃ (iv ov mv : Value) (x y : PCall) (t ok : Bool), e = .returned (.tuple #[.agg #[iv, ov, mv], .agg #[.int .i64 x.kind, .int .i64 x.core, .int .i64 x.fd, .int .i64 x.off, .int .i64 x.num, .string x.path, .string x.path2, .string x.data], .agg #[.int .i64 y.kind, .int .i64 y.core, .int .i64 y.fd, .int .i64 y.off, .int .i64 y.num, .string y.path, .string y.path2, .string y.data], .bool t, .bool ok]) ∧ (ok = true → chkU s6 x y = true ∧ chkW s6 x y t = true) ∧ Below ww.heap.size ww w' ∧ StRead w' iv ov mv s6 := fun ww => by
  obtain ⟨W, n, m, hW, hn, hm, hc⟩ := pair8g which i k ww; refine hc.mono ?_; rintro e w' ⟨iv, ov, mv, x, y, t, rfl, hxy, hb, hs⟩; refine ⟨iv, ov, mv, x, y, t, pairOk W n m, rfl, fun ho => ?_, hb, hs⟩; obtain ⟨rfl, rfl, rfl⟩ := hxy ho; exact chk_pair hW hn hm ho
 go_enter Tryz.func3, Tryz.ntmps3
 go_upto_region 4 with (first | (go_at_call 7; refine aT (haw _ (bel w _)) fun p => ?_) | (go_at_call 8; refine (hpr _).mono ?_; rintro e w1 ⟨iv, ov, mv, x, y, t, ok, rfl, hck, hb1, hst⟩; obtain ⟨ai, ni, ci, ao, no, co, am, nm, cm, rfl, rfl, rfl⟩ := hst.slices; have hbw := (bel w _).trans (hb1.mono (bel w _).size); have HST := Lib.hid (And.intro hst (And.intro hbw (And.intro hck (hp.below hbw)))); clear hst hb1 hbw hck))
 have a1 : ∀ ww, ok = true → Below w1.heap.size w1 ww → Calls Tryz.prog 9 #[.agg #[.slice ai ni ci, .slice ao no co, .slice am nm cm], .agg #[.int .i64 x.kind, .int .i64 x.core, .int .i64 x.fd, .int .i64 x.off, .int .i64 x.num, .string x.path, .string x.path2, .string x.data], .agg #[.int .i64 y.kind, .int .i64 y.core, .int .i64 y.fd, .int .i64 y.off, .int .i64 y.num, .string y.path, .string y.path2, .string y.data]] ww fun e w' => e = .returned (.bool true) ∧ Below ww.heap.size ww w' := fun ww ho hb => chkU_cm (HST.out.2.2.1 ho).1 _ _ _ ww (HST.out.1.below hb (Nat.le_refl _)) ((HST.out.2.2.2.below (hb.mono HST.out.2.1.size)).up (Nat.le_trans HST.out.2.1.size hb.size))
 have a2 : ∀ ww, ok = true → Below w1.heap.size w1 ww → Calls Tryz.prog 10 #[.agg #[.slice ai ni ci, .slice ao no co, .slice am nm cm], .agg #[.int .i64 x.kind, .int .i64 x.core, .int .i64 x.fd, .int .i64 x.off, .int .i64 x.num, .string x.path, .string x.path2, .string x.data], .agg #[.int .i64 y.kind, .int .i64 y.core, .int .i64 y.fd, .int .i64 y.off, .int .i64 y.num, .string y.path, .string y.path2, .string y.data]] ww fun e w' => e = .returned (.bool t) ∧ Below ww.heap.size ww w' := fun ww ho hb => chkW_ap (HST.out.2.2.1 ho).2 _ _ _ ww (HST.out.1.below hb (Nat.le_refl _))
 rcases ok with _ | _
 · clear a1 a2; go_wp2_with fail; go_ret; exact ⟨rfl, HST.out.2.1.trans ((bel w1 _).mono HST.out.2.1.size)⟩
 · have b1 := fun ww => a1 ww rfl
   have b2 := fun ww => a2 ww rfl
   clear a1 a2; rcases t with _ | _
   · go_wp2_with (first | (go_at_call 9; with_reducible refine aT (b1 _ (bel w1 _)) fun p => ?_) | (go_at_call 10; with_reducible refine aT (b2 _ (bel w1 _)) fun p => ?_))
     go_ret; exact ⟨rfl, HST.out.2.1.trans ((bel w1 _).mono HST.out.2.1.size)⟩
   · go_wp2_with (first | (go_at_call 9; with_reducible refine aT (b1 _ (bel w1 _)) fun p => ?_) | (go_at_call 10; with_reducible refine aT (b2 _ (bel w1 _)) fun p => ?_))
     go_ret; exact ⟨rfl, HST.out.2.1.trans ((bel w1 _).mono HST.out.2.1.size)⟩
end Go.Proofs.YtjkenolgkkknaaaGreatDoor
namespace Go.Proofs.YtjkenolgkkknaaaGreatDoor.commutePairs
open Go.ChangeShapes Go.WideShapes Go.ChangeAt Go.RowKit Go.Joins
theorem own : ownKnob Tryz.prog.godebug = none := by kernel_rfl
theorem laidOut : laidOutB Tryz.prog = true := by kernel_rfl
theorem gPow : Tryz.prog.globalNamed "internal/strconv.uint64pow10" = some 1 := by kernel_rfl
theorem tPow : (Tryz.prog.globals[1]?).map (·.type) = some 219 := by kernel_rfl
theorem cells101 : Tryz.prog.cellsOf 101 = 1 := by kernel_rfl
theorem cells219 : Tryz.prog.cellsOf 219 = 20 := by kernel_rfl
theorem under101 : Tryz.prog.underlying 101 = some (.int .u64) := by kernel_rfl
theorem under219 : Tryz.prog.underlying 219 = some (.array 20 101) := by kernel_rfl
theorem pow_of_laid {W : World} (h : laidMetH Tryz.prog Rows.commutePairsRow.laid W) : Pow10 W := by
 rw [MakeChecks.laidMetH_plain _ _ _ (by kernel_rfl)] at h
 have h2 : laidMet Tryz.prog [("internal/strconv.uint64pow10", Lib.tabData .u64 Lib.pow10Tab)] W := h.tail.tail
 exact Lib.tabIs_of_head gPow tPow under219 under101 cells101 cells219 h2
theorem door_met (os : Os) (args : Array Value) : laidMetH Tryz.prog Rows.commutePairsRow.laid ((World.doorLaid Tryz.prog 400 os).forCall (fun _ _ => 0) ⟨#[], args, []⟩).memory :=
 laidMetH_of_parts3 (fuel := 8) (laidMet_of_run' 8 (by kernel_rfl) (by kernel_rfl)) (by kernel_rfl) (by kernel_rfl)

theorem lifted (os : Os) (started : os.Started) (H : Type) (enc : TypeId × Value → H) :
 ReturnsInHanded {} Tryz.checked os 3 .any (fun w args => (Rows.commutePairsSpec.pre enc Tryz.prog Tryz.f3 [] false w args ∧ laidMetH Tryz.prog Rows.commutePairsRow.laid w) ∧ sizedMet enc Tryz.prog Tryz.f3 (OpenSpec.ofChange Rows.commutePairsSpec) false w args)
  (Rows.commutePairsSpec.post enc Tryz.prog Tryz.f3 false true false false) := by
 refine returnsInHanded_of_change_and (C := Tryz.checked) (X := fun w _ => laidMetH Tryz.prog Rows.commutePairsRow.laid w) (fun _ _ _ hh h => h.of_heap hh) own started (by kernel_rfl) Tryz.func3
  (ChangeSpec.witness_shaped (enc := enc) (C := Tryz.checked) (os := os) (X := fun w _ => laidMetH Tryz.prog Rows.commutePairsRow.laid w) false (World.doorLaid Tryz.prog 400 os) #[.int .i64 0, .int .i64 0, .int .i64 0] 8 rfl (World.shaped_of_RefB (by kernel_rfl) (by kernel_rfl)) (by kernel_rfl) (by kernel_rfl) (by kernel_rfl) (door_met os _)) ?_
 intro W base args ds gs before hval0 hW _ _ hL _
 have hval : ∀ (j : Nat) t v, Tryz.f3.params[j]? = some t → args[j]? = some v → Value.okWide Tryz.prog W .any base t v := hval0
 have hW' := hW
 obtain ⟨p, q, hA0, hV, rfl, hfz, hnd⟩ := hW
 have hA : DataW.TrodAll enc Tryz.prog W 0 (fun _ => true) true Tryz.f3.params.toList args.toList ds p := hA0
 rw [Tryz.params3] at hA hval
 obtain ⟨v0, vs0, d0, ds0, p0, q0, hargs, rfl, rfl, h0, r0⟩ := trodAll_cons hA
 obtain ⟨v1, vs1, d1, ds1, p1, q1, rfl, rfl, rfl, h1, r1⟩ := trodAll_cons r0
 obtain ⟨v2, vs2, d2, ds2, p2, q2, rfl, rfl, rfl, h2, r2⟩ := trodAll_cons r1
 obtain ⟨rfl, rfl, rfl⟩ := trodAll_nil r2
 obtain rfl : args = #[v0, v1, v2] := by cases args; simp_all
 obtain ⟨rfl, rfl⟩ := trodVars_none hV
 have k0 := h0
 have lt0 : ∀ x ∈ p0, x.block < W.heap.size := by obtain ⟨m, hm⟩ := k0; exact DataW.trod_lt m _ _ _ hm
 obtain ⟨a0, rfl, e0, f0, wa0⟩ := open_int Tryz.underlying3 (hval 0 3 v0 rfl rfl) h0
 have k1 := h1
 have lt1 : ∀ x ∈ p1, x.block < W.heap.size := by obtain ⟨m, hm⟩ := k1; exact DataW.trod_lt m _ _ _ hm
 obtain ⟨a1, rfl, e1, f1, wa1⟩ := open_int Tryz.underlying3 (hval 1 3 v1 rfl rfl) h1
 have k2 := h2
 have lt2 : ∀ x ∈ p2, x.block < W.heap.size := by obtain ⟨m, hm⟩ := k2; exact DataW.trod_lt m _ _ _ hm
 obtain ⟨a2, rfl, e2, f2, wa2⟩ := open_int Tryz.underlying3 (hval 2 3 v2 rfl rfl) h2
 clear hA0 hval0
 refine (three3 a0 a1 a2 W (Laid.at_ (pow_of_laid hL))).mono fun e W' ⟨he, bel⟩ => ?_
 subst he
 subst e0
 subst e1
 subst e2
 exact ⟨_, rfl, _, _, _, [], _, [], hW', trodAll_mk1 (shut_bool Tryz.underlying4 _), (trodAll_cons_mk (Below.trod laidOut (by kernel_rfl) (of_decide_eq_true (by kernel_rfl)) k0 bel lt0) (trodAll_cons_mk (Below.trod laidOut (by kernel_rfl) (of_decide_eq_true (by kernel_rfl)) k1 bel lt1) (trodAll_cons_mk (Below.trod laidOut (by kernel_rfl) (of_decide_eq_true (by kernel_rfl)) k2 bel lt2) trodAll_mk0))), rfl, bel.frame _, fun h => by cases h⟩

theorem over : Rows.CommutePairsSaid :=
 OpenClaim.holds_of_wide 3 Tryz.f3 rfl rfl rfl rfl rfl rfl rfl ⟨rfl, rfl, rfl, rfl, rfl⟩ rfl rfl rfl rfl rfl (by kernel_rfl) Tryz.func3 (by kernel_rfl)
  (of_decide_eq_true (by kernel_rfl)) (by unfold Func.isWrapper; first | (rw [if_pos (by decide +kernel)]; kernel_rfl) | (rw [if_neg (by decide +kernel)]; exact ⟨rfl, rfl⟩))
  (fun os started H enc _ => lifted os started H enc)

theorem proved : Rows.CommutePairsCardSaid :=
 Claim7.holds_tied_plain_at .later [] [.data, .data, .data] true (true, "0f5d4dacf9ce65686671c0f13a54115dc827369c2619eb707281170696ae9348") true
  over (fun _ h => by cases h) (by kernel_rfl) (fun _ h => by cases h) commutePairs_row_tie rfl ⟨rfl, rfl⟩ (by kernel_rfl) rfl
  (fun f fn hf hfn => by
   obtain rfl : f = 3 := Option.some.inj ((show Tryz.prog.funcNamed "concourse/concourselaw24.CommutePairs" = some 3 by kernel_rfl).symm.trans hf) |>.symm; obtain rfl : fn = Tryz.f3 := (Option.some.inj (Tryz.func3.symm.trans hfn)).symm; exact ⟨by kernel_rfl, fun j t ht => by
    rw [Tryz.params3] at ht; have hm : t ∈ [3, 3, 3] := by simpa using Array.mem_of_getElem? ht
    have hall : ([3, 3, 3].all fun u => !Tryz.prog.wantsStandIn u) = true := by kernel_rfl
    exact (show Tryz.prog.wantsStandIn t = false by simpa using List.all_eq_true.1 hall t hm)⟩)
  (by kernel_rfl)
#print axioms proved
end Go.Proofs.YtjkenolgkkknaaaGreatDoor.commutePairs
