/- The statement on DependLeast, where what it reads is of bulk at most 1048576: whatever comes in, the law answers true and leaves its arguments as they were; the tables that the program's own text lays are tied to it. Conditions: none. -/
import Derived.Test.YtmkapobnfigedaaGreatDoorEl51
import Derived.Test.YtmkapobnfigedaaGreatDoorEl32
import Derived.Test.YtmkapobnfigedaaGreatDoorCards
import Derived.Test.YtmkapobnfigedaaGreatDoorTie
import Derived.ProofKit
import Derived.LaidMore
import Derived.OpenShut
import Derived.ChangeOld
import Derived.Lib.SmallJoins
import Derived.Lib.LaidTab
import Derived.Stop.LaidErr
import Derived.Stop.Joined
import Derived.MakeChecks
import Derived.Deep.DeepHandedRow
set_option linter.unusedVariables false
namespace Go.Proofs.YtmkapobnfigedaaGreatDoor.dependLeast
open Go.ChangeShapes Go.WideShapes Go.ChangeAt Go.RowKit Go.Joins
theorem own : ownKnob Tryz.prog.godebug = none := by kernel_rfl
theorem laidOut : laidOutB Tryz.prog = true := by kernel_rfl
theorem door_met (os : Os) (args : Array Value) : laidMetH Tryz.prog Rows.dependLeastUptoRow.laid ((World.doorLaid Tryz.prog 400 os).forCall (fun _ _ => 0) ⟨#[], args, []⟩).memory :=
 laidMetH_of_parts3 (fuel := 8) (laidMet_of_run' 8 (by kernel_rfl) (by kernel_rfl)) (by kernel_rfl) (by kernel_rfl)
theorem wf_of {S : PSt} {n : Nat} (h1 : S.nums64) (h2 : S.lens n) (hn : n ≤ 1048576) : S.wf := by
 obtain ⟨a1, a2, a3⟩ := h1
 obtain ⟨b1, b2, b3, b4⟩ := h2
 exact ⟨by omega, by omega, by omega, fun x hx => ⟨(a1 x hx).1, by have := b4 x hx; omega, (a1 x hx).2⟩, a2, a3⟩
set_option maxRecDepth 100000 in
theorem contract (H : Type) (enc : TypeId × Value → H) (W : World) (base : Nat) (args : Array Value) (ds gs : List (DataW H)) (before : List MemPlace)
 (hval0 : ∀ (j : Nat) t v, Tryz.f5.params[j]? = some t → args[j]? = some v → Value.okWide Tryz.prog W .any base t v)
 (hW : DataW.Whole enc Tryz.prog Tryz.f5.params.toList Rows.dependLeastSpec.vars false W args.toList ds gs before) (hk : Rows.uptoSmall H (ds ++ gs) = true) :
 Calls Tryz.prog 5 args W fun e W' => ∃ v, e = .returned v ∧ Rows.dependLeastSpec.post enc Tryz.prog Tryz.f5 false true false false W args v W' := by
 have hval : ∀ (j : Nat) t v, Tryz.f5.params[j]? = some t → args[j]? = some v → Value.okWide Tryz.prog W .any base t v := hval0
 have hW' := hW
 obtain ⟨p, q, hA0, hV, rfl, hfz, hnd⟩ := hW
 have hA : DataW.TrodAll enc Tryz.prog W 0 (fun _ => true) true Tryz.f5.params.toList args.toList ds p := hA0
 rw [Tryz.params5] at hA hval
 obtain ⟨v0, vs0, d0, ds0, p0, q0, hargs, rfl, rfl, h0, r0⟩ := trodAll_cons hA
 obtain ⟨v1, vs1, d1, ds1, p1, q1, rfl, rfl, rfl, h1, r1⟩ := trodAll_cons r0
 obtain ⟨v2, vs2, d2, ds2, p2, q2, rfl, rfl, rfl, h2, r2⟩ := trodAll_cons r1
 obtain ⟨rfl, rfl, rfl⟩ := trodAll_nil r2
 obtain rfl : args = #[v0, v1, v2] := by cases args; simp_all
 obtain ⟨rfl, rfl⟩ := trodVars_none hV
 have hb := of_decide_eq_true hk
 have hb0 : Rows.uptoBulk d0 ≤ 1048576 := Nat.le_trans (bulk_part (by simp)) hb
 have k0 := h0
 have lt0 : ∀ x ∈ p0, x.block < W.heap.size := by obtain ⟨m, hm⟩ := k0; exact DataW.trod_lt m _ _ _ hm
 have hb1 : Rows.uptoBulk d1 ≤ 1048576 := Nat.le_trans (bulk_part (by simp)) hb
 have k1 := h1
 have lt1 : ∀ x ∈ p1, x.block < W.heap.size := by obtain ⟨m, hm⟩ := k1; exact DataW.trod_lt m _ _ _ hm
 have hb2 : Rows.uptoBulk d2 ≤ 1048576 := Nat.le_trans (bulk_part (by simp)) hb
 have k2 := h2
 have lt2 : ∀ x ∈ p2, x.block < W.heap.size := by obtain ⟨m, hm⟩ := k2; exact DataW.trod_lt m _ _ _ hm
 obtain ⟨c0, rfl, s0⟩ := okWide_struct Tryz.underlying26 (hval 0 26 v0 rfl rfl)
 obtain ⟨iv0, ov0, mv0, S0, e0, hr0, hwf0⟩ : ∃ (iv ov mv : Value) (S : PSt), c0.toList = [iv, ov, mv] ∧ StRead W iv ov mv S ∧ S.wf := by
  obtain ⟨fuel, hf⟩ := h0
  obtain ⟨iv, ov, mv, S, e, hr, hn, hl⟩ := open_state (by simpa [Value.cells] using hf)
  exact ⟨iv, ov, mv, S, e, hr, wf_of hn hl hb0⟩
 obtain rfl : c0 = #[iv0, ov0, mv0] := by cases c0; simp only at e0; rw [e0]
 obtain ⟨a1, len1, cap1, rfl⟩ := okWide_slice Tryz.underlying38 (hval 1 38 v1 rfl rfl)
 obtain ⟨z1, hr1, hg1, hl1⟩ : ∃ zs : List PCall, RowAt W 8 (.slice a1 len1 cap1) (zs.map PCall.cells) ∧ (∀ z ∈ zs, z.wf ∧ z.path.size ≤ maxLen ∧ z.path2.size ≤ maxLen ∧ z.data.size ≤ maxLen ∧ z.data.size ≤ 1048576) ∧ zs.length ≤ 1048576 := by
  obtain ⟨fuel, hf⟩ := h1
  obtain ⟨v, zs, e, hr, hg, hl⟩ := open_callsb (by simpa [Value.cells] using hf)
  simp only [List.cons.injEq, and_true] at e
  rw [← e] at hr
  exact ⟨zs, hr, fun z hz => ⟨(hg z hz).1, (hg z hz).2.1, (hg z hz).2.2.1, (hg z hz).2.2.2.1, Nat.le_trans (hg z hz).2.2.2.2 hb1⟩, Nat.le_trans hl hb1⟩
 obtain ⟨a2, len2, cap2, rfl⟩ := okWide_slice Tryz.underlying24 (hval 2 24 v2 rfl rfl)
 obtain ⟨z2, hr2, hg2, hl2⟩ : ∃ zs : List Int, RowAt W 1 (.slice a2 len2 cap2) (zs.map intCells) ∧ (∀ z ∈ zs, I64 z) ∧ zs.length ≤ 1048576 := by
  obtain ⟨fuel, hf⟩ := h2
  obtain ⟨v, zs, e, hr, hg, hl⟩ := open_introw (by simpa [Value.cells] using hf)
  simp only [List.cons.injEq, and_true] at e
  rw [← e] at hr
  exact ⟨zs, hr, hg, Nat.le_trans hl hb2⟩
 clear hA0 hval0
 have hwalk := least5 iv0 ov0 mv0 S0 z1 z2 _ _ W hr0 hwf0 hr1 (fun c hc => Nat.le_trans (hg1 c hc).2.2.2.2 (by omega)) (by omega) hr2 (by omega) hg2
 refine hwalk.mono fun e W' ⟨he, bel⟩ => ?_
 subst he
 exact ⟨_, rfl, _, _, _, [], _, [], hW', trodAll_mk1 (shut_bool Tryz.underlying4 _), (trodAll_cons_mk (Below.trod laidOut (by kernel_rfl) (of_decide_eq_true (by kernel_rfl)) k0 bel lt0) (trodAll_cons_mk (Below.trod laidOut (by kernel_rfl) (of_decide_eq_true (by kernel_rfl)) k1 bel lt1) (trodAll_cons_mk (Below.trod laidOut (by kernel_rfl) (of_decide_eq_true (by kernel_rfl)) k2 bel lt2) trodAll_mk0))), rfl, bel.frame _, fun h => by cases h⟩
def zArgs : Array Value := #[.agg #[.slice none 0 0, .slice none 0 0, .slice none 0 0], .slice none 0 0, .slice none 0 0]
theorem reads (os : Os) {H : Type} (enc : TypeId × Value → H) : ∃ places, DataW.whole enc Tryz.prog ((World.doorLaid Tryz.prog 400 os).forCall (fun _ _ => 0) ⟨#[], zArgs, []⟩).memory Tryz.f5.params.toList Rows.dependLeastSpec.vars false zArgs.toList 8 = some ([.agg [.nil, .nil, .nil], .nil, .nil], [], places) :=
 ⟨[], by kernel_rfl⟩
set_option maxRecDepth 100000 in
theorem lifted (os : Os) (started : os.Started) (H : Type) (enc : TypeId × Value → H) (F : Stop.Interp) :
 ReturnsInHanded {} Tryz.checked os 5 .any ((Rows.OpenSpec.upto Rows.dependLeastSpec).preRow enc Tryz.prog Tryz.f5 Rows.dependLeastUptoRow.domain false Rows.dependLeastUptoRow.laid) (((Rows.OpenSpec.upto Rows.dependLeastSpec).at F).post enc Tryz.prog Tryz.f5 false true false false) := by
 obtain ⟨places, hx⟩ := reads os enc
 have hok : Input.okWideB Tryz.prog ((World.doorLaid Tryz.prog 400 os).forCall (fun _ _ => 0) ⟨#[], zArgs, []⟩) 5 ⟨#[], zArgs, []⟩ = true := by kernel_rfl
 refine returnsInHanded_of_row (C := Tryz.checked) (s := Rows.OpenSpec.upto Rows.dependLeastSpec) own started (by kernel_rfl) Tryz.func5
  ⟨World.doorLaid Tryz.prog 400 os, fun _ _ => 0, ⟨#[], zArgs, []⟩, rfl, World.shaped_of_RefB (by kernel_rfl) (by kernel_rfl), (Input.okWide_of_okWideB (base := 0) hok).1, (Input.okWide_of_okWideB hok).2,
   OpenSpec.preRow_of_cond 8 hx (by kernel_rfl) (fun k hk => by cases hk; kernel_rfl) (by kernel_rfl) (door_met os _), by
    simp only [Assume.holds]
    exact ⟨by simp, by simp, fun _ => Modest.zero, by simp, by simp⟩⟩ ?_
 intro W base args ds gs before hval hW _ hcond _ hL _ _
 exact contract H enc W base args ds gs before hval hW (hcond _ rfl)
theorem over : Rows.DependLeastUptoSaid :=
 OpenClaim.holds_of_cond 5 Tryz.f5 rfl rfl rfl rfl rfl rfl rfl ⟨rfl, rfl, rfl, rfl, rfl⟩ rfl rfl rfl rfl rfl (by kernel_rfl) Tryz.func5 (by kernel_rfl)
  (of_decide_eq_true (by kernel_rfl)) (by unfold Func.isWrapper; first | (rw [if_pos (by decide +kernel)]; kernel_rfl) | (rw [if_neg (by decide +kernel)]; exact ⟨rfl, rfl⟩))
  (fun os started H enc _ F => by rw [OpenClaim.pre_eq_preRow]; exact lifted os started H enc F)
theorem proved : Rows.DependLeastUptoCardSaid :=
 Claim7.holds_tied_plain_at .later [] [.data, .data, .data] true (true, "e32a06bcfa5a7c56b57ddf26a6a7d3124450f49cd47f9d7744e2e49476066dbf") true
  over (fun _ h => by cases h) (by kernel_rfl) (fun _ h => by cases h) dependLeastUpto_row_tie rfl ⟨rfl, rfl⟩ (by kernel_rfl) rfl
  (fun f fn hf hfn => by
   obtain rfl : f = 5 := Option.some.inj ((show Tryz.prog.funcNamed "concourse/concourselaw15.DependLeast" = some 5 by kernel_rfl).symm.trans hf) |>.symm
   obtain rfl : fn = Tryz.f5 := (Option.some.inj (Tryz.func5.symm.trans hfn)).symm
   exact ⟨by kernel_rfl, fun j t ht => by
    rw [Tryz.params5] at ht
    have hm : t ∈ [26, 38, 24] := by simpa using Array.mem_of_getElem? ht
    have hall : ([26, 38, 24].all fun u => !Tryz.prog.wantsStandIn u) = true := by kernel_rfl
    exact (show Tryz.prog.wantsStandIn t = false by simpa using List.all_eq_true.1 hall t hm)⟩)
  (by kernel_rfl)
#print axioms proved
end Go.Proofs.YtmkapobnfigedaaGreatDoor.dependLeast
