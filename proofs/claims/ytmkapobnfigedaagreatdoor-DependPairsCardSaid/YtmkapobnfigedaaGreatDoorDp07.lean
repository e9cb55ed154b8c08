/- Part of the proof of a law of chapter 15. Conditions: none. -/
import Derived.Test.YtmkapobnfigedaaGreatDoorDp05
set_option linter.unusedVariables false
set_option linter.unusedSimpArgs false
set_option maxRecDepth 100000
set_option maxHeartbeats 8000000
namespace Go.Proofs.YtmkapobnfigedaaGreatDoor
open Go.RowKit
theorem index45f (zs : List PDesc) (v : Value) (l0 : Value) (p : PDesc → Bool) (w : World) (h : RowAt w 3 v (zs.map PDesc.cells)) (hlen : zs.length ≤ 1000000000)
 (hg : ∀ (z : PDesc) (ww : World), z ∈ zs → Below w.heap.size w ww → Calls Tryz.prog 180 #[.agg #[.int .i64 z.core, .int .i64 z.fd, .int .i64 z.num], l0] ww fun e w' => e = .returned (.bool (p z)) ∧ Below ww.heap.size ww w') :
 Calls Tryz.prog 136 #[v, .func (.func 180) #[] #[l0]] w fun e w' => e = .returned (.int .i64 (idxM p zs)) ∧ Below w.heap.size w w' := by
 obtain ⟨a, cap, rfl, hat⟩ := h.at_
 rw [lM]
 have HA := Lib.hid hat
 clear hat h
 unfold idxM
 obtain ⟨R, hR⟩ : ∃ R, idxFrom p zs 0 = R := ⟨_, rfl⟩
 rw [hR]
 have HR := Lib.hid hR
 clear hR
 go_enter Tryz.func136, Tryz.ntmps136
 go_wp2_with fail
 go_loopw [8] (fun i wr => ∃ (q : Nat), i = .int .i64 q ∧ q ≤ zs.length ∧ idxFrom p (zs.drop q) q = R ∧ Below w.heap.size w wr) (fun i _ => (zs.length - intOf i).toNat)
 case atStart => exact ⟨0, rfl, by omega, HR.out, bel _ _⟩
 case round =>
  obtain ⟨q, rfl, hq, hre, hb⟩ := hrel; have iB : Bel w wr := ⟨hb⟩
  by_cases hlt : q < zs.length
  · obtain ⟨z, hz⟩ : ∃ z, zs[q]? = some z := ⟨_, gE hlt⟩
    obtain ⟨b, off, rfl, iG0, iG, hc⟩ := HA.out wr hb q (PDesc.cells z) (by rw [gM, hz]; rfl); have c0 := hc 0 _ rfl; have c1 := hc 1 _ rfl; have c2 := hc 2 _ rfl; rw [idxFrom_drop p zs q z hz] at hre; have hcall : ∀ ww, Below w.heap.size w ww → Calls Tryz.prog 180 #[.agg #[.int .i64 z.core, .int .i64 z.fd, .int .i64 z.num], l0] ww fun e w' => e = .returned (.bool (p z)) ∧ Below ww.heap.size ww w' := fun ww hww => hg z ww (mG hz) hww
    have HZ := Lib.hid (And.intro hz hre); clear hc hz hre hg; rw [Nat.add_zero] at c0; generalize hpz : p z = t at hcall HZ; rcases t with _ | _
    · go_wp2_with (go_at_call 180; refine aT (hcall _ (bel _ _)) fun p => ?_)
      go_roundw
      case rel => exact ⟨q + 1, by go_num, by omega, by have := HZ.out.2; simpa using this, bel _ _⟩
      case measure => simp [intOf]; omega
    · have hv : R = q := by have := HZ.out.2; simpa using this.symm
      subst hv; go_wp2_with (go_at_call 180; refine aT (hcall _ (bel _ _)) fun p => ?_)
      exact bodyPost_ret (v := .int .i64 q) (by simp [results, Tryz.results136, go_sem]) rfl ⟨rfl, bel _ _⟩
  · rw [idxFrom_end p zs q hlt] at hre; subst hre; clear hg; go_wp2_with fail; exact bodyPost_ret (v := .int .i64 (-1)) (by simp [results, Tryz.results136, go_sem]) rfl ⟨rfl, bel _ _⟩
def isFd (c : PCall) (x : PDesc) : Bool := (x.core == c.core) && (x.fd == c.fd)
theorem file124 (d b : Nat) (S : PSt) (c : PCall) (x : PDesc) (bx : Nat) (w : World) (h : DR w d b S c) (ib : BlockLt bx w) (hx : w.cell? ⟨bx, 0, none⟩ = some (.pointer (some ⟨d, 0, none⟩))) :
 Calls Tryz.prog 180 #[.agg #[.int .i64 x.core, .int .i64 x.fd, .int .i64 x.num], .pointer (some ⟨bx, 0, none⟩)] w fun e w' => e = .returned (.bool (isFd c x)) ∧ Below w.heap.size w w' := by
 have iD : BlockLt d w := ⟨h.lt⟩
 have c1 := h.dc 1 _ rfl
 have c2 := h.dc 2 _ rfl
 unfold isFd
 clear h
 generalize hb1 : (x.core == c.core) = b1
 rcases b1 with _ | _
 · go_enter Tryz.func180, Tryz.ntmps180
   go_wp2_with fail; refine wp_region_quiet_rest (by kernel_rfl) (by kernel_rfl) ?_
   repeat
    first
     | go_big_quiet_skip
     | (go_big_quiet_want; go_big_quiet_op; first | go_big_quiet_on | (apply Exists.intro; refine ⟨fun _ => ?_, ?_⟩; (focus (fail)); go_big_quiet_on))
   refine QN fun p => ?_; go_wp2_with fail; go_ret; exact ⟨rfl, bel _ _⟩
 · go_enter Tryz.func180, Tryz.ntmps180
   go_wp2_with fail; refine wp_region_quiet_rest (by kernel_rfl) (by kernel_rfl) ?_
   repeat
    first
     | go_big_quiet_skip
     | (go_big_quiet_want; go_big_quiet_op; first | go_big_quiet_on | (apply Exists.intro; refine ⟨fun _ => ?_, ?_⟩; (focus (fail)); go_big_quiet_on))
   refine QN fun p => ?_; go_wp2_with fail; go_ret; exact ⟨by first | rfl | simp_all, bel _ _⟩
def FileOut (w : World) (b : Nat) (S : PSt) (i : Int) (e : Ending) : Prop :=
 (0 ≤ i ∧ ∃ x bi off cap, S.op[i.toNat]? = some x ∧ w.cell? ⟨b, 0, none⟩ = some (.slice (some ⟨bi, off, none⟩) S.ins.length cap) ∧ e = .returned (.tuple #[.pointer (some ⟨bi, off + (findN S.nums x.num).toNat * 4, none⟩), .int .i64 i])) ∨ (i < 0 ∧ e = thrown 4)
theorem file73 (d b : Nat) (S : PSt) (c : PCall) (w : World) (h : DR w d b S c) (hf : Fine S) :
 Calls Tryz.prog 143 #[.pointer (some ⟨d, 0, none⟩)] w fun e w' => Below w.heap.size w w' ∧ FileOut w b S (idxM (isFd c) S.op) e := by
 have hsub : ∀ ww bx, Below w.heap.size w ww → BlockLt bx ww → ww.cell? ⟨bx, 0, none⟩ = some (.pointer (some ⟨d, 0, none⟩)) → ∀ ov, RowAt ww 3 ov (S.op.map PDesc.cells) → Calls Tryz.prog 136 #[ov, .func (.func 180) #[] #[.pointer (some ⟨bx, 0, none⟩)]] ww fun e w' => e = .returned (.int .i64 (idxM (isFd c) S.op)) ∧ Below ww.heap.size ww w' :=
  fun ww bx hb ib hx ov hv => index45f S.op ov (.pointer (some ⟨bx, 0, none⟩)) (isFd c) ww hv hf.wf.2.1 (fun z wz _ hz => file124 d b S c z bx wz (h.below (hb.trans (hz.mono hb.size)) (Nat.le_refl _)) ⟨by have := ib.lt; have := hz.size; omega⟩ ((hz.cell (p := ⟨bx, 0, none⟩) ib.lt).trans hx))
 have hfind : ∀ ww, Below w.heap.size w ww → ∀ n, Calls Tryz.prog 102 #[.pointer (some ⟨b, 0, none⟩), .int .i64 n] ww fun e w' => e = .returned (.int .i64 (findN S.nums n)) ∧ Below ww.heap.size ww w' :=
  fun ww hb n => find_sp b S n ww (h.sp.below hb (Nat.le_refl _)) hf.wf
 have iD : BlockLt d w := ⟨h.lt⟩
 have d0 := h.d0
 obtain ⟨hl, iv, ov, mv, c0, c1, c2, hr⟩ := h.sp
 have iL : BlockLt b w := ⟨hl⟩
 have hrow : ∀ ww, Below w.heap.size w ww → RowAt ww 3 ov (S.op.map PDesc.cells) := fun ww hb => hr.1.below hb (Nat.le_refl _)
 have hidx : ∀ ww bx, Below w.heap.size w ww → BlockLt bx ww → ww.cell? ⟨bx, 0, none⟩ = some (.pointer (some ⟨d, 0, none⟩)) → Calls Tryz.prog 136 #[ov, .func (.func 180) #[] #[.pointer (some ⟨bx, 0, none⟩)]] ww _ := fun ww bx hb i hx => hsub ww bx hb i hx ov (hrow ww hb)
 obtain ⟨ai, capi, rfl, hati⟩ := hr.ins_at2
 have hpos := hf.pos
 obtain ⟨bi, offi, ev, rfl, -⟩ := hati 0 S.ins[0] (gE hpos)
 obtain ⟨ao, co, rfl, hato⟩ := hr.1.at_
 rw [lM] at c1 hidx
 have hib := idxM_bounds (isFd c) S.op
 generalize idxM (isFd c) S.op = I at hidx hib ⊢
 have HH := Lib.hid (And.intro hati hato)
 have HC0 := Lib.hid c0
 have hlen := hf.wf.2.1
 have hlin := hf.wf.1
 have HF := Lib.hid hf
 clear hsub hrow hr hati hato h hf c2
 by_cases hI : I < 0
 · have hIb : decide (I < 0) = true := decide_eq_true hI
   go_enter Tryz.func143, Tryz.ntmps143
   go_wp2_with (first | (go_at_call 136; refine aT (hidx _ _ (bel _ _) inferInstance (by go_simp)) fun p => ?_) | (go_at_call 172; refine aE (throw_yes _ _) fun p => ?_))
   exact ⟨rfl, bel w _, .inr ⟨hI, rfl⟩⟩
 · have hIb : decide (I < 0) = false := decide_eq_false hI; obtain ⟨k, rfl⟩ : ∃ k : Nat, I = k := ⟨I.toNat, by omega⟩
   have hkl : k < S.op.length := by omega
   obtain ⟨x, hx⟩ : ∃ x, S.op[k]? = some x := ⟨_, gE hkl⟩
   obtain ⟨bo, offo, rfl, iO0, -, hco⟩ := HH.out.2 w (bel _ _) k x.cells (by rw [gM, hx]; rfl); have o2 := hco 2 _ rfl; have hfx := HF.out.opens x (mG hx); have hfb := findN_bounds S.nums x.num; have hnl : S.nums.length = S.ins.length := by unfold PSt.nums; rw [lM]
   have hfn : ∀ ww, Below w.heap.size w ww → Calls Tryz.prog 102 #[.pointer (some ⟨b, 0, none⟩), .int .i64 x.num] ww _ := fun ww hb => hfind ww hb x.num
   generalize hfv : findN S.nums x.num = fv at hfn hfx hfb; obtain ⟨f, rfl⟩ : ∃ f : Nat, fv = f := ⟨fv.toNat, by omega⟩
   have hfl : (f : Int) < S.ins.length := by omega
   have hklI : (k : Int) < S.op.length := by omega
   have HX := Lib.hid (And.intro hx hfv); clear hx hfv hco hfind hfb hnl hfx
   go_enter Tryz.func143, Tryz.ntmps143
   go_wp2_with (first | (go_at_call 136; refine aT (hidx _ _ (bel _ _) inferInstance (by go_simp)) fun p => ?_) | (go_at_call 172; refine aT (throw_no _ _) fun p => ?_))
   refine wp_region_quiet_rest (by kernel_rfl) (by kernel_rfl) ?_
   repeat
    first
     | go_big_quiet_skip
     | (go_big_quiet_want; go_big_quiet_op; first | go_big_quiet_on | (apply Exists.intro; refine ⟨fun _ => ?_, ?_⟩; (focus ((first | refine cI (hfn _ (bel _ _)) | refine cJ (hfn _ (bel _ _))))); go_big_quiet_on))
   refine QN fun p => ?_; go_wp2_with fail; refine bodyPost_ret (v := .tuple #[.pointer (some ⟨bi, offi + f * 4, none⟩), .int .i64 k]) (by simp [results, Tryz.results143, go_sem]) rfl ⟨bel w _, .inl ⟨by omega, x, bi, offi, capi, HX.out.1, HC0.out, ?_⟩⟩; rw [HX.out.2]; rfl
end Go.Proofs.YtmkapobnfigedaaGreatDoor
