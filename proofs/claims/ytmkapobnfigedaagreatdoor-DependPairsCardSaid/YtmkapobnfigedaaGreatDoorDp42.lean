/- Part of the proof of a law of chapter 15. Conditions: none. -/
import Derived.Test.YtmkapobnfigedaaGreatDoorDp41
set_option linter.unusedVariables false
set_option linter.unusedSimpArgs false
set_option maxRecDepth 100000
set_option maxHeartbeats 8000000
namespace Go.Proofs.YtmkapobnfigedaaGreatDoor
open Go.RowKit
theorem KRows.at_ {B : Nat} {w : World} {vo : Value} {kss : List (List PKey)} {kvs : List Value} (h : KRows B w vo kss kvs) : ∃ a cap, vo = .slice a kss.length cap ∧ ∀ wr, Below w.heap.size w wr → ∀ (q : Nat) (ks : List PKey), kss[q]? = some ks → ∃ b off kv, a = some ⟨b, off, none⟩ ∧ BlockLt b wr ∧ wr.cell? ⟨b, off + q, none⟩ = some kv ∧ RowAt wr 2 kv (ks.map PKey.cells) := by
 obtain ⟨h1, h2, h3⟩ := h
 obtain ⟨a, cap, rfl, hat⟩ := h1.row.at_
 rw [lM, h2]
 refine ⟨a, cap, rfl, fun wr hb q ks hq => ?_⟩
 obtain ⟨hql, _⟩ := gI.1 hq
 obtain ⟨kv, hkv⟩ : ∃ kv, kvs[q]? = some kv := ⟨_, gE (by omega)⟩
 obtain ⟨b, off, e, _, i2, hc⟩ := hat wr hb q [kv] (by rw [gM, hkv]; rfl)
 have := hc 0 _ rfl
 rw [Nat.mul_one, Nat.add_zero] at this
 exact ⟨b, off, kv, e, i2, this, (h3 q kv ks hkv hq).row.below hb (Nat.le_refl _)⟩
def touchT (kss : List (List PKey)) (e l : Nat) : Bool := match kss[e]?, kss[l]? with
 | some x, some y => touchM x y
 | _, _ => false
def closedM (S : PSt) (cs : List PCall) (inn : List Bool) : Bool := decide (inn.length = cs.length) && mayM S && closedE (touchT (rowM S cs)) inn
theorem range_all_drop (f : Nat → Bool) (n q : Nat) (h : q < n) : ((List.range n).drop q).all f = (f q && ((List.range n).drop (q + 1)).all f) := by
 rw [List.drop_eq_getElem_cons (by simpa using h), List.all_cons]
 simp
theorem range_all_end (f : Nat → Bool) (n q : Nat) (h : ¬ q < n) : ((List.range n).drop q).all f = true := by
 rw [List.drop_eq_nil_of_le (by simp; omega)]
 rfl
theorem closed26 (iv ov mv : Value) (S : PSt) (cs : List PCall) (inn : List Bool) (vc vi : Value) (w : World) (h : StRead w iv ov mv S) (hwf : S.wf) (hc : RowAt w 8 vc (cs.map PCall.cells)) (hcd : ∀ c ∈ cs, c.data.size ≤ 1000000000000000000) (hcl : cs.length ≤ 1000000000) (hi : RowAt w 1 vi (inn.map boolCells)) (hil : inn.length ≤ 1000000000) :
 Calls Tryz.prog 26 #[.agg #[iv, ov, mv], vc, vi] w fun e w' => e = .returned (.bool (closedM S cs inn)) ∧ Below w.heap.size w w' := by
 have hrow := fun (ww : World) (hb : Below w.heap.size w ww) => row54 iv ov mv S cs vc ww (h.below hb (Nat.le_refl _)) hwf (hc.below hb (Nat.le_refl _)) hcd hcl
 have hmay := fun (ww : World) (hb : Below w.heap.size w ww) => may37 iv ov mv S ww (h.below hb (Nat.le_refl _)) hwf
 have o1 := h.1.one
 have o2 := h.2.1.one
 have o3 : iv.oneCell' = true := by obtain ⟨_, _, _, h3, _⟩ := h; exact h3.one
 obtain ⟨ac, cc, rfl, -⟩ := hc
 obtain ⟨ai, ci, rfl, hati⟩ := hi.at_
 rw [lM] at hrow ⊢
 rw [lM]
 obtain ⟨R, hR⟩ : ∃ R, closedM S cs inn = R := ⟨_, rfl⟩
 rw [hR]
 have HR := Lib.hid hR
 have HI := Lib.hid hati
 unfold closedM at hR
 clear h hi hati
 by_cases hl : inn.length = cs.length
 · have hlb : ((inn.length : Int) != cs.length) = false := by simp; omega
   rw [decide_eq_true hl, Bool.true_and] at hR; rcases hm : mayM S with _ | _
   · rw [hm, Bool.false_and] at hR; subst hR; rw [hm] at hmay; clear hm hrow
     go_enter Tryz.func26, Tryz.ntmps26
     go_wp2_with (go_at_call 39; refine aT (hmay _ (bel _ _)) fun p => ?_)
     go_ret; exact ⟨rfl, bel _ _⟩
   · rw [hm, Bool.true_and] at hR; rw [hm] at hmay; have HC := Lib.hid hR; clear hm hR
     go_enter Tryz.func26, Tryz.ntmps26
     go_upto_region 4 with (first | (go_at_call 39; refine aT (hmay _ (bel _ _)) fun p => ?_) | (go_at_call 54; refine (hrow _ (bel _ _)).mono ?_; rintro e w3 ⟨hb3, vo, kvs, rfl, hk⟩; obtain ⟨ao, co, rfl, hato⟩ := hk.at_))
     have hrl := rowM_len cs S; generalize rowM S cs = kss at *; have hbw : Below w.heap.size w w3 := (bel w _).trans (hb3.mono (bel w _).size); have HO := Lib.hid hato; have HW := Lib.hid hbw; have hws := hbw.size; have hkn : (kss.length : Int) = cs.length := by omega
     clear hato hk hb3 hrow hmay hcd hbw; go_wp2_with fail
     go_loopw [25] (fun vi wr => ∃ q : Nat, vi = .int .i64 q ∧ q ≤ kss.length ∧ ((List.range inn.length).drop q).all (fun l => (List.range l).all fun e => !(inn.getD l false && !inn.getD e false && touchT kss e l)) = R ∧ Below w3.heap.size w3 wr) (fun vi _ => (kss.length - intOf vi).toNat)
     case atStart => exact ⟨0, rfl, by omega, by rw [← HC.out]; rfl, bel _ _⟩
     case round =>
      obtain ⟨q, rfl, hq, hre, hbr⟩ := hrel
      rename World => wo
      have iB : Bel w3 wo := ⟨hbr⟩
      by_cases hlt : q < kss.length
      · rw [range_all_drop _ _ _ (by omega)] at hre; obtain ⟨y, hy⟩ : ∃ y, inn[q]? = some y := ⟨_, gE (by omega)⟩
        obtain ⟨ky, hky⟩ : ∃ ky, kss[q]? = some ky := ⟨_, gE (by omega)⟩
        have hyd : inn.getD q false = y := by rw [List.getD_eq_getElem?_getD, hy]; rfl
        rw [hyd] at hre; have HRE := Lib.hid hre; have HY := Lib.hid (And.intro hy hky); clear hre hy hky hyd; go_wp2_with fail
        go_loopw [29] (fun vi w2 => ∃ k : Nat, vi = .int .i64 k ∧ k ≤ q ∧ ((List.range q).drop k).all (fun e => !(y && !inn.getD e false && touchT kss e q)) = (List.range q).all (fun e => !(y && !inn.getD e false && touchT kss e q)) ∧ Below wo.heap.size wo w2) (fun vi _ => (q - intOf vi).toNat)
        case atStart => exact ⟨0, rfl, by omega, rfl, bel _ _⟩
        case round =>
         obtain ⟨k, rfl, hk, hre2, hb2⟩ := hrel; have hb3r : Below w3.heap.size w3 wr := hbr.trans (hb2.mono hbr.size); have iB2 : Bel w3 wr := ⟨hb3r⟩
         have iB3 : Bel wo wr := ⟨hb2⟩
         by_cases hlk : k < q
         · rw [range_all_drop _ _ _ hlk] at hre2; obtain ⟨x, hx⟩ : ∃ x, inn[k]? = some x := ⟨_, gE (by omega)⟩
           obtain ⟨kx, hkx⟩ : ∃ kx, kss[k]? = some kx := ⟨_, gE (by omega)⟩
           have hxd : inn.getD k false = x := by rw [List.getD_eq_getElem?_getD, hx]; rfl
           rw [hxd] at hre2; have hT : touchT kss k q = touchM kx ky := by unfold touchT; rw [hkx, HY.out.2]
           rw [hT] at hre2; have hbwr : Below w.heap.size w wr := HW.out.trans (hb3r.mono hws); obtain ⟨bi, oi, rfl, iI0, iI, hci⟩ := HI.out wr hbwr q (boolCells y) (by rw [gM, HY.out.1]; rfl); have i0 := hci 0 _ rfl; obtain ⟨bi2, oi2, he2, -, -, hci2⟩ := HI.out wr hbwr k (boolCells x) (by rw [gM, hx]; rfl); have j0 := hci2 0 _ rfl; simp only [Option.some.injEq, Addr.mk.injEq, and_true] at he2; obtain ⟨rfl, rfl⟩ := he2; rw [Nat.mul_one, Nat.add_zero] at i0 j0; obtain ⟨bo, oo, kvy, rfl, iO, oy, hry⟩ := HO.out wr hb3r q ky HY.out.2; obtain ⟨bo2, oo2, kvx, heo, -, ox, hrx⟩ := HO.out wr hb3r k kx hkx; simp only [Option.some.injEq, Addr.mk.injEq, and_true] at heo; obtain ⟨rfl, rfl⟩ := heo; have htch := fun (ww : World) (hb : Below wr.heap.size wr ww) => touch17 kx ky kvx kvy ww (hrx.below hb (Nat.le_refl _)) (hry.below hb (Nat.le_refl _))
           have g1 : (q : Int) < inn.length := by omega
           have g2 : (k : Int) < inn.length := by omega
           have g3 : (k : Int) < kss.length := by omega
           obtain ⟨ax, nx, cx, rfl⟩ : ∃ a n c, kvx = .slice a n c := by obtain ⟨a, c, h, -⟩ := hrx; exact ⟨a, _, c, h⟩
           obtain ⟨ay, ny, cy, rfl⟩ : ∃ a n c, kvy = .slice a n c := by obtain ⟨a, c, h, -⟩ := hry; exact ⟨a, _, c, h⟩
           generalize touchM kx ky = t at *; have HRE2 := Lib.hid hre2; clear hre2 hx hkx hxd hT hci hci2 hrx hry; rcases y with _ | _
           · go_wp2_with fail; refine wp_region_quiet_rest (by kernel_rfl) (by kernel_rfl) ?_
             repeat
              first
               | go_big_quiet_skip
               | (go_big_quiet_want; go_big_quiet_op; first | go_big_quiet_on | (apply Exists.intro; refine ⟨fun _ => ?_, ?_⟩; (focus (fail)); go_big_quiet_on))
             refine QN fun p => ?_; go_wp2_with fail
             go_roundw
             case rel => exact ⟨k + 1, by go_num, by omega, by have := HRE2.out; simpa using this, bel _ _⟩
             case measure => simp [intOf]; omega
           rcases x with _ | _
           rotate_left
           · go_wp2_with fail; refine wp_region_quiet_rest (by kernel_rfl) (by kernel_rfl) ?_
             repeat
              first
               | go_big_quiet_skip
               | (go_big_quiet_want; go_big_quiet_op; first | go_big_quiet_on | (apply Exists.intro; refine ⟨fun _ => ?_, ?_⟩; (focus (fail)); go_big_quiet_on))
             refine QN fun p => ?_; go_wp2_with fail
             go_roundw
             case rel => exact ⟨k + 1, by go_num, by omega, by have := HRE2.out; simpa using this, bel _ _⟩
             case measure => simp [intOf]; omega
           rcases t with _ | _
           · go_wp2_with fail; refine wp_region_quiet_rest (by kernel_rfl) (by kernel_rfl) ?_
             repeat
              first
               | go_big_quiet_skip
               | (go_big_quiet_want; go_big_quiet_op; first | go_big_quiet_on | (apply Exists.intro; refine ⟨fun _ => ?_, ?_⟩; (focus ((first | refine cI (htch _ (bel _ _)) | refine cJ (htch _ (bel _ _))))); go_big_quiet_on))
             refine QN fun p => ?_; go_wp2_with fail
             go_roundw
             case rel => exact ⟨k + 1, by go_num, by omega, by have := HRE2.out; simpa using this, bel _ _⟩
             case measure => simp [intOf]; omega
           · go_wp2_with fail; refine wp_region_quiet_rest (by kernel_rfl) (by kernel_rfl) ?_
             repeat
              first
               | go_big_quiet_skip
               | (go_big_quiet_want; go_big_quiet_op; first | go_big_quiet_on | (apply Exists.intro; refine ⟨fun _ => ?_, ?_⟩; (focus ((first | refine cI (htch _ (bel _ _)) | refine cJ (htch _ (bel _ _))))); go_big_quiet_on))
             refine QN fun p => ?_; go_wp2_with fail; go_ret; exact ⟨ret_bool (by have h2 := HRE.out; rw [← HRE2.out] at h2; rw [← h2]; rfl), HW.out.trans ((bel w3 _).mono hws)⟩
         · rw [range_all_end _ _ _ hlk] at hre2; have HRE2 := Lib.hid hre2; clear hre2; go_wp2_with fail
           go_roundw
           case rel => exact ⟨q + 1, by go_num, by omega, by have := HRE.out; rw [← HRE2.out] at this; simpa using this, iB2.below⟩
           case measure => simp [intOf]; omega
      · rw [range_all_end _ _ _ (by omega)] at hre; have HRE := Lib.hid hre; clear hre; go_wp2_with fail; go_ret; exact ⟨ret_bool HRE.out, HW.out.trans ((bel w3 _).mono hws)⟩
 · have hlb : ((inn.length : Int) != cs.length) = true := by simp; omega
   rw [decide_eq_false hl, Bool.false_and, Bool.false_and] at hR; subst hR; clear hrow hmay
   go_enter Tryz.func26, Tryz.ntmps26
   go_wp2_with fail; go_ret; exact ⟨rfl, bel _ _⟩
end Go.Proofs.YtmkapobnfigedaaGreatDoor
