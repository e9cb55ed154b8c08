/- May of the model, the first part: what cores made, numbers. Conditions: none. -/
import Derived.Test.YtmkapobnfigedaaGreatDoorEl08
set_option linter.unusedVariables false
set_option linter.unusedSimpArgs false
namespace Go.Proofs.YtmkapobnfigedaaGreatDoor
open Go.RowKit
def SP (w : World) (b : Nat) (S : PSt) : Prop := b < w.heap.size ∧ ∃ iv ov mv, w.cell? ⟨b, 0, none⟩ = some iv ∧ w.cell? ⟨b, 1, none⟩ = some ov ∧ w.cell? ⟨b, 2, none⟩ = some mv ∧ StRead w iv ov mv S
theorem SP.below {w w' : World} {b B : Nat} {S : PSt} (h : SP w b S) (hb : Below B w w') (hB : w.heap.size ≤ B) : SP w' b S := by
 obtain ⟨hl, iv, ov, mv, c0, c1, c2, hr⟩ := h
 have hs := hb.size
 have key : ∀ o v, w.cell? ⟨b, o, none⟩ = some v → w'.cell? ⟨b, o, none⟩ = some v := fun o v hv => (hb.cell (p := ⟨b, o, none⟩) (by show b < B; omega)).trans hv
 exact ⟨by omega, iv, ov, mv, key _ _ c0, key _ _ c1, key _ _ c2, hr.below hb hB⟩
def badMade (n : Int) : Bool := decide (n < 0) || decide (32 < n)
theorem mm107 (n : Int) (w : World) :
 Calls Tryz.prog 99 #[.int .i64 n] w fun e w' => e = .returned (.bool (badMade n)) ∧ Below w.heap.size w w' := by
 unfold badMade
 by_cases h : n < 0
 · go_enter Tryz.func99, Tryz.ntmps99
   go_wp2_with fail; go_ret; exact ⟨by simp [h], bel _ _⟩
 · go_enter Tryz.func99, Tryz.ntmps99
   go_wp2_with fail; go_ret; exact ⟨by simp; omega, bel _ _⟩
theorem cont106 (made : List Int) (v : Value) (w : World) (h : RowAt w 1 v (made.map intCells)) (hlen : made.length ≤ 1000000000) :
 Calls Tryz.prog 98 #[v, .func (.func 99) #[] #[]] w fun e w' => e = .returned (.bool (made.any badMade)) ∧ Below w.heap.size w w' := by
 have hv := h.one
 have hc : ∀ w', Below w.heap.size w w' → Calls Tryz.prog 129 #[v, .func (.func 99) #[] #[]] w' fun e w'' => e = .returned (.int .i64 (idxM badMade made)) ∧ Below w'.heap.size w' w'' :=
  fun w' hb => index145 made v badMade w' (h.below hb (Nat.le_refl _)) hlen (fun z ww _ _ => mm107 z ww)
 have ha := idxM_any badMade made
 generalize made.any badMade = A at ha ⊢
 subst ha
 generalize idxM badMade made = R at hc ⊢
 clear h
 go_enter Tryz.func98, Tryz.ntmps98
 go_wp2_with (go_at_call 129; refine (hc _ (bel _ _)).mono ?_; rintro e w' ⟨rfl, hb⟩; obtain ⟨p, rfl⟩ := hb.rest; clear hb)
 go_ret
 exact ⟨by first | rfl | simp_all, bel _ _⟩
def mayMadeM (made : List Int) : Bool := !(decide (made.length < 1) || decide (8 < made.length)) && !made.any badMade
theorem mayMade62 (b : Nat) (S : PSt) (w : World) (h : SP w b S) (hwf : S.wf) :
 Calls Tryz.prog 68 #[.pointer (some ⟨b, 0, none⟩)] w fun e w' => e = .returned (.bool (mayMadeM S.made)) ∧ Below w.heap.size w w' := by
 obtain ⟨hl, iv, ov, mv, c0, c1, c2, hr⟩ := h
 have ib : BlockLt b w := ⟨hl⟩
 have hlen := hwf.2.2.1
 have hc : ∀ w', Below w.heap.size w w' → Calls Tryz.prog 98 #[mv, .func (.func 99) #[] #[]] w' fun e w'' => e = .returned (.bool (S.made.any badMade)) ∧ Below w'.heap.size w' w'' :=
  fun w' hb => cont106 S.made mv w' (hr.2.1.below hb (Nat.le_refl _)) hlen
 unfold mayMadeM
 obtain ⟨a, cap, rfl, _, _⟩ := hr.2.1
 rw [List.length_map] at hc c2
 clear hr hwf
 generalize S.made.any badMade = A at hc ⊢
 by_cases h1 : S.made.length < 1
 · have h1' : (S.made.length : Int) < 1 := by omega
   go_enter Tryz.func68, Tryz.ntmps68
   go_wp2_with fail; go_ret; exact ⟨by simp [h1], bel _ _⟩
 · have h1' : ¬ (S.made.length : Int) < 1 := by omega
   by_cases h2 : 8 < S.made.length
   · have h2' : (8 : Int) < S.made.length := by omega
     go_enter Tryz.func68, Tryz.ntmps68
     go_wp2_with fail; go_ret; exact ⟨by simp [h2], bel _ _⟩
   · have h2' : ¬ (8 : Int) < S.made.length := by omega
     go_enter Tryz.func68, Tryz.ntmps68
     go_wp2_with (go_at_call 98; refine (hc _ (bel _ _)).mono ?_; rintro e w' ⟨rfl, hb⟩; obtain ⟨p, rfl⟩ := hb.rest; clear hb)
     go_ret; exact ⟨by simp [h1, h2], bel _ _⟩
def coreM (n : Int) : Int := if n < 2 then -1 else (n - 2) % 8
theorem core146 (n : Int) (h : I64 n) (w : World) :
 Calls Tryz.prog 130 #[.int .i64 n] w fun e w' => e = .returned (.int .i64 (coreM n)) ∧ Below w.heap.size w w' := by
 unfold I64 at h
 unfold coreM
 by_cases h1 : n < 2
 · go_enter Tryz.func130, Tryz.ntmps130
   go_wp2_with fail; go_ret; exact ⟨by simp [h1], bel _ _⟩
 · have e1 : wrap64 (n - 2) = n - 2 := by simp only [wrap64]; omega
   have e2 : (n - 2).tmod 8 = (n - 2) % 8 := Int.tmod_eq_emod_of_nonneg (by omega); have e3 : wrap64 ((n - 2) % 8) = (n - 2) % 8 := by simp only [wrap64]; omega
   rw [if_neg h1]; generalize hR : (n - 2) % 8 = R at *; have HR := Lib.hid hR; clear hR
   go_enter Tryz.func130, Tryz.ntmps130
   go_wp2_with fail; go_ret; exact ⟨by simp_all, bel _ _⟩
theorem made147 (n : Int) (h : I64 n) (h2 : 2 ≤ n) (w : World) :
 Calls Tryz.prog 131 #[.int .i64 n] w fun e w' => e = .returned (.int .i64 ((n - 2) / 8)) ∧ Below w.heap.size w w' := by
 unfold I64 at h
 have e1 : wrap64 (n - 2) = n - 2 := by simp only [wrap64]; omega
 have e2 : (n - 2).tdiv 8 = (n - 2) / 8 := Int.tdiv_eq_ediv_of_nonneg (by omega)
 have e3 : wrap64 ((n - 2) / 8) = (n - 2) / 8 := by simp only [wrap64]; omega
 generalize hR : (n - 2) / 8 = R at *
 have HR := Lib.hid hR
 clear hR
 go_enter Tryz.func131, Tryz.ntmps131
 go_wp2_with fail
 go_ret
 exact ⟨by simp_all, bel _ _⟩
def mayNumM (made : List Int) (n : Int) : Bool := if n < 2 then false else match made[((n - 2) % 8).toNat]? with | some m => decide ((n - 2) / 8 < m) | none => false
theorem mayNum108 (b : Nat) (S : PSt) (n : Int) (w : World) (h : SP w b S) (hwf : S.wf) (hn : I64 n) :
 Calls Tryz.prog 100 #[.pointer (some ⟨b, 0, none⟩), .int .i64 n] w fun e w' => e = .returned (.bool (mayNumM S.made n)) ∧ Below w.heap.size w w' := by
 obtain ⟨hl, iv, ov, mv, c0, c1, c2, hr⟩ := h
 have ib : BlockLt b w := ⟨hl⟩
 have hlen := hwf.2.2.1
 have hco : ∀ w, Calls Tryz.prog 130 #[.int .i64 n] w _ := fun w => core146 n hn w
 obtain ⟨a, cap, rfl, hat⟩ := hr.2.1.at_
 have HA := Lib.hid hat
 rw [List.length_map] at c2
 clear hr hwf hat
 unfold mayNumM
 by_cases h1 : n < 2
 · have hcv : coreM n = -1 := by simp [coreM, h1]
   rw [hcv] at hco; rw [if_pos h1]
   go_enter Tryz.func100, Tryz.ntmps100
   go_wp2_with ((go_at_call 130; refine (hco _).mono ?_; rintro e w' ⟨rfl, hb⟩; obtain ⟨p, rfl⟩ := hb.rest; clear hb))
   refine wp_region_quiet_rest (by kernel_rfl) (by kernel_rfl) (WQ.out ?_)
   repeat
    refine WQ_step (fun K hK => ?_); go_simp
    first
     | (refine hK _ ?_; clear hK K)
     | (apply Exists.intro
        refine ⟨fun _ => ?_, hK _ ?_⟩
        focus (fail)
        clear hK K)
   refine WQ_nil ?_; intro w1 hw1; obtain ⟨p, hw1⟩ := hw1; subst hw1; go_wp2_with fail; go_ret; exact ⟨rfl, bel _ _⟩
 · have hma : ∀ w, Calls Tryz.prog 131 #[.int .i64 n] w _ := fun w => made147 n hn (by omega) w
   have hcv : coreM n = (n - 2) % 8 := by simp [coreM, h1]
   obtain ⟨q, hq⟩ : ∃ q : Nat, (n - 2) % 8 = q := ⟨((n - 2) % 8).toNat, by omega⟩
   rw [if_neg h1, hq, Int.toNat_natCast]; rw [hcv, hq] at hco; generalize (n - 2) / 8 = k at hma ⊢; have HQ := Lib.hid hq; clear hq hcv; by_cases h2 : q < S.made.length
   · obtain ⟨m, hm⟩ : ∃ m, S.made[q]? = some m := ⟨_, List.getElem?_eq_getElem h2⟩
     rw [hm]; obtain ⟨b1, off, rfl, iG0, -, hc⟩ := HA.out w (bel _ _) q (intCells m) (by rw [List.getElem?_map, hm]; rfl); have c3 := hc 0 _ rfl; rw [Nat.mul_one, Nat.add_zero] at c3; have h2I : (q : Int) < S.made.length := by omega
     have HM := Lib.hid hm; clear hm hc
     go_enter Tryz.func100, Tryz.ntmps100
     go_wp2_with ((go_at_call 130; refine (hco _).mono ?_; rintro e w' ⟨rfl, hb⟩; obtain ⟨p, rfl⟩ := hb.rest; clear hb))
     refine wp_region_quiet_rest (by kernel_rfl) (by kernel_rfl) (WQ.out ?_)
     repeat
      refine WQ_step (fun K hK => ?_); go_simp
      first
       | (refine hK _ ?_; clear hK K)
       | (apply Exists.intro
          refine ⟨fun _ => ?_, hK _ ?_⟩
          focus ((refine calls_in (hma _) (fun w' hb => ?_); first | exact hb.rest | exact rest1 hb | exact rest2 hb))
          clear hK K)
     refine WQ_nil ?_; intro w1 hw1; obtain ⟨p, hw1⟩ := hw1; subst hw1; go_wp2_with fail; go_ret; exact ⟨by first | rfl | simp_all, bel _ _⟩
   · have h2I : ¬ (q : Int) < S.made.length := by omega
     rw [List.getElem?_eq_none (by omega)]
     go_enter Tryz.func100, Tryz.ntmps100
     go_wp2_with ((go_at_call 130; refine (hco _).mono ?_; rintro e w' ⟨rfl, hb⟩; obtain ⟨p, rfl⟩ := hb.rest; clear hb))
     refine wp_region_quiet_rest (by kernel_rfl) (by kernel_rfl) (WQ.out ?_)
     repeat
      refine WQ_step (fun K hK => ?_); go_simp
      first
       | (refine hK _ ?_; clear hK K)
       | (apply Exists.intro
          refine ⟨fun _ => ?_, hK _ ?_⟩
          focus (fail)
          clear hK K)
     refine WQ_nil ?_; intro w1 hw1; obtain ⟨p, hw1⟩ := hw1; subst hw1; go_wp2_with fail; go_ret; exact ⟨by first | rfl | simp_all, bel _ _⟩
end Go.Proofs.YtmkapobnfigedaaGreatDoor
