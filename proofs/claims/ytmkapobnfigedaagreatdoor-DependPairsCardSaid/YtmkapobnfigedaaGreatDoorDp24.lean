/- Part of the proof of a law of chapter 15. Conditions: none. -/
import Derived.Test.YtmkapobnfigedaaGreatDoorDp22
set_option linter.unusedVariables false
set_option linter.unusedSimpArgs false
set_option maxRecDepth 100000
set_option maxHeartbeats 8000000
namespace Go.Proofs.YtmkapobnfigedaaGreatDoor
open Go.RowKit
theorem parse_len {s : ByteArray} (h : (parseM s).1 = 0) : (parseM s).2.length ≤ 4 := by
 unfold parseM at h ⊢
 by_cases h1 : 64 < s.size
 · rw [if_pos h1] at h; cases h
 · rw [if_neg h1] at h ⊢; by_cases h2 : 0 < s.size
   · rw [dif_pos h2] at h ⊢; by_cases h3 : (((s[0]'h2).toNat : Int) == 47) = false
     · rw [if_pos h3] at h; cases h
     · rw [if_neg h3] at h ⊢; by_cases h4 : s.size = 1
       · rw [if_pos h4]; exact Nat.zero_le _
       · rw [if_neg h4] at h ⊢; simp only at h ⊢; generalize parseFrom s (s ++ ⟨#[47]⟩) (s ++ ⟨#[47]⟩ : ByteArray).size 0 1 [] = r at h ⊢; by_cases h5 : r.1 = 0 ∧ 4 < r.2.length
         · rw [if_pos h5] at h; cases h
         · rw [if_neg h5] at h ⊢; omega
   · rw [dif_neg h2] at h; cases h
theorem tell_x (B d b : Nat) (S : PSt) (c : PCall) (r : PRes) (w : World) (h : DoAt B w d b S c r) (hB : B ≤ w.heap.size) (hp : (parseM c.path).1 ≠ 0) :
 Calls Tryz.prog 150 #[.pointer (some ⟨d, 0, none⟩)] w (RunOut B w d b c (.error (codeM (parseM c.path).1))) := by
 have hat : ∀ ww, Below w.heap.size w ww → Calls Tryz.prog 178 #[.pointer (some ⟨d, 0, none⟩), .string c.path] ww _ := fun ww hb => at122x d b S c c.path ww (h.read.below hb (Nat.le_refl _)) hp
 obtain ⟨iv, ov, mv, nv, hBb, hBd, hD, hbk, hst, hnv⟩ := h
 have iD := hD.lt
 have d6 : w.cell? ⟨d, 6, none⟩ = some (.string c.path) := hD.cell 6
 clear hD hbk hst hnv
 go_enter Tryz.func150, Tryz.ntmps150
 go_wp2_with (go_at_call 178; refine (hat _ (bel _ _)).mono ?_; rintro e w1 ⟨rfl, hb1⟩)
 exact ⟨rfl, hb1.mono hB, rfl⟩
def countM (S : PSt) (c : PCall) (r : PRes) : Except Int (PSt × PRes) :=
 if (walkM S 0 (parseM c.path).2).2 ≠ 0 then .error (walkM S 0 (parseM c.path).2).2 else
 match S.ins[(walkM S 0 (parseM c.path).2).1]? with
 | none => .ok (S, r)
 | some x => if x.dir = true then .error 8 else .ok (S, { r with num := linksM S x.num })
theorem tell_links (B d b : Nat) (S : PSt) (c : PCall) (r : PRes) (w : World) (h : DoAt B w d b S c r) (hB : B ≤ w.heap.size) (hf : Fine S) (hk : c.kind = 14) (hp : (parseM c.path).1 = 0) :
 Calls Tryz.prog 150 #[.pointer (some ⟨d, 0, none⟩)] w (RunOut B w d b c (countM S c r)) := by
 obtain ⟨bi, cap, ov, mv, nv, hP⟩ := h.part hf.pos
 have ht := hP.path hf c.path hp (Nat.le_trans (parse_len hp) (by decide))
 have hlt := walkM_lt hf (parseM c.path).2 0 hf.pos
 have iD := hP.hD.lt
 have d1 : w.cell? ⟨d, 1, none⟩ = some (.int .i64 c.kind) := hP.hD.cell 1
 have d6 : w.cell? ⟨d, 6, none⟩ = some (.string c.path) := hP.hD.cell 6
 rw [hk] at d1
 have HP := Lib.hid hP
 obtain ⟨RR, hRR⟩ : ∃ RR, countM S c r = RR := ⟨_, rfl⟩
 rw [hRR]
 unfold countM at hRR
 generalize walkM S 0 (parseM c.path).2 = W at ht hlt hRR
 obtain ⟨K, C⟩ := W
 simp only at hlt hRR
 clear h hP hp
 by_cases hC : C = 0
 · subst hC; rw [if_neg (by simp)] at hRR; obtain ⟨x, hx⟩ : ∃ x, S.ins[K]? = some x := ⟨_, gE hlt⟩
   rw [hx] at hRR; simp only at hRR; have HRR := Lib.hid hRR; clear hRR
   go_enter Tryz.func150, Tryz.ntmps150
   go_upto_region 1 with (go_at_call 178; refine ht.mono ?_; rintro e w1 ⟨hb1, ho⟩; obtain rfl := ho.ok; have HB := Lib.hid hb1; clear hb1 ho)
   refine abs_world (F := fun wA => DPart B wA d b bi cap ov mv nv S c r ∧ Below w.heap.size w wA) ⟨HP.out.below HB.out, HB.out⟩ ?_; clear ht iD HP HB d6 d1; rintro wA ⟨hA, hbA⟩; have iD := hA.hD.lt; have iL := hA.hb.lt; have d1 : wA.cell? ⟨d, 1, none⟩ = some (.int .i64 c.kind) := hA.hD.cell 1; rw [hk] at d1; obtain ⟨iI, x0, x1, x3⟩ := hA.dat hx; have HX := Lib.hid (And.intro hA hbA); generalize hdd : x.dir = xd at x1; rcases xd with _ | _
   · obtain rfl : RR = .ok (S, { r with num := linksM S x.num }) := by rw [← HRR.out, hdd]; rfl
     have d0 : wA.cell? ⟨d, 0, none⟩ = some (.pointer (some ⟨b, 0, none⟩)) := hA.hD.cell 0; have d11 : wA.cell? ⟨d, 11, none⟩ = some (.int .i64 r.num) := hA.hD.cell 11; have f11 := hA.hD.frozen 11; have b0 : wA.cell? ⟨b, 0, none⟩ = some (.slice (some ⟨bi, 0, none⟩) S.ins.length cap) := hA.hb.cell 0; have b1 : wA.cell? ⟨b, 1, none⟩ = some ov := hA.hb.cell 1; have b2 : wA.cell? ⟨b, 2, none⟩ = some mv := hA.hb.cell 2; have hov := hA.st.read.1.one; have hmv := hA.st.read.2.1.one; have hcl : ∀ ww, Below wA.heap.size wA ww → Calls Tryz.prog 181 #[.agg #[.slice (some ⟨bi, 0, none⟩) S.ins.length cap, ov, mv], .int .i64 x.num] ww fun e w' => e = .returned (.int .i64 (linksM S x.num)) ∧ Below ww.heap.size ww w' := fun ww hb => links82 _ ov mv S x.num ww (hA.st.read.below hb (Nat.le_refl _)) hf.wf
     obtain ⟨ln, hln⟩ : ∃ l, linksM S x.num = l := ⟨_, rfl⟩
     rw [hln] at hcl; have HLN := Lib.hid hln; clear hln; clear hA hbA hx HRR hdd x3
     go_upto_region 3 with (go_at_call 172; refine aT (throw_no _ _) fun p => ?_)
     refine wp_region_eff [11, 15] true (fun w' => w'.cell? ⟨d, 0, none⟩ = some (.pointer (some ⟨b, 0, none⟩)) ∧ w'.cell? ⟨b, 0, none⟩ = some (.slice (some ⟨bi, 0, none⟩) S.ins.length cap) ∧ w'.cell? ⟨b, 1, none⟩ = some ov ∧ w'.cell? ⟨b, 2, none⟩ = some mv ∧ w'.cell? ⟨bi, K * 4, none⟩ = some (.int .i64 x.num)) (by kernel_rfl) (by kernel_rfl) ?_ ?_
     · (try dsimp only); (repeat' apply And.intro) <;> go_simp
     repeat
      refine wpL_look rfl rfl ?_; apply Exists.intro; refine ⟨?_, ?_⟩
      focus
       rintro w' ⟨s0, s1, s2, s3, s4⟩; go_simp
       first | done | rfl
      simp only [Act.put, sA, sZ, sS]
     refine wpL_act rfl rfl ?_; refine eff_call 181 #[.agg #[.slice (some ⟨bi, 0, none⟩) S.ins.length cap, ov, mv], .int .i64 x.num] ?hr ?_
     case hr =>
      go_simp
      first | done | rfl
     refine aT (hcl _ (bel _ _)) fun q1 => ?_; refine ⟨_, rfl, .inl ?_, ?_⟩
     · (try dsimp only); (repeat' apply And.intro) <;> go_simp
     simp only [Act.put, sA, sZ, sS]
     repeat
      refine wpL_look rfl rfl ?_; apply Exists.intro; refine ⟨?_, ?_⟩
      focus
       rintro w' ⟨s0, s1, s2, s3, s4⟩; go_simp
       first | done | rfl
      simp only [Act.put, sA, sZ, sS]
     refine wpL_skip rfl rfl ?_; apply Exists.intro; refine ⟨?_, .inr ⟨rfl, rfl⟩, ?_⟩
     focus
      go_simp; rfl
     simp only [Act.put, sA, sZ, sS]; refine wpL_end ?_; clear d0 d1 d11 f11 b0 b1 b2 x0 x1; go_wp2_with fail; have hln := HLN.out; subst hln; have hbs : Below B w (wA.setCell ⟨d, 11, none⟩ (.int .i64 (linksM S x.num : Nat))) := (HX.out.2.mono hB).setCell (p := ⟨d, 11, none⟩) HX.out.1.hBd _; exact bodyPost_end (v := .tuple #[]) (by simp [results, go_sem]) rfl ⟨hbs.trans ((bel _ _).mono (Nat.le_trans hB hbs.size)), rfl, ((HX.out.1.res (t := 11) (r' := { r with num := linksM S x.num }) rfl rfl).below (bel _ _)).at_⟩
   · obtain rfl : RR = .error 8 := by rw [← HRR.out, hdd]; rfl
     clear hA hbA hx x3 hdd; go_wp2_with (go_at_call 172; refine aE (throw_yes _ _) fun p => ?_)
     exact ⟨rfl, (HX.out.2.trans ((bel wA _).mono HX.out.2.size)).mono hB, rfl⟩
 · rw [if_pos hC] at hRR; subst hRR
   go_enter Tryz.func150, Tryz.ntmps150
   go_wp2_with (go_at_call 178; refine ht.mono ?_; rintro e w1 ⟨hb1, ho⟩; obtain rfl := ho.bad hC)
   exact ⟨rfl, hb1.mono hB, rfl⟩
end Go.Proofs.YtmkapobnfigedaaGreatDoor
