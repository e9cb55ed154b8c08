/- Part of the proof that the named pairs of calls commute. Conditions: none. -/
import Derived.Test.YtjkenolgkkknaaaGreatDoorPp05
import Derived.Test.YtjkenolgkkknaaaGreatDoorPp06
set_option linter.unusedVariables false
set_option linter.unusedSimpArgs false
set_option maxRecDepth 100000
set_option maxHeartbeats 8000000
namespace Go.Proofs.YtjkenolgkkknaaaGreatDoor
open Go.RowKit
theorem own_one {w : World} {B n k : Nat} {e : TypeId} {v : Value} {xs : List Value} (h : w.ownsRow B e k v n xs) : v.oneCell' = true := by
 obtain ⟨_, ⟨rfl, _⟩ | ⟨g, cap, cur, rfl, _⟩⟩ := h <;> rfl
structure ClAt (w : World) (iv iv' ov mv : Value) (S : PSt) (q : Nat) (wr : World) : Prop where
 le : q ≤ S.ins.length
 rows : ∃ is : List IRec, OwnP w.heap.size wr 65 4 iv' (is.map IRec.cells) ∧ is.length = S.ins.length ∧
  (∀ (j : Nat) (r : IRec) (x : PIn), is[j]? = some r → S.ins[j]? = some x → r.num = x.num ∧ r.dir = x.dir ∧ r.data = x.data ∧ (j < q → OwnP w.heap.size wr 99 2 r.ev (x.ents.map PEnt.cells)) ∧ (q ≤ j → RowAt w 2 r.ev (x.ents.map PEnt.cells))) ∧
  ∀ (p j : Nat) (r r' : IRec), p ≠ j → p < q → j < q → is[p]? = some r → is[j]? = some r' → ∀ g, r.ev.ownBlock = some g → r'.ev.ownBlock ≠ some g
 below : Below w.heap.size w wr
 box : Blk wr w.heap.size #[iv', ov, mv] 27
 out : ∃ c, Blk wr (w.heap.size + 1) c 27 ∧ c.size = 3
theorem clone39 (iv ov mv : Value) (S : PSt) (w : World) (h : StRead w iv ov mv S) (hwf : S.wf) :
 Calls Tryz.prog 39 #[.agg #[iv, ov, mv]] w fun e w' => ∃ iv' ov' mv', e = .returned (.agg #[iv', ov', mv']) ∧ Below w.heap.size w w' ∧ StOwn w.heap.size w' iv' ov' mv' S := by
 have hi1 : iv.oneCell' = true := by obtain ⟨_, _, _, h3, _⟩ := h; exact h3.one
 have ho1 := h.1.one
 have hm1 := h.2.1.one
 obtain ⟨hop, hmade, is0, hrow, his, hrec⟩ := h
 have hlen := hwf.1
 have h67 : ∀ ww, Below w.heap.size w ww → Calls Tryz.prog 67 #[iv] ww _ := fun ww hb => clone67 (is0.map IRec.cells) iv ww (hrow.below hb (Nat.le_refl _)) (irec_len _) (irec_one _) (by rw [lM]; omega)
 have H0 := Lib.hid (And.intro hop (And.intro hmade (And.intro hrow (And.intro his (And.intro hrec hwf)))))
 clear hop hmade hrow hrec hwf
 go_enter Tryz.func39, Tryz.ntmps39
 go_wp2_with (go_at_call 67; refine (h67 _ (bel _ _)).mono ?_; rintro e w1 ⟨iv', rfl, hown, hb1⟩; have hP := (OwnP.of_own hown (by decide) (irec_len _)).mono (bel w _).size; rw [lM, his] at hown; obtain ⟨ga, gc, rfl⟩ := own_form hown; have hbox : Blk w1 w.heap.size #[iv, ov, mv] 27 := ((Blk.new w _ 27).alloc _).below hb1 (by simp; omega); have hres : Blk w1 (w.heap.size + 1) #[.slice none 0 0, .slice none 0 0, .slice none 0 0] 27 := (Blk.new_i (w.alloc (.cells #[iv, ov, mv] 27)) _ 27 _).below hb1 (by simp); have hbw := (bel w _).trans (hb1.mono (bel w _).size); have iBw : Bel w w1 := ⟨hbw⟩; have iX := hbox.lt; have iR := hres.lt; have x0 := hbox.cell 0; have fx0 := hbox.frozen 0; have x1 := hbox.cell 1; have x2 := hbox.cell 2; simp only [List.getElem?_toArray, List.getElem?_cons_zero, List.getElem?_cons_succ] at x0 x1 x2; have H1 := Lib.hid (And.intro hP (And.intro hbw (And.intro hbox hres))); clear hown hb1 hP hbw hbox hres)
 go_loopw [11] (fun i wr => ∃ (q : Nat), i = .int .i64 q ∧ ClAt w iv (.slice ga S.ins.length gc) ov mv S q wr) (fun i _ => (S.ins.length - intOf i).toNat)
 case atStart =>
  obtain ⟨hP, hbw, hbox, hres⟩ := H1.out; have hk : Keep (fun g => g = w.heap.size) w1 (w1.setCell ⟨w.heap.size, 0, none⟩ (.slice ga S.ins.length gc)) := Keep.setCell (S := fun g => g = w.heap.size) (p := ⟨w.heap.size, 0, none⟩) (Keep.refl _ w1) (.inl rfl) _; refine ⟨0, rfl, by omega, ⟨is0, hP.keep hk (fun g hg => hP.ne_blk hbox (by decide) hg), his, ?_, fun p j r r' _ h => by omega⟩, bel _ _, ?_, ⟨_, hk.blk hres (by omega), rfl⟩⟩
  · intro j r x hr hx; obtain ⟨e1, e2, e3, e4⟩ := H0.out.2.2.2.2.1 j r x hr hx; exact ⟨e1, e2, e3, fun h => by omega, fun _ => e4⟩
  · exact hbox.set_ 0 _
 case round =>
  obtain ⟨q, rfl, hc⟩ := hrel; have hcb := hc.below; have iB : Bel w wr := ⟨hcb⟩
  have iX' := hc.box.lt; have x0' := hc.box.cell 0; have x1' := hc.box.cell 1; have x2' := hc.box.cell 2; simp only [List.getElem?_toArray, List.getElem?_cons_zero, List.getElem?_cons_succ] at x0' x1' x2'; have hle := hc.le; by_cases hlt : q < S.ins.length
  · obtain ⟨is, hO, hil, hrec, hdis⟩ := hc.rows; have hO' := hO; rcases hO' with ⟨h0, h1⟩ | ⟨g, cap, arr, he, hgB, hgb, hnc, hcm, hsz, hri⟩
    · have : is.length = 0 := by
       have := congrArg List.length h1; simpa using this
      omega
    rw [lM, hil] at he hnc; simp only [Value.slice.injEq] at he; obtain ⟨rfl, -, rfl⟩ := he; obtain ⟨r, hr⟩ : ∃ r, is[q]? = some r := ⟨_, gE (by omega)⟩
    obtain ⟨x, hx⟩ : ∃ x, S.ins[q]? = some x := ⟨_, gE hlt⟩
    obtain ⟨r1, r2, r3, _, r4⟩ := hrec q r x hr hx; have hm : (is.map IRec.cells)[q]? = some r.cells := by rw [gM, hr]; rfl
    have g2 : wr.cell? ⟨g, q * 4 + 2, none⟩ = some r.ev := by rw [hgb.cell]; exact hri q _ hm 2 _ rfl
    have iG := hgb.lt; have hxe := (H0.out.2.2.2.2.2.2.2.2.1 x (mG hx)).2.1; have hone := r.one; have h68 : ∀ ww, Below w.heap.size w ww → Calls Tryz.prog 68 #[r.ev] ww _ := fun ww hb => clone68 (x.ents.map PEnt.cells) r.ev ww ((r4 (Nat.le_refl _)).below hb (Nat.le_refl _)) (pent_len _) (pent_one _) (by rw [lM]; exact hxe)
    have HC := Lib.hid (And.intro hc (And.intro hO (And.intro hgb (And.intro hri (And.intro hrec (And.intro hdis (And.intro hr (And.intro hx (And.intro hsz hil))))))))); clear hc hO hgb hri hrec hdis hr hx r1 r2 r3 r4 hm hxe hsz hil
    go_upto_region 5 with fail
    have iQ : 0 ≤ (q : Int) ∧ (q : Int) < S.ins.length := by omega
    refine wp_region_eff [9, 12] true (fun w' => w'.cell? ⟨w.heap.size, 0, none⟩ = some (.slice (some ⟨g, 0, none⟩) S.ins.length gc) ∧ w'.cell? ⟨g, q * 4 + 2, none⟩ = some r.ev) (by kernel_rfl) (by kernel_rfl) ?_ ?_
    · (try dsimp only); (repeat' apply And.intro) <;> go_simp
    repeat
     refine wpL_look rfl rfl ?_; apply Exists.intro; refine ⟨?_, ?_⟩
     focus
      rintro w' ⟨s0, s1⟩; go_simp
      first | done | rfl
     simp only [Act.put, sA, sZ, sS]
    refine wpL_act rfl rfl ?_; refine eff_call 68 #[r.ev] ?hr ?_
    case hr =>
     go_simp
     first | done | rfl
    refine (h68 wr.drew (bel w _)).mono ?_; rintro e w2 ⟨v', rfl, hown2, hb2⟩; have hP2 := OwnP.of_own hown2 (by decide) (pent_len _); have hone2 := own_one hown2; rw [lM] at hown2; obtain ⟨va, vc, rfl⟩ := own_form hown2; have hbox2 := (HC.out.1.box.drew).below hb2 iX'.lt; have hgb2 := (HC.out.2.2.1.drew).below hb2 iG.lt; have iX2 := hbox2.lt; have iG2 := hgb2.lt; have y0 := hbox2.cell 0; simp only [List.getElem?_toArray, List.getElem?_cons_zero, List.getElem?_cons_succ] at y0; have y2 : w2.cell? ⟨g, q * 4 + 2, none⟩ = some r.ev := by
     rw [hgb2.cell]; exact HC.out.2.2.2.1 q _ (by rw [gM, HC.out.2.2.2.2.2.2.1]; rfl) 2 _ rfl
    have fz := hgb2.frozen (q * 4 + 2); have H2 := Lib.hid (And.intro hP2 (And.intro hb2 (And.intro hbox2 hgb2))); clear hown2 hP2 hb2 hbox2 hgb2; refine ⟨_, rfl, .inl ⟨y0, y2⟩, ?_⟩; simp only [Act.put, sA, sZ, sS]
    repeat
     refine wpL_look rfl rfl ?_; apply Exists.intro; refine ⟨?_, ?_⟩
     focus
      rintro w' ⟨s0, s1⟩; go_simp
      first | done | rfl
     simp only [Act.put, sA, sZ, sS]
    refine wpL_skip rfl rfl ?_; apply Exists.intro; refine ⟨?_, .inr ⟨rfl, rfl⟩, ?_⟩
    focus
     go_simp; rfl
    simp only [Act.put]; refine wpL_end ?_; go_wp2_with fail
    go_roundw
    case rel =>
     obtain ⟨hc, hO, hgb, hri, hrec, hdis, hr, hx, hsz, hil⟩ := HC.out; obtain ⟨hP2, hb2, hbox2, hgb2⟩ := H2.out; obtain ⟨r1, r2, r3, _, _⟩ := hrec q r x hr hx; obtain ⟨c, hout, hcs⟩ := hc.out; have hgl := hgb.lt.lt; have hsw := hcb.size; have hK : Keep (fun k => k = g) wr (w2.setCell ⟨g, q * 4 + 2, none⟩ (.slice va x.ents.length vc)) :=
      Keep.setCell (S := fun k => k = g) (p := ⟨g, q * 4 + 2, none⟩) (Keep.of_below (show Below wr.heap.size wr w2 from (Below.refl wr.heap.size wr).drew.trans hb2) _) (.inl rfl) _
     have hK2 : Keep (fun k => k = g) w2 (w2.setCell ⟨g, q * 4 + 2, none⟩ (.slice va x.ents.length vc)) :=
      Keep.setCell (S := fun k => k = g) (p := ⟨g, q * 4 + 2, none⟩) (Keep.refl _ _) (.inl rfl) _
     have hql : q < is.length := by omega
     have hup : ∀ k, w.heap.size ≤ k → ∀ (hk : k < wr.heap.size), k ≠ g → True := fun _ _ _ _ => trivial
     have hmset : (is.map IRec.cells).set q (r.cells.set 2 (.slice va x.ents.length vc)) = (is.set q ⟨r.num, r.dir, .slice va x.ents.length vc, r.data, rfl⟩).map IRec.cells := by
      rw [List.map_set]; rfl
     refine ⟨q + 1, by go_num, by omega, ⟨is.set q ⟨r.num, r.dir, .slice va x.ents.length vc, r.data, rfl⟩, .inr ⟨g, gc, arr.setIfInBounds (q * 4 + 2) (.slice va x.ents.length vc), by rw [lM, List.length_set, hil], hgB, hgb2.set_ _ _, by rw [lM, List.length_set]; omega, hcm, by rw [Array.size_setIfInBounds]; exact hsz, ?_⟩, by rw [List.length_set]; exact hil, ?_, ?_⟩, ?_, ?_, ?_⟩
     · rw [← hmset]; exact hri.set (irec_len _) (by rw [gM, hr]; rfl) (by decide) (by omega) _
     · intro j r'' x'' hr'' hx''; by_cases e : q = j
       · subst e; rw [List.getElem?_set_self hql] at hr''; rw [hx] at hx''; cases hr''; cases hx''; exact ⟨r1, r2, r3, fun _ => ((hP2.mono (show w.heap.size ≤ wr.drew.heap.size from hsw)).keep hK2 (fun k hk => hP2.ne_blk hgb2 (by decide) hk)), fun h => by omega⟩
       · rw [List.getElem?_set_ne e] at hr''; obtain ⟨a1, a2, a3, a4, a5⟩ := hrec j r'' x'' hr'' hx''; exact ⟨a1, a2, a3, fun h => (a4 (by omega)).keep hK (fun k hk => (a4 (by omega)).ne_blk hgb (by decide) hk), fun h => a5 (by omega)⟩
     · intro p j ra rb hpj hp hj ha hb k hk; have hold : ∀ (j : Nat) (rb : IRec), j < q → is[j]? = some rb → ∀ k, rb.ev.ownBlock = some k → k < wr.heap.size := by
        intro j rb hj hb k hk; obtain ⟨xb, hxb⟩ : ∃ xb, S.ins[j]? = some xb := ⟨_, gE (by omega)⟩
        exact ((hrec j rb xb hb hxb).2.2.2.1 hj).lt hk
       by_cases e : q = p
       · subst e; rw [List.getElem?_set_self hql] at ha; rw [List.getElem?_set_ne hpj] at hb; cases ha; intro h; have h1 := hold j rb (by omega) hb k h; have h2 := hP2.ge hk; have h3 : wr.drew.heap.size = wr.heap.size := rfl; omega
       · rw [List.getElem?_set_ne e] at ha; by_cases e2 : q = j
         · subst e2; rw [List.getElem?_set_self hql] at hb; cases hb; intro h; have h1 := hold p ra (by omega) ha k hk; have h2 := hP2.ge h; have h3 : wr.drew.heap.size = wr.heap.size := rfl; omega
         · rw [List.getElem?_set_ne e2] at hb; exact hdis p j ra rb hpj (by omega) (by omega) ha hb k hk
     · exact hcb.trans (hK.below hsw (fun i hi h => by omega))
     · exact hbox2.far (fun e => (hgb.ne_ hc.box (by decide)) (by simpa using e.symm)) _
     · exact ⟨c, hK.blk hout (fun e => (hgb.ne_ hout (by decide)) e.symm), hcs⟩
    case measure => simp [intOf]; omega
  · have hq : q = S.ins.length := by omega
    have HC := Lib.hid hc; have HQ := Lib.hid hq; obtain ⟨c, hout, hcs⟩ := hc.out; have iR' := hout.lt; have hR0 : ∀ i, i < 3 → ∃ u, wr.cell? ⟨w.heap.size + 1, i, none⟩ = some u := fun i hi => by rw [hout.cell]; exact ⟨_, Array.getElem?_eq_getElem (by omega)⟩
    obtain ⟨u0, z0⟩ := hR0 0 (by omega); obtain ⟨u1, z1⟩ := hR0 1 (by omega); obtain ⟨u2, z2⟩ := hR0 2 (by omega); have f0 := hout.frozen 0; have f1 := hout.frozen 1; have f2 := hout.frozen 2; have fx1 := hc.box.frozen 1; have fx2 := hc.box.frozen 2; have h69 : ∀ ww, Below w.heap.size w ww → Calls Tryz.prog 69 #[ov] ww _ := fun ww hb => clone69 (S.op.map PDesc.cells) ov ww (H0.out.1.below hb (Nat.le_refl _)) (pdesc_len _) (pdesc_one _) (by rw [lM]; exact H0.out.2.2.2.2.2.2.1)
    have h70 : ∀ ww, Below w.heap.size w ww → Calls Tryz.prog 70 #[mv] ww _ := fun ww hb => clone70 (S.made.map intCells) mv ww (H0.out.2.1.below hb (Nat.le_refl _)) (int_len _) (int_one _) (by rw [lM]; exact H0.out.2.2.2.2.2.2.2.1)
    clear hc hq hout hR0 hcs
    go_upto_region 7 with fail
    have x1b := x1'; go_cut [] (fun wx => ∃ ov' mv', Blk wx w.heap.size #[.slice ga S.ins.length gc, ov', mv'] 27 ∧ Keep (fun k => k = w.heap.size) wr wx ∧ OwnP wr.heap.size wx 88 3 ov' (S.op.map PDesc.cells) ∧ OwnP wr.heap.size wx 3 1 mv' (S.made.map intCells))
    case first =>
     refine wp_region_eff [1, 2, 5, 7, 9] true (fun w' => w'.cell? ⟨w.heap.size, 2, none⟩ = some mv) (by kernel_rfl) (by kernel_rfl) ?_ ?_
     · go_simp
     repeat
      refine wpL_look rfl rfl ?_; apply Exists.intro; refine ⟨?_, ?_⟩
      focus
       rintro w' s0; go_simp
       first | done | rfl
      simp only [Act.put, sA, sZ, sS]
     refine wpL_do rfl rfl ?_; refine ⟨ov, wr.drew, ?_, .inl (by go_simp), ?_⟩
     focus
      go_simp
      first | done | rfl
     simp only [Act.put, sA, sZ, sS]; refine wpL_act rfl rfl ?_; refine eff_call 69 #[ov] ?hr ?_
     case hr =>
      go_simp
      first | done | rfl
     refine (h69 wr.drew (bel w _)).mono ?_; rintro e w5 ⟨ov', rfl, hownO, hb5⟩; have hP5 := OwnP.of_own hownO (by decide) (pdesc_len _); have hone5 := own_one hownO; rw [lM] at hownO; obtain ⟨oa, oc, rfl⟩ := own_form hownO; have hB5 := (HC.out.box.drew).below hb5 iX'.lt; have iX5 := hB5.lt; have x51 := hB5.cell 1; have x52 := hB5.cell 2; simp only [List.getElem?_toArray, List.getElem?_cons_zero, List.getElem?_cons_succ] at x51 x52; have iB5 : Bel w w5 := ⟨(bel w wr.drew).trans (hb5.mono (bel w wr.drew).size)⟩
     have HO := Lib.hid (And.intro hP5 (And.intro hb5 hB5)); clear hownO hP5 hb5 hB5; refine ⟨_, rfl, .inl x52, ?_⟩; simp only [Act.put, sA, sZ, sS]
     repeat
      refine wpL_look rfl rfl ?_; apply Exists.intro; refine ⟨?_, ?_⟩
      focus
       rintro w' s0; go_simp
       first | done | rfl
      simp only [Act.put, sA, sZ, sS]
     refine wpL_act rfl rfl ?_; refine eff_call 70 #[mv] ?hr2 ?_
     case hr2 =>
      go_simp
      first | done | rfl
     refine (h70 w5 (bel w _)).mono ?_; rintro e w6 ⟨mv', rfl, hownM, hb6⟩; have hP6 := OwnP.of_own hownM (by decide) (int_len _); have hone6 := own_one hownM; rw [lM] at hownM; obtain ⟨ma, mc, rfl⟩ := own_form hownM; have hB6 := (HO.out.2.2).below hb6 iX5.lt; have iX6 := hB6.lt; have x61 := hB6.cell 1; have x62 := hB6.cell 2; have fx61 := hB6.frozen 1; have fx62 := hB6.frozen 2; simp only [List.getElem?_toArray, List.getElem?_cons_zero, List.getElem?_cons_succ] at x61 x62; have HM := Lib.hid (And.intro hP6 (And.intro hb6 hB6)); clear hownM hP6 hb6 hB6; refine ⟨_, rfl, .inl x62, ?_⟩; simp only [Act.put, sA, sZ, sS]
     repeat
      refine wpL_look rfl rfl ?_; apply Exists.intro; refine ⟨?_, ?_⟩
      focus
       rintro w' s0; go_simp
       first | done | rfl
      simp only [Act.put, sA, sZ, sS]
     refine wpL_skip rfl rfl ?_; refine ⟨w6.setCell ⟨w.heap.size, 1, none⟩ (.slice oa S.op.length oc), ?_, .inl (by go_simp), ?_⟩
     focus
      go_simp
      first | done | rfl
     simp only [Act.put, sA, sZ, sS]
     repeat
      refine wpL_look rfl rfl ?_; apply Exists.intro; refine ⟨?_, ?_⟩
      focus
       rintro w' s0; go_simp
       first | done | rfl
      simp only [Act.put, sA, sZ, sS]
     refine wpL_skip rfl rfl ?_; refine ⟨(w6.setCell ⟨w.heap.size, 1, none⟩ (.slice oa S.op.length oc)).setCell ⟨w.heap.size, 2, none⟩ (.slice ma S.made.length mc), ?_, .inr ⟨rfl, rfl⟩, ?_⟩
     focus
      go_simp
      first | done | rfl
     simp only [Act.put]; refine wpL_end ?_; go_wp2_with fail
     go_meet
     have hb05 : Below wr.heap.size wr w5 := (Below.refl wr.heap.size wr).drew.trans HO.out.2.1; have hb06 : Below wr.heap.size wr w6 := hb05.trans (HM.out.2.1.mono hb05.size); refine ⟨_, _, ((HM.out.2.2.set_ 1 _).set_ 2 _), Keep.setCell (S := fun k => k = w.heap.size) (p := ⟨w.heap.size, 2, none⟩) (Keep.setCell (S := fun k => k = w.heap.size) (p := ⟨w.heap.size, 1, none⟩) (Keep.of_below hb06 _) (.inl rfl) _) (.inl rfl) _, ?_, ?_⟩
     · exact HO.out.1.keep (Keep.setCell (S := fun k => k = w.heap.size) (p := ⟨w.heap.size, 2, none⟩) (Keep.setCell (S := fun k => k = w.heap.size) (p := ⟨w.heap.size, 1, none⟩) (Keep.of_below HM.out.2.1 _) (.inl rfl) _) (.inl rfl) _) (fun k hk => HO.out.1.ne_blk HO.out.2.2 (by decide) hk)
     · exact (HM.out.1.mono hb05.size).keep (Keep.setCell (S := fun k => k = w.heap.size) (p := ⟨w.heap.size, 2, none⟩) (Keep.setCell (S := fun k => k = w.heap.size) (p := ⟨w.heap.size, 1, none⟩) (Keep.refl _ _) (.inl rfl) _) (.inl rfl) _) (fun k hk => HM.out.1.ne_blk HM.out.2.2 (by decide) hk)
    case rest =>
     obtain ⟨ov', mv', hbx, hk, hO, hM⟩ := hcut
     rename World => wx
     obtain ⟨c, hout, hcs⟩ := HC.out.out; have hout2 := hk.blk hout (by omega); have iX3 := hbx.lt; have iR3 := hout2.lt; have b0 := hbx.cell 0; have b1 := hbx.cell 1; have b2 := hbx.cell 2; simp only [List.getElem?_toArray, List.getElem?_cons_zero, List.getElem?_cons_succ] at b0 b1 b2; have hR0 : ∀ i, i < 3 → ∃ u, wx.cell? ⟨w.heap.size + 1, i, none⟩ = some u := fun i hi => by rw [hout2.cell]; exact ⟨_, Array.getElem?_eq_getElem (by omega)⟩
     obtain ⟨v0, q0⟩ := hR0 0 (by omega); obtain ⟨v1, q1⟩ := hR0 1 (by omega); obtain ⟨v2, q2⟩ := hR0 2 (by omega); have g0 := hout2.frozen 0; have g1 := hout2.frozen 1; have g2 := hout2.frozen 2; have ho' := hO.one; have hm' := hM.one; obtain ⟨oa, oc, rfl, -⟩ := hO.row; obtain ⟨ma, mc, rfl, -⟩ := hM.row; have HE := Lib.hid (And.intro hk (And.intro hO (And.intro hM (And.intro hout2 hbx)))); clear hout hout2 hk hO hM hR0 hbx; go_wp2_with fail; refine bodyPost_ret (v := .agg #[.slice ga S.ins.length gc, .slice oa S.op.length oc, .slice ma S.made.length mc]) (by unfold results; simp only [Tryz.results39]; go_simp) rfl ?_; have hbx := HE.out.2.2.2.2; obtain ⟨is, hO, hil, hrec, hdis⟩ := HC.out.rows; have hsw := hcb.size; have hK1 : Keep (fun k => k = w.heap.size + 1) wx (((wx.setCell ⟨w.heap.size + 1, 0, none⟩ (.slice ga S.ins.length gc)).setCell ⟨w.heap.size + 1, 1, none⟩ (.slice oa (S.op.map PDesc.cells).length oc)).setCell ⟨w.heap.size + 1, 2, none⟩ (.slice ma (S.made.map intCells).length mc)) :=
      Keep.setCell (S := fun k => k = w.heap.size + 1) (p := ⟨w.heap.size + 1, 2, none⟩) (Keep.setCell (S := fun k => k = w.heap.size + 1) (p := ⟨w.heap.size + 1, 1, none⟩) (Keep.setCell (S := fun k => k = w.heap.size + 1) (p := ⟨w.heap.size + 1, 0, none⟩) (Keep.refl _ _) (.inl rfl) _) (.inl rfl) _) (.inl rfl) _
     have hK2 : Keep (fun k => k = w.heap.size ∨ k = w.heap.size + 1) wr (((wx.setCell ⟨w.heap.size + 1, 0, none⟩ (.slice ga S.ins.length gc)).setCell ⟨w.heap.size + 1, 1, none⟩ (.slice oa (S.op.map PDesc.cells).length oc)).setCell ⟨w.heap.size + 1, 2, none⟩ (.slice ma (S.made.map intCells).length mc)) :=
      (HE.out.1.mono (fun i _ h => .inl h)).trans (hK1.mono (fun i _ h => .inr h)) (fun i _ h => h)
     have hobl := HE.out.2.2.2.1; obtain ⟨c', hout', _⟩ := HC.out.out; simp only [lM] at hK1 hK2; refine ⟨_, _, _, rfl, hcb.trans (hK2.below hsw (fun i hi h => by omega)), ?_, ?_, is, ?_, hil, ?_, fun p j r r' hpj hp hj => hdis p j r r' hpj ?_ ?_ hp hj⟩
     · have := (HE.out.2.1.keep hK1 (fun k hk => HE.out.2.1.ne_blk hobl (by decide) hk)).mono hsw; rw [lM] at this; exact this
     · have := (HE.out.2.2.1.keep hK1 (fun k hk => HE.out.2.2.1.ne_blk hobl (by decide) hk)).mono hsw; rw [lM] at this; exact this
     · exact hO.keep hK2 (fun k hk h => by rcases h with h | h <;> first | exact hO.ne_blk HC.out.box (by decide) hk h | exact hO.ne_blk hout' (by decide) hk h)
     · intro j r x hr hx; obtain ⟨hjl, _⟩ := gI.1 hx; obtain ⟨a1, a2, a3, a4, _⟩ := hrec j r x hr hx; have a4 := a4 (by have := HQ.out; omega); exact ⟨a1, a2, a3, a4.keep hK2 (fun k hk h => by rcases h with h | h <;> first | exact a4.ne_blk HC.out.box (by decide) hk h | exact a4.ne_blk hout' (by decide) hk h)⟩
     · obtain ⟨h, _⟩ := gI.1 hp; have := HQ.out; omega
     · obtain ⟨h, _⟩ := gI.1 hj; have := HQ.out; omega
end Go.Proofs.YtjkenolgkkknaaaGreatDoor
