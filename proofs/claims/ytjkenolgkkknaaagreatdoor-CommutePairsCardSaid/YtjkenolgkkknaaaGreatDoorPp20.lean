/- Part of the proof that the named pairs of calls commute. Conditions: none. -/
import Derived.Test.YtjkenolgkkknaaaGreatDoorPp19
set_option linter.unusedVariables false
set_option linter.unusedSimpArgs false
set_option maxRecDepth 100000
set_option maxHeartbeats 8000000
namespace Go.Proofs.YtjkenolgkkknaaaGreatDoor
open Go.RowKit
theorem of46 (c : PCall) (x : PDesc) (bx : Nat) (w : World) (ib : BlockLt bx w) (h1 : w.cell? ⟨bx, 1, none⟩ = some (.int .i64 c.core)) (h2 : w.cell? ⟨bx, 2, none⟩ = some (.int .i64 c.fd)) :
 Calls Tryz.prog 46 #[.agg #[.int .i64 x.core, .int .i64 x.fd, .int .i64 x.num], .pointer (some ⟨bx, 0, none⟩)] w fun e w' => e = .returned (.bool (isFd c x)) ∧ Below w.heap.size w w' := by
 unfold isFd
 generalize hb1 : (x.core == c.core) = b1
 rcases b1 with _ | _
 · go_enter Tryz.func46, Tryz.ntmps46
   go_wp2_with fail; go_ret; exact ⟨by first | rfl | simp_all, bel _ _⟩
 · go_enter Tryz.func46, Tryz.ntmps46
   go_wp2_with fail; go_ret; exact ⟨by first | rfl | simp_all, bel _ _⟩
theorem index45v (zs : List PDesc) (v : Value) (l0 : Value) (p : PDesc → Bool) (w : World) (h : RowAt w 3 v (zs.map PDesc.cells)) (hlen : zs.length ≤ 1000000000)
 (hg : ∀ (z : PDesc) (ww : World), z ∈ zs → Below w.heap.size w ww → Calls Tryz.prog 46 #[.agg #[.int .i64 z.core, .int .i64 z.fd, .int .i64 z.num], l0] ww fun e w' => e = .returned (.bool (p z)) ∧ Below ww.heap.size ww w') :
 Calls Tryz.prog 45 #[v, .func (.func 46) #[] #[l0]] w fun e w' => e = .returned (.int .i64 (idxM p zs)) ∧ Below w.heap.size w w' := by
 obtain ⟨a, cap, rfl, hat⟩ := h.at_
 rw [lM]
 have HA := Lib.hid hat
 clear hat h
 unfold idxM
 obtain ⟨R, hR⟩ : ∃ R, idxFrom p zs 0 = R := ⟨_, rfl⟩
 rw [hR]
 have HR := Lib.hid hR
 clear hR
 go_enter Tryz.func45, Tryz.ntmps45
 go_wp2_with fail
 go_loopw [8] (fun i wr => ∃ (q : Nat), i = .int .i64 q ∧ q ≤ zs.length ∧ idxFrom p (zs.drop q) q = R ∧ Below w.heap.size w wr) (fun i _ => (zs.length - intOf i).toNat)
 case atStart => exact ⟨0, rfl, by omega, HR.out, bel _ _⟩
 case round =>
  obtain ⟨q, rfl, hq, hre, hb⟩ := hrel; have iB : Bel w wr := ⟨hb⟩
  by_cases hlt : q < zs.length
  · obtain ⟨z, hz⟩ : ∃ z, zs[q]? = some z := ⟨_, gE hlt⟩
    obtain ⟨b, off, rfl, iG0, iG, hc⟩ := HA.out wr hb q (PDesc.cells z) (by rw [gM, hz]; rfl); have c0 := hc 0 _ rfl; have c1 := hc 1 _ rfl; have c2 := hc 2 _ rfl; rw [idxFrom_drop p zs q z hz] at hre; have hcall : ∀ ww, Below w.heap.size w ww → Calls Tryz.prog 46 #[.agg #[.int .i64 z.core, .int .i64 z.fd, .int .i64 z.num], l0] ww fun e w' => e = .returned (.bool (p z)) ∧ Below ww.heap.size ww w' := fun ww hww => hg z ww (mG hz) hww
    have HZ := Lib.hid (And.intro hz hre); clear hc hz hre hg; rw [Nat.add_zero] at c0; generalize hpz : p z = t at hcall HZ; rcases t with _ | _
    · go_wp2_with (go_at_call 46; refine aT (hcall _ (bel _ _)) fun p => ?_)
      go_roundw
      case rel => exact ⟨q + 1, by go_num, by omega, by have := HZ.out.2; simpa using this, bel _ _⟩
      case measure => simp [intOf]; omega
    · have hv : R = q := by have := HZ.out.2; simpa using this.symm
      subst hv; go_wp2_with (go_at_call 46; refine aT (hcall _ (bel _ _)) fun p => ?_)
      exact bodyPost_ret (v := .int .i64 q) (by simp [results, Tryz.results45, go_sem]) rfl ⟨rfl, bel _ _⟩
  · rw [idxFrom_end p zs q hlt] at hre; subst hre; clear hg; go_wp2_with fail; exact bodyPost_ret (v := .int .i64 (-1)) (by simp [results, Tryz.results45, go_sem]) rfl ⟨rfl, bel _ _⟩
def callAr (c : PCall) : Array Value := #[.int .i64 c.kind, .int .i64 c.core, .int .i64 c.fd, .int .i64 c.off, .int .i64 c.num, .string c.path, .string c.path2, .string c.data]
def cutL (fine : Bool) (T : List (Int × Int)) : List (Int × Int) := match fine with | true => T | false => []
def cutI (fine : Bool) (n : Int) : Int := match fine with | true => n | false => 0
theorem of23 (p : Nat) (S S' : PSt) (c : PCall) (r : PRes) (L T : List (Int × Int)) (M : List Int) (by_ co go : Int) (w : World) (h : SP w p S) (hwf : S.wf) (D : Did S c S' r) (hk : c.kind < 3 ∨ 7 < c.kind)
 (hpaths : ∀ ww k fine, VwNew ww k p c fine → Laid k (fun w => SP w p S) ww → Calls Tryz.prog 44 #[.pointer (some ⟨k, 0, none⟩)] ww fun e w' => e = .returned (.tuple #[]) ∧ VwAt w' k p c fine L T M by_ co go ∧ Below k ww w') :
 Calls Tryz.prog 23 #[.pointer (some ⟨p, 0, none⟩), .agg (callAr c)] w fun e w' => ∃ k, e = .returned (.pointer (some ⟨k, 0, none⟩)) ∧ VwAt w' k p c (r.code == 0) L (cutL (r.code == 0) T) M by_ (cutI (r.code == 0) co) (cutI (r.code == 0) go) ∧ Below w.heap.size w w' := by
 obtain ⟨hl, iv, ov, mv, c0, c1, c2, hr⟩ := h
 have hio : iv.oneCell' = true := by obtain ⟨_, _, _, h3, _⟩ := hr; exact h3.one
 have hoo := hr.1.one
 have hmo := hr.2.1.one
 have iP : BlockLt p w := ⟨hl⟩
 have h3 : ¬ c.kind = 3 := by omega
 have h4 : ¬ c.kind = 4 := by omega
 have h5 : ¬ c.kind = 5 := by omega
 have h6 : ¬ c.kind = 6 := by omega
 have h7 : ¬ c.kind = 7 := by omega
 have hop := hwf.2.1
 have HS := Lib.hid hr
 have HSP := Lib.hid (⟨hl, iv, ov, mv, c0, c1, c2, hr⟩ : SP w p S)
 have HP := Lib.hid hpaths
 clear hr hpaths hk
 unfold callAr
 go_enter Tryz.func23, Tryz.ntmps23
 go_upto_region 1 with fail
 go_cut [6] (fun v6 wx => ∃ b6 nv, v6 = .pointer (some ⟨b6, 0, none⟩) ∧ Below (w.alloc (Obj.cells #[.int .i64 c.kind, .int .i64 c.core, .int .i64 c.fd, .int .i64 c.off, .int .i64 c.num, .string c.path, .string c.path2, .string c.data] 29)).heap.size (w.alloc (Obj.cells #[.int .i64 c.kind, .int .i64 c.core, .int .i64 c.fd, .int .i64 c.off, .int .i64 c.num, .string c.path, .string c.path2, .string c.data] 29)) wx ∧ Blk wx b6 #[.int .i64 r.code, .int .i64 r.fd, .int .i64 r.num, .bool r.dir, .string r.data, nv] 46)
 case first =>
  go_region_held3 (fun w' => w'.cell? ⟨p, 0, none⟩ = some iv ∧ w'.cell? ⟨p, 1, none⟩ = some ov ∧ w'.cell? ⟨p, 2, none⟩ = some mv ∧ w'.cell? ⟨w.heap.size, 0, none⟩ = some (.int .i64 c.kind) ∧ w'.cell? ⟨w.heap.size, 1, none⟩ = some (.int .i64 c.core) ∧ w'.cell? ⟨w.heap.size, 2, none⟩ = some (.int .i64 c.fd) ∧ w'.cell? ⟨w.heap.size, 3, none⟩ = some (.int .i64 c.off) ∧ w'.cell? ⟨w.heap.size, 4, none⟩ = some (.int .i64 c.num) ∧ w'.cell? ⟨w.heap.size, 5, none⟩ = some (.string c.path) ∧ w'.cell? ⟨w.heap.size, 6, none⟩ = some (.string c.path2) ∧ w'.cell? ⟨w.heap.size, 7, none⟩ = some (.string c.data))
   (first | (try dsimp only) <;> (repeat' apply And.intro) <;> go_simp)
   (first | (go_at_call 20; refine (D _ _ _ _ (HS.out.below (bel w _) (Nat.le_refl _))).mono ?_; rintro e wa ⟨hb, iv1, ov1, mv1, nv1, rfl, hs1, hn1⟩; obtain ⟨pa, rfl⟩ := hb.rest; clear hb; obtain ⟨a11, a12, a13, a14, a15, a16, a17, a18, a19, rfl, rfl, rfl⟩ := hs1.forms; obtain ⟨n11, n12, n13, rfl⟩ := hn1.form; clear hs1 hn1))
  all_goals go_wp2_with fail
  all_goals go_meet
  all_goals (refine ⟨_, .slice n11 n12 n13, rfl, bel (w.alloc (Obj.cells #[.int .i64 c.kind, .int .i64 c.core, .int .i64 c.fd, .int .i64 c.off, .int .i64 c.num, .string c.path, .string c.path2, .string c.data] 29)) _, ?_⟩)
  all_goals (repeat (first | exact Blk.new_i _ _ _ _ | refine Blk.alloc ?_ _ | refine Blk.junk ?_ _ | refine Blk.drew ?_))
 case rest =>
  obtain ⟨b6, nv, rfl, hb6, h6⟩ := hcut; have hbw : Below w.heap.size w wc := (bel w (w.alloc (Obj.cells #[.int .i64 c.kind, .int .i64 c.core, .int .i64 c.fd, .int .i64 c.off, .int .i64 c.num, .string c.path, .string c.path2, .string c.data] 29))).trans (hb6.mono (by simp)); have d0 : wc.cell? ⟨b6, 0, none⟩ = some (.int .i64 r.code) := h6.cell 0; have i6 := h6.lt; have hbxc : Blk wc w.heap.size #[.int .i64 c.kind, .int .i64 c.core, .int .i64 c.fd, .int .i64 c.off, .int .i64 c.num, .string c.path, .string c.path2, .string c.data] 29 := (Blk.new w #[.int .i64 c.kind, .int .i64 c.core, .int .i64 c.fd, .int .i64 c.off, .int .i64 c.num, .string c.path, .string c.path2, .string c.data] 29).below hb6 (by simp); have y0 : wc.cell? ⟨w.heap.size, 0, none⟩ = some (.int .i64 c.kind) := hbxc.cell 0; have y1 : wc.cell? ⟨w.heap.size, 1, none⟩ = some (.int .i64 c.core) := hbxc.cell 1; have y2 : wc.cell? ⟨w.heap.size, 2, none⟩ = some (.int .i64 c.fd) := hbxc.cell 2; have y3 : wc.cell? ⟨w.heap.size, 3, none⟩ = some (.int .i64 c.off) := hbxc.cell 3; have y4 : wc.cell? ⟨w.heap.size, 4, none⟩ = some (.int .i64 c.num) := hbxc.cell 4; have y5 : wc.cell? ⟨w.heap.size, 5, none⟩ = some (.string c.path) := hbxc.cell 5; have y6 : wc.cell? ⟨w.heap.size, 6, none⟩ = some (.string c.path2) := hbxc.cell 6; have y7 : wc.cell? ⟨w.heap.size, 7, none⟩ = some (.string c.data) := hbxc.cell 7; have iXc := hbxc.lt; clear hbxc h6; rcases hfb : (r.code == 0) with _ | _
  · have HRW := Lib.hid hfb
    go_upto_region 3 with fail
    refine abs_world (F := fun wA => VwNew wA wc.heap.size p c false ∧ Below wc.heap.size wc wA) ⟨Blk.new _ _ _, bel _ _⟩ ?_; clear d0; rintro wA ⟨hN, hbA⟩; have hcall := HP.out wA wc.heap.size false hN ⟨w, HSP.out, Nat.le_trans (by simp) hb6.size, hbw.trans (hbA.mono hbw.size)⟩; have HA := Lib.hid hbA; clear hN hbA hfb
    go_upto_region 4 with (go_at_call 44; refine hcall.mono ?_; rintro e w3 ⟨rfl, hv3, hb3⟩; have HV3 := Lib.hid (And.intro hv3 hb3); clear hv3 hb3)
    clear hcall; refine abs_world (F := fun wB => VwAt wB wc.heap.size p c false L T M by_ co go ∧ Below wc.heap.size wc wB) ⟨HV3.out.1, HA.out.trans HV3.out.2⟩ ?_; clear HV3 HA; rintro wB ⟨hvB, hbB⟩; have hB0 : Below (w.alloc (Obj.cells #[.int .i64 c.kind, .int .i64 c.core, .int .i64 c.fd, .int .i64 c.off, .int .i64 c.num, .string c.path, .string c.path2, .string c.data] 29)).heap.size (w.alloc (Obj.cells #[.int .i64 c.kind, .int .i64 c.core, .int .i64 c.fd, .int .i64 c.off, .int .i64 c.num, .string c.path, .string c.path2, .string c.data] 29)) wB := hb6.trans (hbB.mono hb6.size); have hBw : Below w.heap.size w wB := hbw.trans (hbB.mono hbw.size); have hbxB : Blk wB w.heap.size #[.int .i64 c.kind, .int .i64 c.core, .int .i64 c.fd, .int .i64 c.off, .int .i64 c.num, .string c.path, .string c.path2, .string c.data] 29 := (Blk.new w #[.int .i64 c.kind, .int .i64 c.core, .int .i64 c.fd, .int .i64 c.off, .int .i64 c.num, .string c.path, .string c.path2, .string c.data] 29).below hB0 (by simp); have x0 : wB.cell? ⟨w.heap.size, 0, none⟩ = some (.int .i64 c.kind) := hbxB.cell 0; have x1 : wB.cell? ⟨w.heap.size, 1, none⟩ = some (.int .i64 c.core) := hbxB.cell 1; have x2 : wB.cell? ⟨w.heap.size, 2, none⟩ = some (.int .i64 c.fd) := hbxB.cell 2; have iXB := hbxB.lt; have iPB : BlockLt p wB := ⟨by have := hBw.size; omega⟩
    have p1 : wB.cell? ⟨p, 1, none⟩ = some ov := (hBw.cell (p := ⟨p, 1, none⟩) hl).trans c1; have hrow : RowAt wB 3 ov (S.op.map PDesc.cells) := HS.out.1.below hBw (Nat.le_refl _); have hidx : ∀ ww, Below wB.heap.size wB ww → Calls Tryz.prog 45 #[ov, .func (.func 46) #[] #[.pointer (some ⟨w.heap.size, 0, none⟩)]] ww _ := fun ww hb =>
     index45v S.op ov (.pointer (some ⟨w.heap.size, 0, none⟩)) (isFd c) ww (hrow.below hb (Nat.le_refl _)) hop (fun z wz _ hz => of46 c z w.heap.size wz ⟨by have := iXB.lt; have := hb.size; have := hz.size; omega⟩ ((hz.cell (p := ⟨w.heap.size, 1, none⟩) (by have := iXB.lt; have := hb.size; show w.heap.size < ww.heap.size; omega)).trans ((hb.cell (p := ⟨w.heap.size, 1, none⟩) iXB.lt).trans x1)) ((hz.cell (p := ⟨w.heap.size, 2, none⟩) (by have := iXB.lt; have := hb.size; show w.heap.size < ww.heap.size; omega)).trans ((hb.cell (p := ⟨w.heap.size, 2, none⟩) iXB.lt).trans x2)))
    generalize idxM (isFd c) S.op = I at hidx; have hvb : wB.cell? ⟨wc.heap.size, 9, none⟩ = some (.bool false) := by obtain ⟨_, _, _, h, _⟩ := hvB; exact h.cell 9
    have iVB : BlockLt wc.heap.size wB := by obtain ⟨_, _, _, h, _⟩ := hvB; exact h.lt
    have HB := Lib.hid (And.intro hvB (And.intro hBw hBw.size)); clear hvB hbB hB0 hBw hbxB hrow; by_cases hI : 0 ≤ I
    all_goals
     go_upto_region 16 with (go_at_call 45; refine aT (hidx _ (bel wB _)) fun pj => ?_)
     refine abs_world (F := fun wD => VwAt wD wc.heap.size p c false L T M by_ co go ∧ Below w.heap.size w wD) ⟨HB.out.1.below (bel wB _), HB.out.2.1.trans ((bel wB _).mono HB.out.2.2)⟩ ?_; clear x0 x1 x2 iXB iPB p1 hidx hvb iVB; rintro wD ⟨hvD, hbD⟩; obtain ⟨lv, tv, mv', g1, g2, g3, g4⟩ := id hvD; have d11 : wD.cell? ⟨wc.heap.size, 11, none⟩ = some tv := g1.cell 11; have d14 : wD.cell? ⟨wc.heap.size, 14, none⟩ = some (.int .i64 co) := g1.cell 14; have d15 : wD.cell? ⟨wc.heap.size, 15, none⟩ = some (.int .i64 go) := g1.cell 15; have f11 := g1.frozen 11; have f14 := g1.frozen 14; have f15 := g1.frozen 15; have iD := g1.lt; have hcut := hvD.cut; have hbc : Below w.heap.size w (((wD.setCell ⟨wc.heap.size, 11, none⟩ (.slice none 0 0)).setCell ⟨wc.heap.size, 14, none⟩ (.int .i64 0)).setCell ⟨wc.heap.size, 15, none⟩ (.int .i64 0)) := ((hbD.setCell (p := ⟨wc.heap.size, 11, none⟩) hbw.size _).setCell (p := ⟨wc.heap.size, 14, none⟩) hbw.size _).setCell (p := ⟨wc.heap.size, 15, none⟩) hbw.size _; have HD := Lib.hid (And.intro hcut hbc); clear hvD hbD hcut hbc g1 g2 g3 g4; go_wp2_with fail; exact bodyPost_ret (v := .pointer (some ⟨wc.heap.size, 0, none⟩)) (by simp [results, Tryz.results23, go_sem]) rfl ⟨_, rfl, by rw [HRW.out]; exact HD.out.1, HD.out.2⟩
  · have HRW := Lib.hid hfb
    go_upto_region 3 with fail
    refine abs_world (F := fun wA => VwNew wA wc.heap.size p c true ∧ Below wc.heap.size wc wA) ⟨Blk.new _ _ _, bel _ _⟩ ?_; clear d0; rintro wA ⟨hN, hbA⟩; have hcall := HP.out wA wc.heap.size true hN ⟨w, HSP.out, Nat.le_trans (by simp) hb6.size, hbw.trans (hbA.mono hbw.size)⟩; have HA := Lib.hid hbA; clear hN hbA hfb
    go_upto_region 4 with (go_at_call 44; refine hcall.mono ?_; rintro e w3 ⟨rfl, hv3, hb3⟩; have HV3 := Lib.hid (And.intro hv3 hb3); clear hv3 hb3)
    clear hcall; refine abs_world (F := fun wB => VwAt wB wc.heap.size p c true L T M by_ co go ∧ Below wc.heap.size wc wB) ⟨HV3.out.1, HA.out.trans HV3.out.2⟩ ?_; clear HV3 HA; rintro wB ⟨hvB, hbB⟩; have hB0 : Below (w.alloc (Obj.cells #[.int .i64 c.kind, .int .i64 c.core, .int .i64 c.fd, .int .i64 c.off, .int .i64 c.num, .string c.path, .string c.path2, .string c.data] 29)).heap.size (w.alloc (Obj.cells #[.int .i64 c.kind, .int .i64 c.core, .int .i64 c.fd, .int .i64 c.off, .int .i64 c.num, .string c.path, .string c.path2, .string c.data] 29)) wB := hb6.trans (hbB.mono hb6.size); have hBw : Below w.heap.size w wB := hbw.trans (hbB.mono hbw.size); have hbxB : Blk wB w.heap.size #[.int .i64 c.kind, .int .i64 c.core, .int .i64 c.fd, .int .i64 c.off, .int .i64 c.num, .string c.path, .string c.path2, .string c.data] 29 := (Blk.new w #[.int .i64 c.kind, .int .i64 c.core, .int .i64 c.fd, .int .i64 c.off, .int .i64 c.num, .string c.path, .string c.path2, .string c.data] 29).below hB0 (by simp); have x0 : wB.cell? ⟨w.heap.size, 0, none⟩ = some (.int .i64 c.kind) := hbxB.cell 0; have x1 : wB.cell? ⟨w.heap.size, 1, none⟩ = some (.int .i64 c.core) := hbxB.cell 1; have x2 : wB.cell? ⟨w.heap.size, 2, none⟩ = some (.int .i64 c.fd) := hbxB.cell 2; have iXB := hbxB.lt; have iPB : BlockLt p wB := ⟨by have := hBw.size; omega⟩
    have p1 : wB.cell? ⟨p, 1, none⟩ = some ov := (hBw.cell (p := ⟨p, 1, none⟩) hl).trans c1; have hrow : RowAt wB 3 ov (S.op.map PDesc.cells) := HS.out.1.below hBw (Nat.le_refl _); have hidx : ∀ ww, Below wB.heap.size wB ww → Calls Tryz.prog 45 #[ov, .func (.func 46) #[] #[.pointer (some ⟨w.heap.size, 0, none⟩)]] ww _ := fun ww hb =>
     index45v S.op ov (.pointer (some ⟨w.heap.size, 0, none⟩)) (isFd c) ww (hrow.below hb (Nat.le_refl _)) hop (fun z wz _ hz => of46 c z w.heap.size wz ⟨by have := iXB.lt; have := hb.size; have := hz.size; omega⟩ ((hz.cell (p := ⟨w.heap.size, 1, none⟩) (by have := iXB.lt; have := hb.size; show w.heap.size < ww.heap.size; omega)).trans ((hb.cell (p := ⟨w.heap.size, 1, none⟩) iXB.lt).trans x1)) ((hz.cell (p := ⟨w.heap.size, 2, none⟩) (by have := iXB.lt; have := hb.size; show w.heap.size < ww.heap.size; omega)).trans ((hb.cell (p := ⟨w.heap.size, 2, none⟩) iXB.lt).trans x2)))
    generalize idxM (isFd c) S.op = I at hidx; have hvb : wB.cell? ⟨wc.heap.size, 9, none⟩ = some (.bool true) := by obtain ⟨_, _, _, h, _⟩ := hvB; exact h.cell 9
    have iVB : BlockLt wc.heap.size wB := by obtain ⟨_, _, _, h, _⟩ := hvB; exact h.lt
    have HB := Lib.hid (And.intro hvB (And.intro hBw hBw.size)); clear hvB hbB hB0 hBw hbxB hrow; by_cases hI : 0 ≤ I
    all_goals
     go_wp2_with (go_at_call 45; refine aT (hidx _ (bel wB _)) fun pj => ?_)
     exact bodyPost_ret (v := .pointer (some ⟨wc.heap.size, 0, none⟩)) (by simp [results, Tryz.results23, go_sem]) rfl ⟨_, rfl, by rw [HRW.out]; exact HB.out.1.below (bel wB _), HB.out.2.1.trans ((bel wB _).mono HB.out.2.2)⟩
def meetB (L2 T2 : List (Int × Int)) (q : Int × Int) : Bool := L2.any (isPair q) || T2.any (isPair q)
def meetsM (T L2 T2 : List (Int × Int)) : Bool := T.any (meetB L2 T2)
theorem any_drop {α : Type} {F : α → Bool} {zs : List α} {q : Nat} {z : α} (h : zs[q]? = some z) : (zs.drop q).any F = (F z || (zs.drop (q + 1)).any F) := by rw [drop_at h]; rfl
theorem meets24 (k1 k2 p1 p2 : Nat) (c1 c2 : PCall) (f1 f2 : Bool) (L1 T1 L2 T2 : List (Int × Int)) (M1 M2 : List Int) (b1 o1 g1 b2 o2 g2 : Int) (w : World) (h1 : VwAt w k1 p1 c1 f1 L1 T1 M1 b1 o1 g1) (h2 : VwAt w k2 p2 c2 f2 L2 T2 M2 b2 o2 g2)
 (hT1 : T1.length ≤ 1000000000) (hL2 : L2.length ≤ 1000000000) (hT2 : T2.length ≤ 1000000000) :
 Calls Tryz.prog 24 #[.pointer (some ⟨k1, 0, none⟩), .pointer (some ⟨k2, 0, none⟩)] w fun e w' => e = .returned (.bool (meetsM T1 L2 T2)) ∧ Below w.heap.size w w' := by
 obtain ⟨lv1, tv1, mv1, e1, _, et1, _⟩ := h1.rows
 obtain ⟨lv2, tv2, mv2, e2, el2, et2, _⟩ := h2.rows
 have i1 := e1.lt
 have i2 := e2.lt
 have x11 : w.cell? ⟨k1, 11, none⟩ = some tv1 := e1.cell 11
 have z10 : w.cell? ⟨k2, 10, none⟩ = some lv2 := e2.cell 10
 have z11 : w.cell? ⟨k2, 11, none⟩ = some tv2 := e2.cell 11
 have hc1 : ∀ ww q, Below w.heap.size w ww → Calls Tryz.prog 47 #[lv2, pairAt q] ww _ := fun ww q hb => contains47 L2 lv2 q ww (el2.below hb (Nat.le_refl _)) hL2
 have hc2 : ∀ ww q, Below w.heap.size w ww → Calls Tryz.prog 47 #[tv2, pairAt q] ww _ := fun ww q hb => contains47 T2 tv2 q ww (et2.below hb (Nat.le_refl _)) hT2
 have ho1 := el2.one
 have ho2 := et2.one
 obtain ⟨a1, cap1, rfl, hat⟩ := et1.at_
 rw [lM] at x11
 have HA := Lib.hid hat
 clear h1 h2 e1 e2 el2 et1 et2 hat
 unfold meetsM
 obtain ⟨R, hR⟩ : ∃ R, T1.any (meetB L2 T2) = R := ⟨_, rfl⟩
 rw [hR]
 have HR := Lib.hid hR
 clear hR
 unfold pairAt at hc1 hc2
 go_enter Tryz.func24, Tryz.ntmps24
 go_wp2_with fail
 go_loopw [12] (fun i wr => ∃ (q : Nat), i = .int .i64 q ∧ q ≤ T1.length ∧ (T1.drop q).any (meetB L2 T2) = R ∧ Below w.heap.size w wr) (fun i _ => (T1.length - intOf i).toNat)
 case atStart => exact ⟨0, rfl, by omega, HR.out, bel _ _⟩
 case round =>
  obtain ⟨q, rfl, hq, hre, hb⟩ := hrel; have iB : Bel w wr := ⟨hb⟩
  have j2 : BlockLt k2 wr := ⟨by have := hb.size; have := i2.lt; omega⟩
  have y10 : wr.cell? ⟨k2, 10, none⟩ = some lv2 := (hb.cell (p := ⟨k2, 10, none⟩) i2.lt).trans z10; have y11 : wr.cell? ⟨k2, 11, none⟩ = some tv2 := (hb.cell (p := ⟨k2, 11, none⟩) i2.lt).trans z11; by_cases hlt : q < T1.length
  · obtain ⟨z, hz⟩ : ∃ z, T1[q]? = some z := ⟨_, gE hlt⟩
    obtain ⟨b, off, rfl, iG0, iG, hc⟩ := HA.out wr hb q (prCells z) (by rw [gM, hz]; rfl); have c0 := hc 0 _ rfl; have c1 := hc 1 _ rfl; rw [Nat.add_zero] at c0; rw [any_drop hz] at hre; rw [show meetB L2 T2 z = (L2.any (isPair z) || T2.any (isPair z)) from rfl] at hre; have hd1 : ∀ ww, Below w.heap.size w ww → Calls Tryz.prog 47 #[lv2, .agg #[.int .i64 z.1, .int .i64 z.2]] ww fun e w' => e = .returned (.bool (L2.any (isPair z))) ∧ Below ww.heap.size ww w' := fun ww hb => hc1 ww z hb
    have hd2 : ∀ ww, Below w.heap.size w ww → Calls Tryz.prog 47 #[tv2, .agg #[.int .i64 z.1, .int .i64 z.2]] ww fun e w' => e = .returned (.bool (T2.any (isPair z))) ∧ Below ww.heap.size ww w' := fun ww hb => hc2 ww z hb
    obtain ⟨z1, z2⟩ := z; simp only at c0 c1 hd1 hd2; generalize L2.any (isPair (z1, z2)) = a1 at hre hd1; generalize T2.any (isPair (z1, z2)) = a2 at hre hd2; clear hc hz hc1 hc2; rcases a1 with _ | _
    · rcases a2 with _ | _
      · simp only [Bool.false_or] at hre; have HR2 := Lib.hid hre; clear hre
        go_upto_region 4 with fail
        refine wp_region_quiet_rest (by kernel_rfl) (by kernel_rfl) (WQ.out ?_)
        repeat
         refine WQ_step (fun K hK => ?_); go_simp
         first
          | (refine hK _ ?_; clear hK K)
          | (apply Exists.intro
             refine ⟨fun _ => ?_, hK _ ?_⟩
             focus (first | (refine calls_in (hd1 _ (bel w _)) (fun w' hb => ?_); first | exact hb.rest | exact rest1 hb | exact rest2 hb) | (refine calls_in (hd2 _ (bel w _)) (fun w' hb => ?_); first | exact hb.rest | exact rest1 hb | exact rest2 hb))
             clear hK K)
        refine WQ_nil ?_; intro w1 hw1; obtain ⟨p, hw1⟩ := hw1; subst hw1; go_wp2_with fail
        go_roundw
        case rel => exact ⟨q + 1, by go_num, by omega, HR2.out, bel _ _⟩
        case measure => simp [intOf]; omega
      · simp only [Bool.false_or, Bool.true_or] at hre; subst hre
        go_upto_region 4 with fail
        refine wp_region_quiet_rest (by kernel_rfl) (by kernel_rfl) (WQ.out ?_)
        repeat
         refine WQ_step (fun K hK => ?_); go_simp
         first
          | (refine hK _ ?_; clear hK K)
          | (apply Exists.intro
             refine ⟨fun _ => ?_, hK _ ?_⟩
             focus (first | (refine calls_in (hd1 _ (bel w _)) (fun w' hb => ?_); first | exact hb.rest | exact rest1 hb | exact rest2 hb) | (refine calls_in (hd2 _ (bel w _)) (fun w' hb => ?_); first | exact hb.rest | exact rest1 hb | exact rest2 hb))
             clear hK K)
        refine WQ_nil ?_; intro w1 hw1; obtain ⟨p, hw1⟩ := hw1; subst hw1; go_wp2_with fail; exact bodyPost_ret (v := .bool true) (by simp [results, Tryz.results24, go_sem]) rfl ⟨rfl, bel _ _⟩
    · simp only [Bool.true_or] at hre; subst hre
      go_upto_region 4 with fail
      refine wp_region_quiet_rest (by kernel_rfl) (by kernel_rfl) (WQ.out ?_)
      repeat
       refine WQ_step (fun K hK => ?_); go_simp
       first
        | (refine hK _ ?_; clear hK K)
        | (apply Exists.intro
           refine ⟨fun _ => ?_, hK _ ?_⟩
           focus (first | (refine calls_in (hd1 _ (bel w _)) (fun w' hb => ?_); first | exact hb.rest | exact rest1 hb | exact rest2 hb) | (refine calls_in (hd2 _ (bel w _)) (fun w' hb => ?_); first | exact hb.rest | exact rest1 hb | exact rest2 hb))
           clear hK K)
      refine WQ_nil ?_; intro w1 hw1; obtain ⟨p, hw1⟩ := hw1; subst hw1; go_wp2_with fail; exact bodyPost_ret (v := .bool true) (by simp [results, Tryz.results24, go_sem]) rfl ⟨rfl, bel _ _⟩
  · rw [List.drop_of_length_le (by omega)] at hre; simp only [List.any_nil] at hre; subst hre; go_wp2_with fail; exact bodyPost_ret (v := .bool false) (by simp [results, Tryz.results24, go_sem]) rfl ⟨rfl, bel _ _⟩
theorem counted26 (k1 k2 p1 p2 : Nat) (c1 c2 : PCall) (f1 f2 : Bool) (L1 T1 L2 T2 : List (Int × Int)) (M1 M2 : List Int) (b1 o1 b2 o2 g2 : Int) (w : World) (h1 : VwAt w k1 p1 c1 f1 L1 T1 M1 b1 o1 0) (h2 : VwAt w k2 p2 c2 f2 L2 T2 M2 b2 o2 g2)
 (hc : o1 = 0 ∨ c2.kind ≠ 14) :
 Calls Tryz.prog 26 #[.pointer (some ⟨k1, 0, none⟩), .pointer (some ⟨k2, 0, none⟩)] w fun e w' => e = .returned (.bool false) ∧ Below w.heap.size w w' := by
 obtain ⟨lv1, tv1, mv1, e1, _⟩ := h1.rows
 obtain ⟨lv2, tv2, mv2, e2, _⟩ := h2.rows
 have i1 := e1.lt
 have i2 := e2.lt
 have x14 : w.cell? ⟨k1, 14, none⟩ = some (.int .i64 o1) := e1.cell 14
 have x15 : w.cell? ⟨k1, 15, none⟩ = some (.int .i64 0) := e1.cell 15
 have z1 : w.cell? ⟨k2, 1, none⟩ = some (.int .i64 c2.kind) := e2.cell 1
 clear h1 h2 e1 e2
 generalize hb1 : (o1 != 0) = u1
 generalize hb2 : (c2.kind == 14) = u2
 have hcase : u1 = false ∨ (u1 = true ∧ u2 = false) := by
  rcases u1 with _ | _
  · exact .inl rfl
  · refine .inr ⟨rfl, ?_⟩; rcases hc with h | h
    · subst h; simp at hb1
    · rw [← hb2]; simpa using h
 clear hc
 rcases hcase with rfl | ⟨rfl, rfl⟩
 all_goals
  go_enter Tryz.func26, Tryz.ntmps26
  go_upto_region 1 with fail
  refine wp_region_quiet_rest (by kernel_rfl) (by kernel_rfl) (WQ.out ?_)
  repeat
   refine WQ_step (fun K hK => ?_); go_simp
   first
    | (refine hK _ ?_; clear hK K)
    | (apply Exists.intro
       refine ⟨fun _ => ?_, hK _ ?_⟩
       focus (fail)
       clear hK K)
  refine WQ_nil ?_; intro w1 hw1; obtain ⟨p, hw1⟩ := hw1; subst hw1
  go_upto_region 3 with fail
  refine wp_region_quiet_rest (by kernel_rfl) (by kernel_rfl) (WQ.out ?_)
  repeat
   refine WQ_step (fun K hK => ?_); go_simp
   first
    | (refine hK _ ?_; clear hK K)
    | (apply Exists.intro
       refine ⟨fun _ => ?_, hK _ ?_⟩
       focus (fail)
       clear hK K)
  refine WQ_nil ?_; intro w1 hw1; obtain ⟨p, hw1⟩ := hw1; subst hw1; go_wp2_with fail; go_ret; exact ⟨rfl, bel _ _⟩
def HasView (S : PSt) (c : PCall) (fine : Bool) (L T : List (Int × Int)) (M : List Int) (by_ co : Int) : Prop := ∀ (ww : World) (p : Nat), SP ww p S → Calls Tryz.prog 23 #[.pointer (some ⟨p, 0, none⟩), .agg #[.int .i64 c.kind, .int .i64 c.core, .int .i64 c.fd, .int .i64 c.off, .int .i64 c.num, .string c.path, .string c.path2, .string c.data]] ww fun e w' => ∃ k, e = .returned (.pointer (some ⟨k, 0, none⟩)) ∧ VwAt w' k p c fine L T M by_ co 0 ∧ Below ww.heap.size ww w'
theorem apart_yes (iv ov mv : Value) (S : PSt) (x y : PCall) (f1 f2 : Bool) (L1 T1 L2 T2 : List (Int × Int)) (M1 M2 : List Int) (b1 o1 b2 o2 : Int) (w : World) (h : StRead w iv ov mv S) (hwf : S.wf) (hask0 : askedM S x y = true) (hx : x.kind < 15) (hy : y.kind < 15)
 (V1 : HasView S x f1 L1 T1 M1 b1 o1) (V2 : HasView S y f2 L2 T2 M2 b2 o2) (hby : b1 = 0 ∨ b1 ≠ b2) (hc1 : o1 = 0 ∨ y.kind ≠ 14) (hc2 : o2 = 0 ∨ x.kind ≠ 14)
 (l1 : L1.length ≤ 1000000000) (l2 : L2.length ≤ 1000000000) (t1 : T1.length ≤ 1000000000) (t2 : T2.length ≤ 1000000000) :
 Calls Tryz.prog 10 #[.agg #[iv, ov, mv], x.val, y.val] w fun e w' => e = .returned (.bool (!(meetsM T1 L2 T2 || meetsM T2 L1 T1))) ∧ Below w.heap.size w w' := by
 have hio : iv.oneCell' = true := by obtain ⟨_, _, _, h3, _⟩ := h; exact h3.one
 have hoo := h.1.one
 have hmo := h.2.1.one
 have hask : ∀ ww k1 k2 k3, Below w.heap.size w ww → Blk ww k1 #[iv, ov, mv] 27 → Blk ww k2 #[.int .i64 x.kind, .int .i64 x.core, .int .i64 x.fd, .int .i64 x.off, .int .i64 x.num, .string x.path, .string x.path2, .string x.data] 29 → Blk ww k3 #[.int .i64 y.kind, .int .i64 y.core, .int .i64 y.fd, .int .i64 y.off, .int .i64 y.num, .string y.path, .string y.path2, .string y.data] 29 →
  Calls Tryz.prog 19 #[.pointer (some ⟨k1, 0, none⟩), .pointer (some ⟨k2, 0, none⟩), .pointer (some ⟨k3, 0, none⟩)] ww fun e w' => e = .returned (.bool true) ∧ Below ww.heap.size ww w' := fun ww k1 k2 k3 hb h1 h2 h3 => by
  have := asked19 k1 k2 k3 S x y ww (SP.of_blk h1 (h.below hb (Nat.le_refl _))) hwf (CP.of_blk h2) (CP.of_blk h3); rw [hask0] at this; exact this
 have HS := Lib.hid h
 obtain ⟨r1, hr1⟩ : ∃ r, meetsM T1 L2 T2 = r := ⟨_, rfl⟩
 obtain ⟨r2, hr2⟩ : ∃ r, meetsM T2 L1 T1 = r := ⟨_, rfl⟩
 rw [hr1, hr2]
 have HR1 := Lib.hid hr1
 have HR2 := Lib.hid hr2
 clear h hwf hask0 hr1 hr2
 unfold PCall.val
 go_enter Tryz.func10, Tryz.ntmps10
 go_upto_region 3 with (go_at_call 19; refine aT (hask _ _ _ _ (bel _ _) (by repeat (first | exact Blk.new_i _ _ _ _ | refine Blk.alloc ?_ _)) (by repeat (first | exact Blk.new_i _ _ _ _ | refine Blk.alloc ?_ _)) (by repeat (first | exact Blk.new_i _ _ _ _ | refine Blk.alloc ?_ _))) fun p => ?_)
 have F0 : ∀ (W : World), W = (((w.alloc (Obj.cells #[iv, ov, mv] 27)).alloc (Obj.cells #[.int .i64 x.kind, .int .i64 x.core, .int .i64 x.fd, .int .i64 x.off, .int .i64 x.num, .string x.path, .string x.path2, .string x.data] 29)).alloc (Obj.cells #[.int .i64 y.kind, .int .i64 y.core, .int .i64 y.fd, .int .i64 y.off, .int .i64 y.num, .string y.path, .string y.path2, .string y.data] 29)).junk p → SP W w.heap.size S ∧ Blk W (w.heap.size + 1) #[.int .i64 x.kind, .int .i64 x.core, .int .i64 x.fd, .int .i64 x.off, .int .i64 x.num, .string x.path, .string x.path2, .string x.data] 29 ∧ Blk W (w.heap.size + 1 + 1) #[.int .i64 y.kind, .int .i64 y.core, .int .i64 y.fd, .int .i64 y.off, .int .i64 y.num, .string y.path, .string y.path2, .string y.data] 29 ∧ Below w.heap.size w W := by
  rintro W rfl; exact ⟨SP.of_blk ((((Blk.new w _ 27).alloc _).alloc _).junk _) (HS.out.below (bel w _) (Nat.le_refl _)), ((Blk.new_i _ _ _ _).alloc _).junk _, (Blk.new_i _ _ _ _).junk _, bel w _⟩
 refine abs_world (F := fun W => SP W w.heap.size S ∧ Blk W (w.heap.size + 1) #[.int .i64 x.kind, .int .i64 x.core, .int .i64 x.fd, .int .i64 x.off, .int .i64 x.num, .string x.path, .string x.path2, .string x.data] 29 ∧ Blk W (w.heap.size + 1 + 1) #[.int .i64 y.kind, .int .i64 y.core, .int .i64 y.fd, .int .i64 y.off, .int .i64 y.num, .string y.path, .string y.path2, .string y.data] 29 ∧ Below w.heap.size w W) (F0 _ rfl) ?_
 clear hask F0
 rintro W ⟨hsp, hbx, hby2, hbW⟩
 have iX := hbx.lt
 have iY := hby2.lt
 have u0 : W.cell? ⟨w.heap.size + 1, 0, none⟩ = some (.int .i64 x.kind) := hbx.cell 0
 have u1 : W.cell? ⟨w.heap.size + 1, 1, none⟩ = some (.int .i64 x.core) := hbx.cell 1
 have u2 : W.cell? ⟨w.heap.size + 1, 2, none⟩ = some (.int .i64 x.fd) := hbx.cell 2
 have u3 : W.cell? ⟨w.heap.size + 1, 3, none⟩ = some (.int .i64 x.off) := hbx.cell 3
 have u4 : W.cell? ⟨w.heap.size + 1, 4, none⟩ = some (.int .i64 x.num) := hbx.cell 4
 have u5 : W.cell? ⟨w.heap.size + 1, 5, none⟩ = some (.string x.path) := hbx.cell 5
 have u6 : W.cell? ⟨w.heap.size + 1, 6, none⟩ = some (.string x.path2) := hbx.cell 6
 have u7 : W.cell? ⟨w.heap.size + 1, 7, none⟩ = some (.string x.data) := hbx.cell 7
 have v0 : W.cell? ⟨w.heap.size + 1 + 1, 0, none⟩ = some (.int .i64 y.kind) := hby2.cell 0
 have v1 : W.cell? ⟨w.heap.size + 1 + 1, 1, none⟩ = some (.int .i64 y.core) := hby2.cell 1
 have v2 : W.cell? ⟨w.heap.size + 1 + 1, 2, none⟩ = some (.int .i64 y.fd) := hby2.cell 2
 have v3 : W.cell? ⟨w.heap.size + 1 + 1, 3, none⟩ = some (.int .i64 y.off) := hby2.cell 3
 have v4 : W.cell? ⟨w.heap.size + 1 + 1, 4, none⟩ = some (.int .i64 y.num) := hby2.cell 4
 have v5 : W.cell? ⟨w.heap.size + 1 + 1, 5, none⟩ = some (.string y.path) := hby2.cell 5
 have v6 : W.cell? ⟨w.heap.size + 1 + 1, 6, none⟩ = some (.string y.path2) := hby2.cell 6
 have v7 : W.cell? ⟨w.heap.size + 1 + 1, 7, none⟩ = some (.string y.data) := hby2.cell 7
 have HW := Lib.hid (And.intro hsp hbW)
 clear hsp hbx hby2 hbW
 refine wp_region_eff [1, 3] false (fun w' => w'.cell? ⟨w.heap.size + 1, 0, none⟩ = some (.int .i64 x.kind) ∧ w'.cell? ⟨w.heap.size + 1, 1, none⟩ = some (.int .i64 x.core) ∧ w'.cell? ⟨w.heap.size + 1, 2, none⟩ = some (.int .i64 x.fd) ∧ w'.cell? ⟨w.heap.size + 1, 3, none⟩ = some (.int .i64 x.off) ∧ w'.cell? ⟨w.heap.size + 1, 4, none⟩ = some (.int .i64 x.num) ∧ w'.cell? ⟨w.heap.size + 1, 5, none⟩ = some (.string x.path) ∧ w'.cell? ⟨w.heap.size + 1, 6, none⟩ = some (.string x.path2) ∧ w'.cell? ⟨w.heap.size + 1, 7, none⟩ = some (.string x.data) ∧ w'.cell? ⟨w.heap.size + 1 + 1, 0, none⟩ = some (.int .i64 y.kind) ∧ w'.cell? ⟨w.heap.size + 1 + 1, 1, none⟩ = some (.int .i64 y.core) ∧ w'.cell? ⟨w.heap.size + 1 + 1, 2, none⟩ = some (.int .i64 y.fd) ∧ w'.cell? ⟨w.heap.size + 1 + 1, 3, none⟩ = some (.int .i64 y.off) ∧ w'.cell? ⟨w.heap.size + 1 + 1, 4, none⟩ = some (.int .i64 y.num) ∧ w'.cell? ⟨w.heap.size + 1 + 1, 5, none⟩ = some (.string y.path) ∧ w'.cell? ⟨w.heap.size + 1 + 1, 6, none⟩ = some (.string y.path2) ∧ w'.cell? ⟨w.heap.size + 1 + 1, 7, none⟩ = some (.string y.data)) (by kernel_rfl) (by kernel_rfl) ?_ ?_
 · (try dsimp only); (repeat' apply And.intro) <;> go_simp
 repeat
  refine wpL_look rfl rfl ?_; apply Exists.intro; refine ⟨?_, ?_⟩
  focus
   rintro w' ⟨s0, s1, s2, s3, s4, s5, s6, s7, s8, s9, s10, s11, s12, s13, s14, s15⟩; go_simp
   first | done | rfl
  simp only [Act.put, sA, sZ, sS]
 refine wpL_act rfl rfl ?_
 refine eff_call 23 #[.pointer (some ⟨w.heap.size, 0, none⟩), .agg #[.int .i64 x.kind, .int .i64 x.core, .int .i64 x.fd, .int .i64 x.off, .int .i64 x.num, .string x.path, .string x.path2, .string x.data]] ?hr1 ?_
 case hr1 =>
  go_simp
  first | done | rfl
 refine (V1 _ w.heap.size (HW.out.1.below (bel W _) (Nat.le_refl _))).mono ?_
 rintro e w' ⟨k1, rfl, hv1, hb⟩
 obtain ⟨q1, rfl⟩ := hb.rest
 clear hb
 have HV1 := Lib.hid hv1
 clear hv1
 refine ⟨_, rfl, .inl ?_, ?_⟩
 · (try dsimp only); (repeat' apply And.intro) <;> go_simp
 simp only [Act.put, sA, sZ, sS]
 repeat
  refine wpL_look rfl rfl ?_; apply Exists.intro; refine ⟨?_, ?_⟩
  focus
   rintro w' ⟨s0, s1, s2, s3, s4, s5, s6, s7, s8, s9, s10, s11, s12, s13, s14, s15⟩; go_simp
   first | done | rfl
  simp only [Act.put, sA, sZ, sS]
 refine wpL_act rfl rfl ?_
 refine eff_call 23 #[.pointer (some ⟨w.heap.size, 0, none⟩), .agg #[.int .i64 y.kind, .int .i64 y.core, .int .i64 y.fd, .int .i64 y.off, .int .i64 y.num, .string y.path, .string y.path2, .string y.data]] ?hr2 ?_
 case hr2 =>
  go_simp
  first | done | rfl
 refine (V2 _ w.heap.size (HW.out.1.below (bel W _) (Nat.le_refl _))).mono ?_
 rintro e w' ⟨k2, rfl, hv2, hb⟩
 have hv1' := HV1.out.below hb
 obtain ⟨q2, rfl⟩ := hb.rest
 clear hb
 have HV2 := Lib.hid (And.intro hv1' hv2)
 clear hv1' hv2 HV1
 refine ⟨_, rfl, .inl ?_, ?_⟩
 · (try dsimp only); (repeat' apply And.intro) <;> go_simp
 simp only [Act.put, sA, sZ, sS]
 repeat
  refine wpL_look rfl rfl ?_; apply Exists.intro; refine ⟨?_, ?_⟩
  focus
   rintro w' ⟨s0, s1, s2, s3, s4, s5, s6, s7, s8, s9, s10, s11, s12, s13, s14, s15⟩; go_simp
   first | done | rfl
  simp only [Act.put, sA, sZ, sS]
 refine wpL_end ?_
 go_upto_region 4 with fail
 refine abs_world (F := fun wB => (VwAt wB k1 w.heap.size x f1 L1 T1 M1 b1 o1 0 ∧ VwAt wB k2 w.heap.size y f2 L2 T2 M2 b2 o2 0) ∧ Below w.heap.size w wB) ⟨HV2.out, HW.out.2.trans ((bel W _).mono HW.out.2.size)⟩ ?_
 clear u0 u1 u2 u3 u4 u5 u6 u7 v0 v1 v2 v3 v4 v5 v6 v7 iX iY HW HV2
 rintro wB ⟨⟨g1, g2⟩, hbB⟩
 have m1 : ∀ ww, Below wB.heap.size wB ww → Calls Tryz.prog 24 #[.pointer (some ⟨k1, 0, none⟩), .pointer (some ⟨k2, 0, none⟩)] ww _ := fun ww hb => meets24 k1 k2 w.heap.size w.heap.size x y f1 f2 L1 T1 L2 T2 M1 M2 b1 o1 0 b2 o2 0 ww (g1.below hb) (g2.below hb) t1 l2 t2
 have m2 : ∀ ww, Below wB.heap.size wB ww → Calls Tryz.prog 24 #[.pointer (some ⟨k2, 0, none⟩), .pointer (some ⟨k1, 0, none⟩)] ww _ := fun ww hb => meets24 k2 k1 w.heap.size w.heap.size y x f2 f1 L2 T2 L1 T1 M2 M1 b2 o2 0 b1 o1 0 ww (g2.below hb) (g1.below hb) t2 l1 t1
 have n1 : ∀ ww, Below wB.heap.size wB ww → Calls Tryz.prog 26 #[.pointer (some ⟨k1, 0, none⟩), .pointer (some ⟨k2, 0, none⟩)] ww _ := fun ww hb => counted26 k1 k2 w.heap.size w.heap.size x y f1 f2 L1 T1 L2 T2 M1 M2 b1 o1 b2 o2 0 ww (g1.below hb) (g2.below hb) hc1
 have n2 : ∀ ww, Below wB.heap.size wB ww → Calls Tryz.prog 26 #[.pointer (some ⟨k2, 0, none⟩), .pointer (some ⟨k1, 0, none⟩)] ww _ := fun ww hb => counted26 k2 k1 w.heap.size w.heap.size y x f2 f1 L2 T2 L1 T1 M2 M1 b2 o2 b1 o1 0 ww (g2.below hb) (g1.below hb) hc2
 simp only [HR1.out] at m1
 simp only [HR2.out] at m2
 have y13 : wB.cell? ⟨k1, 13, none⟩ = some (.int .i64 b1) := by obtain ⟨_, _, _, h, _⟩ := g1; exact h.cell 13
 have z13 : wB.cell? ⟨k2, 13, none⟩ = some (.int .i64 b2) := by obtain ⟨_, _, _, h, _⟩ := g2; exact h.cell 13
 have j1 : BlockLt k1 wB := by obtain ⟨_, _, _, h, _⟩ := g1; exact h.lt
 have j2 : BlockLt k2 wB := by obtain ⟨_, _, _, h, _⟩ := g2; exact h.lt
 have HB := Lib.hid hbB
 clear g1 g2 hbB V1 V2
 have hcase : (b1 != 0) = false ∨ ((b1 != 0) = true ∧ (b1 == b2) = false) := by
  by_cases h0 : b1 = 0
  · exact .inl (by simpa using h0)
  · refine .inr ⟨by simpa using h0, ?_⟩; rcases hby with h | h
    · exact absurd h h0
    · simpa using h
 rcases r1 with _ | _
 · rcases r2 with _ | _
   · rcases hcase with hz | ⟨hz, hz2⟩
     all_goals
      go_upto_region 6 with (first | (go_at_call 24; with_reducible refine aT (m1 _ (bel wB _)) fun p => ?_) | (go_at_call 24; with_reducible refine aT (m2 _ (bel wB _)) fun p => ?_) | (go_at_call 26; with_reducible refine aT (n1 _ (bel wB _)) fun p => ?_) | (go_at_call 26; with_reducible refine aT (n2 _ (bel wB _)) fun p => ?_))
      refine wp_region_quiet_rest (by kernel_rfl) (by kernel_rfl) ?_
      repeat
       first
        | go_big_quiet_skip
        | (go_big_quiet_want; go_big_quiet_op; first | go_big_quiet_on | (apply Exists.intro; refine ⟨fun _ => ?_, ?_⟩; (focus (fail)); go_big_quiet_on))
      refine wpQuiet_nil ?_; intro w1 hw1; obtain ⟨p, hw1⟩ := hw1; subst hw1; go_wp2_with (first | (go_at_call 24; with_reducible refine aT (m1 _ (bel wB _)) fun p => ?_) | (go_at_call 24; with_reducible refine aT (m2 _ (bel wB _)) fun p => ?_) | (go_at_call 26; with_reducible refine aT (n1 _ (bel wB _)) fun p => ?_) | (go_at_call 26; with_reducible refine aT (n2 _ (bel wB _)) fun p => ?_))
      go_ret; exact ⟨rfl, HB.out.trans ((bel wB _).mono HB.out.size)⟩
   · go_wp2_with (first | (go_at_call 24; with_reducible refine aT (m1 _ (bel wB _)) fun p => ?_) | (go_at_call 24; with_reducible refine aT (m2 _ (bel wB _)) fun p => ?_) | (go_at_call 26; with_reducible refine aT (n1 _ (bel wB _)) fun p => ?_) | (go_at_call 26; with_reducible refine aT (n2 _ (bel wB _)) fun p => ?_))
     go_ret; exact ⟨rfl, HB.out.trans ((bel wB _).mono HB.out.size)⟩
 · go_wp2_with (first | (go_at_call 24; with_reducible refine aT (m1 _ (bel wB _)) fun p => ?_) | (go_at_call 24; with_reducible refine aT (m2 _ (bel wB _)) fun p => ?_) | (go_at_call 26; with_reducible refine aT (n1 _ (bel wB _)) fun p => ?_) | (go_at_call 26; with_reducible refine aT (n2 _ (bel wB _)) fun p => ?_))
   go_ret; exact ⟨by simp, HB.out.trans ((bel wB _).mono HB.out.size)⟩
end Go.Proofs.YtjkenolgkkknaaaGreatDoor
