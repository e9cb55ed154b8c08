/- Part of the proof that the calls that look alone commute. Conditions: none. -/
import Derived.Test.YtjkenolgkkknaaaGreatDoorLp38
set_option linter.unusedVariables false
set_option linter.unusedSimpArgs false
set_option maxRecDepth 100000
set_option maxHeartbeats 8000000
/- A call's view. Conditions: none. -/
set_option linter.unusedVariables false
set_option linter.unusedSimpArgs false
namespace Go.Proofs.YtjkenolgkkknaaaGreatDoor
open Go.RowKit
theorem of46 (c : PCall) (x : PDesc) (bx : Nat) (w : World) (ib : BlockLt bx w) (h1 : w.cell? ⟨bx, 1, none⟩ = some (.int .i64 c.core)) (h2 : w.cell? ⟨bx, 2, none⟩ = some (.int .i64 c.fd)) :
    Calls Tryz.prog 46 #[.agg #[.int .i64 x.core, .int .i64 x.fd, .int .i64 x.num], .pointer (some ⟨bx, 0, none⟩)] w fun e w' => e = .returned (.bool (isFd c x)) ∧ Below w.heap.size w w' := by
  unfold isFd
  generalize hb1 : (x.core == c.core) = b1
  rcases b1 with _ | _
  · go_enter Tryz.func46, Tryz.ntmps46
    go_wp2_with fail
    go_ret
    exact ⟨by first | rfl | simp_all, bel _ _⟩
  · go_enter Tryz.func46, Tryz.ntmps46
    go_wp2_with fail
    go_ret
    exact ⟨by first | rfl | simp_all, bel _ _⟩
set_option maxRecDepth 100000 in
theorem index45v (zs : List PDesc) (v : Value) (l0 : Value) (p : PDesc → Bool) (w : World) (h : RowAt w 3 v (zs.map PDesc.cells)) (hlen : zs.length ≤ 1000000000)
    (hg : ∀ (z : PDesc) (ww : World), z ∈ zs → Below w.heap.size w ww → Calls Tryz.prog 46 #[.agg #[.int .i64 z.core, .int .i64 z.fd, .int .i64 z.num], l0] ww fun e w' => e = .returned (.bool (p z)) ∧ Below ww.heap.size ww w') :
    Calls Tryz.prog 45 #[v, .func (.func 46) #[] #[l0]] w fun e w' => e = .returned (.int .i64 (idxM p zs)) ∧ Below w.heap.size w w' := by
  obtain ⟨a, cap, rfl, hat⟩ := h.at_
  rw [List.length_map]
  have HA := Lib.hid hat
  clear hat h
  unfold idxM
  obtain ⟨R, hR⟩ : ∃ R, idxFrom p zs 0 = R := ⟨_, rfl⟩
  rw [hR]
  have HR := Lib.hid hR
  clear hR
  go_enter Tryz.func45, Tryz.ntmps45
  go_wp2_with fail
  go_loopw [8] (fun i wr => ∃ (q : Nat), i = .int .i64 q ∧ q ≤ zs.length ∧ idxFrom p (zs.drop q) q = R ∧ Below w.heap.size w wr) (fun i _ => (zs.length - intOf i).toNat)
  case atStart => exact ⟨0, rfl, by omega, HR.out, bel _ _⟩
  case round =>
    obtain ⟨q, rfl, hq, hre, hb⟩ := hrel
    have iB : Bel w wr := ⟨hb⟩
    by_cases hlt : q < zs.length
    · obtain ⟨z, hz⟩ : ∃ z, zs[q]? = some z := ⟨_, List.getElem?_eq_getElem hlt⟩
      obtain ⟨b, off, rfl, iG0, iG, hc⟩ := HA.out wr hb q (PDesc.cells z) (by rw [List.getElem?_map, hz]; rfl)
      have c0 := hc 0 _ rfl
      have c1 := hc 1 _ rfl
      have c2 := hc 2 _ rfl
      rw [idxFrom_drop p zs q z hz] at hre
      have hcall : ∀ ww, Below w.heap.size w ww → Calls Tryz.prog 46 #[.agg #[.int .i64 z.core, .int .i64 z.fd, .int .i64 z.num], l0] ww fun e w' => e = .returned (.bool (p z)) ∧ Below ww.heap.size ww w' := fun ww hww => hg z ww (List.mem_of_getElem? hz) hww
      have HZ := Lib.hid (And.intro hz hre)
      clear hc hz hre hg
      rw [Nat.add_zero] at c0
      generalize hpz : p z = t at hcall HZ
      rcases t with _ | _
      · go_wp2_with (go_at_call 46; refine (hcall _ (bel _ _)).mono ?_; rintro e w' ⟨rfl, hb⟩; obtain ⟨p, rfl⟩ := hb.rest; clear hb)
        go_roundw
        case rel => exact ⟨q + 1, by go_num, by omega, by have := HZ.out.2; simpa using this, bel _ _⟩
        case measure => simp [intOf]; omega
      · have hv : R = q := by have := HZ.out.2; simpa using this.symm
        subst hv
        go_wp2_with (go_at_call 46; refine (hcall _ (bel _ _)).mono ?_; rintro e w' ⟨rfl, hb⟩; obtain ⟨p, rfl⟩ := hb.rest; clear hb)
        exact bodyPost_ret (v := .int .i64 q) (by simp [results, Tryz.results45, go_sem]) rfl ⟨rfl, bel _ _⟩
    · rw [idxFrom_end p zs q hlt] at hre
      subst hre
      clear hg
      go_wp2_with fail
      exact bodyPost_ret (v := .int .i64 (-1)) (by simp [results, Tryz.results45, go_sem]) rfl ⟨rfl, bel _ _⟩
/-- A call's own cells, in a row. -/
def callAr (c : PCall) : Array Value := #[.int .i64 c.kind, .int .i64 c.core, .int .i64 c.fd, .int .i64 c.off, .int .i64 c.num, .string c.path, .string c.path2, .string c.data]
def cutL (fine : Bool) (T : List (Int × Int)) : List (Int × Int) := match fine with | true => T | false => []
def cutI (fine : Bool) (n : Int) : Int := match fine with | true => n | false => 0
set_option maxRecDepth 100000 in
set_option maxHeartbeats 8000000 in
theorem of23 (p : Nat) (S S' : PSt) (c : PCall) (r : PRes) (L T : List (Int × Int)) (M : List Int) (by_ co go : Int) (w : World) (h : SP w p S) (hwf : S.wf) (D : Did S c S' r) (hk : c.kind < 3 ∨ 7 < c.kind)
    (hpaths : ∀ ww k fine, VwNew ww k p c fine → Laid k (fun w => SP w p S) ww → Calls Tryz.prog 44 #[.pointer (some ⟨k, 0, none⟩)] ww fun e w' => e = .returned (.tuple #[]) ∧ VwAt w' k p c fine L T M by_ co go ∧ Below k ww w') :
    Calls Tryz.prog 23 #[.pointer (some ⟨p, 0, none⟩), .agg (callAr c)] w fun e w' => ∃ k, e = .returned (.pointer (some ⟨k, 0, none⟩)) ∧ VwAt w' k p c (r.code == 0) L (cutL (r.code == 0) T) M by_ (cutI (r.code == 0) co) (cutI (r.code == 0) go) ∧ Below w.heap.size w w' := by
  obtain ⟨hl, iv, ov, mv, c0, c1, c2, hr⟩ := h
  have hio : iv.oneCell' = true := by obtain ⟨_, _, _, h3, _⟩ := hr; exact h3.one
  have hoo := hr.1.one
  have hmo := hr.2.1.one
  have iP : BlockLt p w := ⟨hl⟩
  have h3 : ¬ c.kind = 3 := by omega
  have h4 : ¬ c.kind = 4 := by omega
  have h5 : ¬ c.kind = 5 := by omega
  have h6 : ¬ c.kind = 6 := by omega
  have h7 : ¬ c.kind = 7 := by omega
  have hop := hwf.2.1
  have HS := Lib.hid hr
  have HSP := Lib.hid (⟨hl, iv, ov, mv, c0, c1, c2, hr⟩ : SP w p S)
  have HP := Lib.hid hpaths
  clear hr hpaths hk
  unfold callAr
  go_enter Tryz.func23, Tryz.ntmps23
  go_upto_region 1 with fail
  go_cut [6] (fun v6 wx => ∃ b6 nv, v6 = .pointer (some ⟨b6, 0, none⟩) ∧ Below (w.alloc (Obj.cells #[.int .i64 c.kind, .int .i64 c.core, .int .i64 c.fd, .int .i64 c.off, .int .i64 c.num, .string c.path, .string c.path2, .string c.data] 29)).heap.size (w.alloc (Obj.cells #[.int .i64 c.kind, .int .i64 c.core, .int .i64 c.fd, .int .i64 c.off, .int .i64 c.num, .string c.path, .string c.path2, .string c.data] 29)) wx ∧ Blk wx b6 #[.int .i64 r.code, .int .i64 r.fd, .int .i64 r.num, .bool r.dir, .string r.data, nv] 46)
  case first =>
    go_region_held3 (fun w' => w'.cell? ⟨p, 0, none⟩ = some iv ∧ w'.cell? ⟨p, 1, none⟩ = some ov ∧ w'.cell? ⟨p, 2, none⟩ = some mv ∧ w'.cell? ⟨w.heap.size, 0, none⟩ = some (.int .i64 c.kind) ∧ w'.cell? ⟨w.heap.size, 1, none⟩ = some (.int .i64 c.core) ∧ w'.cell? ⟨w.heap.size, 2, none⟩ = some (.int .i64 c.fd) ∧ w'.cell? ⟨w.heap.size, 3, none⟩ = some (.int .i64 c.off) ∧ w'.cell? ⟨w.heap.size, 4, none⟩ = some (.int .i64 c.num) ∧ w'.cell? ⟨w.heap.size, 5, none⟩ = some (.string c.path) ∧ w'.cell? ⟨w.heap.size, 6, none⟩ = some (.string c.path2) ∧ w'.cell? ⟨w.heap.size, 7, none⟩ = some (.string c.data))
      (first | (try dsimp only) <;> (repeat' apply And.intro) <;> go_simp)
      (first | (go_at_call 20; refine (D _ _ _ _ (HS.out.below (bel w _) (Nat.le_refl _))).mono ?_; rintro e wa ⟨hb, iv1, ov1, mv1, nv1, rfl, hs1, hn1⟩; obtain ⟨pa, rfl⟩ := hb.rest; clear hb; obtain ⟨a11, a12, a13, a14, a15, a16, a17, a18, a19, rfl, rfl, rfl⟩ := hs1.forms; obtain ⟨n11, n12, n13, rfl⟩ := hn1.form; clear hs1 hn1))
    all_goals go_wp2_with fail
    all_goals go_meet
    all_goals (refine ⟨_, .slice n11 n12 n13, rfl, bel (w.alloc (Obj.cells #[.int .i64 c.kind, .int .i64 c.core, .int .i64 c.fd, .int .i64 c.off, .int .i64 c.num, .string c.path, .string c.path2, .string c.data] 29)) _, ?_⟩)
    all_goals (repeat (first | exact Blk.new_i _ _ _ _ | refine Blk.alloc ?_ _ | refine Blk.junk ?_ _ | refine Blk.drew ?_))
  case rest =>
    obtain ⟨b6, nv, rfl, hb6, h6⟩ := hcut
    have hbw : Below w.heap.size w wc := (bel w (w.alloc (Obj.cells #[.int .i64 c.kind, .int .i64 c.core, .int .i64 c.fd, .int .i64 c.off, .int .i64 c.num, .string c.path, .string c.path2, .string c.data] 29))).trans (hb6.mono (by simp))
    have d0 : wc.cell? ⟨b6, 0, none⟩ = some (.int .i64 r.code) := h6.cell 0
    have i6 := h6.lt
    have hbxc : Blk wc w.heap.size #[.int .i64 c.kind, .int .i64 c.core, .int .i64 c.fd, .int .i64 c.off, .int .i64 c.num, .string c.path, .string c.path2, .string c.data] 29 := (Blk.new w #[.int .i64 c.kind, .int .i64 c.core, .int .i64 c.fd, .int .i64 c.off, .int .i64 c.num, .string c.path, .string c.path2, .string c.data] 29).below hb6 (by simp)
    have y0 : wc.cell? ⟨w.heap.size, 0, none⟩ = some (.int .i64 c.kind) := hbxc.cell 0
    have y1 : wc.cell? ⟨w.heap.size, 1, none⟩ = some (.int .i64 c.core) := hbxc.cell 1
    have y2 : wc.cell? ⟨w.heap.size, 2, none⟩ = some (.int .i64 c.fd) := hbxc.cell 2
    have y3 : wc.cell? ⟨w.heap.size, 3, none⟩ = some (.int .i64 c.off) := hbxc.cell 3
    have y4 : wc.cell? ⟨w.heap.size, 4, none⟩ = some (.int .i64 c.num) := hbxc.cell 4
    have y5 : wc.cell? ⟨w.heap.size, 5, none⟩ = some (.string c.path) := hbxc.cell 5
    have y6 : wc.cell? ⟨w.heap.size, 6, none⟩ = some (.string c.path2) := hbxc.cell 6
    have y7 : wc.cell? ⟨w.heap.size, 7, none⟩ = some (.string c.data) := hbxc.cell 7
    have iXc := hbxc.lt
    clear hbxc h6
    rcases hfb : (r.code == 0) with _ | _
    · have HRW := Lib.hid hfb
      go_upto_region 3 with fail
      refine abs_world (F := fun wA => VwNew wA wc.heap.size p c false ∧ Below wc.heap.size wc wA) ⟨Blk.new _ _ _, bel _ _⟩ ?_
      clear d0
      rintro wA ⟨hN, hbA⟩
      have hcall := HP.out wA wc.heap.size false hN ⟨w, HSP.out, Nat.le_trans (by simp) hb6.size, hbw.trans (hbA.mono hbw.size)⟩
      have HA := Lib.hid hbA
      clear hN hbA hfb
      go_upto_region 4 with (go_at_call 44; refine hcall.mono ?_; rintro e w3 ⟨rfl, hv3, hb3⟩; have HV3 := Lib.hid (And.intro hv3 hb3); clear hv3 hb3)
      clear hcall
      refine abs_world (F := fun wB => VwAt wB wc.heap.size p c false L T M by_ co go ∧ Below wc.heap.size wc wB) ⟨HV3.out.1, HA.out.trans HV3.out.2⟩ ?_
      clear HV3 HA
      rintro wB ⟨hvB, hbB⟩
      have hB0 : Below (w.alloc (Obj.cells #[.int .i64 c.kind, .int .i64 c.core, .int .i64 c.fd, .int .i64 c.off, .int .i64 c.num, .string c.path, .string c.path2, .string c.data] 29)).heap.size (w.alloc (Obj.cells #[.int .i64 c.kind, .int .i64 c.core, .int .i64 c.fd, .int .i64 c.off, .int .i64 c.num, .string c.path, .string c.path2, .string c.data] 29)) wB := hb6.trans (hbB.mono hb6.size)
      have hBw : Below w.heap.size w wB := hbw.trans (hbB.mono hbw.size)
      have hbxB : Blk wB w.heap.size #[.int .i64 c.kind, .int .i64 c.core, .int .i64 c.fd, .int .i64 c.off, .int .i64 c.num, .string c.path, .string c.path2, .string c.data] 29 := (Blk.new w #[.int .i64 c.kind, .int .i64 c.core, .int .i64 c.fd, .int .i64 c.off, .int .i64 c.num, .string c.path, .string c.path2, .string c.data] 29).below hB0 (by simp)
      have x0 : wB.cell? ⟨w.heap.size, 0, none⟩ = some (.int .i64 c.kind) := hbxB.cell 0
      have x1 : wB.cell? ⟨w.heap.size, 1, none⟩ = some (.int .i64 c.core) := hbxB.cell 1
      have x2 : wB.cell? ⟨w.heap.size, 2, none⟩ = some (.int .i64 c.fd) := hbxB.cell 2
      have iXB := hbxB.lt
      have iPB : BlockLt p wB := ⟨by have := hBw.size; omega⟩
      have p1 : wB.cell? ⟨p, 1, none⟩ = some ov := (hBw.cell (p := ⟨p, 1, none⟩) hl).trans c1
      have hrow : RowAt wB 3 ov (S.op.map PDesc.cells) := HS.out.1.below hBw (Nat.le_refl _)
      have hidx : ∀ ww, Below wB.heap.size wB ww → Calls Tryz.prog 45 #[ov, .func (.func 46) #[] #[.pointer (some ⟨w.heap.size, 0, none⟩)]] ww _ := fun ww hb =>
        index45v S.op ov (.pointer (some ⟨w.heap.size, 0, none⟩)) (isFd c) ww (hrow.below hb (Nat.le_refl _)) hop (fun z wz _ hz => of46 c z w.heap.size wz ⟨by have := iXB.lt; have := hb.size; have := hz.size; omega⟩ ((hz.cell (p := ⟨w.heap.size, 1, none⟩) (by have := iXB.lt; have := hb.size; show w.heap.size < ww.heap.size; omega)).trans ((hb.cell (p := ⟨w.heap.size, 1, none⟩) iXB.lt).trans x1)) ((hz.cell (p := ⟨w.heap.size, 2, none⟩) (by have := iXB.lt; have := hb.size; show w.heap.size < ww.heap.size; omega)).trans ((hb.cell (p := ⟨w.heap.size, 2, none⟩) iXB.lt).trans x2)))
      generalize idxM (isFd c) S.op = I at hidx
      have hvb : wB.cell? ⟨wc.heap.size, 9, none⟩ = some (.bool false) := by obtain ⟨_, _, _, h, _⟩ := hvB; exact h.cell 9
      have iVB : BlockLt wc.heap.size wB := by obtain ⟨_, _, _, h, _⟩ := hvB; exact h.lt
      have HB := Lib.hid (And.intro hvB (And.intro hBw hBw.size))
      clear hvB hbB hB0 hBw hbxB hrow
      by_cases hI : 0 ≤ I
      · go_upto_region 16 with (go_at_call 45; refine (hidx _ (bel wB _)).mono ?_; rintro e w' ⟨rfl, hb⟩; obtain ⟨pj, rfl⟩ := hb.rest; clear hb)
        refine abs_world (F := fun wD => VwAt wD wc.heap.size p c false L T M by_ co go ∧ Below w.heap.size w wD) ⟨HB.out.1.below (bel wB _), HB.out.2.1.trans ((bel wB _).mono HB.out.2.2)⟩ ?_
        clear x0 x1 x2 iXB iPB p1 hidx hvb iVB
        rintro wD ⟨hvD, hbD⟩
        obtain ⟨lv, tv, mv', g1, g2, g3, g4⟩ := id hvD
        have d11 : wD.cell? ⟨wc.heap.size, 11, none⟩ = some tv := g1.cell 11
        have d14 : wD.cell? ⟨wc.heap.size, 14, none⟩ = some (.int .i64 co) := g1.cell 14
        have d15 : wD.cell? ⟨wc.heap.size, 15, none⟩ = some (.int .i64 go) := g1.cell 15
        have f11 := g1.frozen 11
        have f14 := g1.frozen 14
        have f15 := g1.frozen 15
        have iD := g1.lt
        have hcut := hvD.cut
        have hbc : Below w.heap.size w (((wD.setCell ⟨wc.heap.size, 11, none⟩ (.slice none 0 0)).setCell ⟨wc.heap.size, 14, none⟩ (.int .i64 0)).setCell ⟨wc.heap.size, 15, none⟩ (.int .i64 0)) := ((hbD.setCell (p := ⟨wc.heap.size, 11, none⟩) hbw.size _).setCell (p := ⟨wc.heap.size, 14, none⟩) hbw.size _).setCell (p := ⟨wc.heap.size, 15, none⟩) hbw.size _
        have HD := Lib.hid (And.intro hcut hbc)
        clear hvD hbD hcut hbc g1 g2 g3 g4
        go_wp2_with fail
        exact bodyPost_ret (v := .pointer (some ⟨wc.heap.size, 0, none⟩)) (by simp [results, Tryz.results23, go_sem]) rfl ⟨_, rfl, by rw [HRW.out]; exact HD.out.1, HD.out.2⟩
      · go_upto_region 16 with (go_at_call 45; refine (hidx _ (bel wB _)).mono ?_; rintro e w' ⟨rfl, hb⟩; obtain ⟨pj, rfl⟩ := hb.rest; clear hb)
        refine abs_world (F := fun wD => VwAt wD wc.heap.size p c false L T M by_ co go ∧ Below w.heap.size w wD) ⟨HB.out.1.below (bel wB _), HB.out.2.1.trans ((bel wB _).mono HB.out.2.2)⟩ ?_
        clear x0 x1 x2 iXB iPB p1 hidx hvb iVB
        rintro wD ⟨hvD, hbD⟩
        obtain ⟨lv, tv, mv', g1, g2, g3, g4⟩ := id hvD
        have d11 : wD.cell? ⟨wc.heap.size, 11, none⟩ = some tv := g1.cell 11
        have d14 : wD.cell? ⟨wc.heap.size, 14, none⟩ = some (.int .i64 co) := g1.cell 14
        have d15 : wD.cell? ⟨wc.heap.size, 15, none⟩ = some (.int .i64 go) := g1.cell 15
        have f11 := g1.frozen 11
        have f14 := g1.frozen 14
        have f15 := g1.frozen 15
        have iD := g1.lt
        have hcut := hvD.cut
        have hbc : Below w.heap.size w (((wD.setCell ⟨wc.heap.size, 11, none⟩ (.slice none 0 0)).setCell ⟨wc.heap.size, 14, none⟩ (.int .i64 0)).setCell ⟨wc.heap.size, 15, none⟩ (.int .i64 0)) := ((hbD.setCell (p := ⟨wc.heap.size, 11, none⟩) hbw.size _).setCell (p := ⟨wc.heap.size, 14, none⟩) hbw.size _).setCell (p := ⟨wc.heap.size, 15, none⟩) hbw.size _
        have HD := Lib.hid (And.intro hcut hbc)
        clear hvD hbD hcut hbc g1 g2 g3 g4
        go_wp2_with fail
        exact bodyPost_ret (v := .pointer (some ⟨wc.heap.size, 0, none⟩)) (by simp [results, Tryz.results23, go_sem]) rfl ⟨_, rfl, by rw [HRW.out]; exact HD.out.1, HD.out.2⟩
    · have HRW := Lib.hid hfb
      go_upto_region 3 with fail
      refine abs_world (F := fun wA => VwNew wA wc.heap.size p c true ∧ Below wc.heap.size wc wA) ⟨Blk.new _ _ _, bel _ _⟩ ?_
      clear d0
      rintro wA ⟨hN, hbA⟩
      have hcall := HP.out wA wc.heap.size true hN ⟨w, HSP.out, Nat.le_trans (by simp) hb6.size, hbw.trans (hbA.mono hbw.size)⟩
      have HA := Lib.hid hbA
      clear hN hbA hfb
      go_upto_region 4 with (go_at_call 44; refine hcall.mono ?_; rintro e w3 ⟨rfl, hv3, hb3⟩; have HV3 := Lib.hid (And.intro hv3 hb3); clear hv3 hb3)
      clear hcall
      refine abs_world (F := fun wB => VwAt wB wc.heap.size p c true L T M by_ co go ∧ Below wc.heap.size wc wB) ⟨HV3.out.1, HA.out.trans HV3.out.2⟩ ?_
      clear HV3 HA
      rintro wB ⟨hvB, hbB⟩
      have hB0 : Below (w.alloc (Obj.cells #[.int .i64 c.kind, .int .i64 c.core, .int .i64 c.fd, .int .i64 c.off, .int .i64 c.num, .string c.path, .string c.path2, .string c.data] 29)).heap.size (w.alloc (Obj.cells #[.int .i64 c.kind, .int .i64 c.core, .int .i64 c.fd, .int .i64 c.off, .int .i64 c.num, .string c.path, .string c.path2, .string c.data] 29)) wB := hb6.trans (hbB.mono hb6.size)
      have hBw : Below w.heap.size w wB := hbw.trans (hbB.mono hbw.size)
      have hbxB : Blk wB w.heap.size #[.int .i64 c.kind, .int .i64 c.core, .int .i64 c.fd, .int .i64 c.off, .int .i64 c.num, .string c.path, .string c.path2, .string c.data] 29 := (Blk.new w #[.int .i64 c.kind, .int .i64 c.core, .int .i64 c.fd, .int .i64 c.off, .int .i64 c.num, .string c.path, .string c.path2, .string c.data] 29).below hB0 (by simp)
      have x0 : wB.cell? ⟨w.heap.size, 0, none⟩ = some (.int .i64 c.kind) := hbxB.cell 0
      have x1 : wB.cell? ⟨w.heap.size, 1, none⟩ = some (.int .i64 c.core) := hbxB.cell 1
      have x2 : wB.cell? ⟨w.heap.size, 2, none⟩ = some (.int .i64 c.fd) := hbxB.cell 2
      have iXB := hbxB.lt
      have iPB : BlockLt p wB := ⟨by have := hBw.size; omega⟩
      have p1 : wB.cell? ⟨p, 1, none⟩ = some ov := (hBw.cell (p := ⟨p, 1, none⟩) hl).trans c1
      have hrow : RowAt wB 3 ov (S.op.map PDesc.cells) := HS.out.1.below hBw (Nat.le_refl _)
      have hidx : ∀ ww, Below wB.heap.size wB ww → Calls Tryz.prog 45 #[ov, .func (.func 46) #[] #[.pointer (some ⟨w.heap.size, 0, none⟩)]] ww _ := fun ww hb =>
        index45v S.op ov (.pointer (some ⟨w.heap.size, 0, none⟩)) (isFd c) ww (hrow.below hb (Nat.le_refl _)) hop (fun z wz _ hz => of46 c z w.heap.size wz ⟨by have := iXB.lt; have := hb.size; have := hz.size; omega⟩ ((hz.cell (p := ⟨w.heap.size, 1, none⟩) (by have := iXB.lt; have := hb.size; show w.heap.size < ww.heap.size; omega)).trans ((hb.cell (p := ⟨w.heap.size, 1, none⟩) iXB.lt).trans x1)) ((hz.cell (p := ⟨w.heap.size, 2, none⟩) (by have := iXB.lt; have := hb.size; show w.heap.size < ww.heap.size; omega)).trans ((hb.cell (p := ⟨w.heap.size, 2, none⟩) iXB.lt).trans x2)))
      generalize idxM (isFd c) S.op = I at hidx
      have hvb : wB.cell? ⟨wc.heap.size, 9, none⟩ = some (.bool true) := by obtain ⟨_, _, _, h, _⟩ := hvB; exact h.cell 9
      have iVB : BlockLt wc.heap.size wB := by obtain ⟨_, _, _, h, _⟩ := hvB; exact h.lt
      have HB := Lib.hid (And.intro hvB (And.intro hBw hBw.size))
      clear hvB hbB hB0 hBw hbxB hrow
      by_cases hI : 0 ≤ I
      · go_wp2_with (go_at_call 45; refine (hidx _ (bel wB _)).mono ?_; rintro e w' ⟨rfl, hb⟩; obtain ⟨pj, rfl⟩ := hb.rest; clear hb)
        exact bodyPost_ret (v := .pointer (some ⟨wc.heap.size, 0, none⟩)) (by simp [results, Tryz.results23, go_sem]) rfl ⟨_, rfl, by rw [HRW.out]; exact HB.out.1.below (bel wB _), HB.out.2.1.trans ((bel wB _).mono HB.out.2.2)⟩
      · go_wp2_with (go_at_call 45; refine (hidx _ (bel wB _)).mono ?_; rintro e w' ⟨rfl, hb⟩; obtain ⟨pj, rfl⟩ := hb.rest; clear hb)
        exact bodyPost_ret (v := .pointer (some ⟨wc.heap.size, 0, none⟩)) (by simp [results, Tryz.results23, go_sem]) rfl ⟨_, rfl, by rw [HRW.out]; exact HB.out.1.below (bel wB _), HB.out.2.1.trans ((bel wB _).mono HB.out.2.2)⟩
end Go.Proofs.YtjkenolgkkknaaaGreatDoor
