/- Part of the proof of a law of chapter 15. Conditions: none. -/
import Derived.Test.YtmkapobnfigedaaGreatDoorDp42
set_option linter.unusedVariables false
set_option linter.unusedSimpArgs false
set_option maxRecDepth 100000
set_option maxHeartbeats 8000000
namespace Go
theorem wpL_none {P : Program} {ops : Array Oper} {S : World → Prop} {E : List Nat} {lx : Bool} {Q : Act → World → Prop} {o : Oper} {a : Act} {w : World} {k : Nat} {l : List Oper} (hw : Region.wanted o (yielded ops a.tmps) = false)
 (h : wpL P ops S E lx Q (k + 1) l (a.put o.dst undef) w) : wpL P ops S E lx Q k (o :: l) a w := by
 simp only [wpL]
 rw [if_neg (by rintro ⟨_, h⟩; rw [hw] at h; cases h)]
 exact ⟨undef, .inr ⟨hw, rfl⟩, h⟩
end Go
namespace Go.Proofs.YtmkapobnfigedaaGreatDoor
open Go.RowKit
def boolRow (inn : List Bool) : Array Value := (inn.map Value.bool).toArray
theorem boolRow_get {inn : List Bool} {k : Nat} {x : Bool} (h : inn[k]? = some x) : (boolRow inn)[k]? = some (.bool x) := by
 unfold boolRow
 simp [h]
theorem boolRow_set (inn : List Bool) (k : Nat) (x : Bool) : (boolRow inn).setIfInBounds k (.bool x) = boolRow (inn.set k x) := by
 unfold boolRow
 simp [List.map_set]
theorem KRows.mono {B B' : Nat} {w : World} {vo : Value} {kss : List (List PKey)} {kvs : List Value} (h : KRows B w vo kss kvs) (hb : B' ≤ B) : KRows B' w vo kss kvs := ⟨OwnP.mono h.out hb, h.len, fun i kv ks h1 h2 => OwnP.mono (h.keys i kv ks h1 h2) hb⟩
def closureM (S : PSt) (cs : List PCall) (want : List Int) : List Bool := if mayM S = true then closeE (touchT (rowM S cs)) cs.length (markE cs.length want (List.replicate cs.length false)) else markE cs.length want (List.replicate cs.length false)
theorem markE_drop (n : Nat) (l : List Int) (q : Nat) {k : Int} (h : l[q]? = some k) (inn : List Bool) : markE n (l.drop q) inn = markE n (l.drop (q + 1)) (if 0 ≤ k ∧ k < n then inn.set k.toNat true else inn) := by
 obtain ⟨hl, rfl⟩ := gI.1 h
 rw [List.drop_eq_getElem_cons hl]
 rfl
structure CW (w : World) (n : Nat) (vo : Value) (kss : List (List PKey)) (kvs : List Value) (inn : List Bool) (wr : World) : Prop where
 len : inn.length = n
 below : Below w.heap.size w wr
 blk : Blk wr (w.heap.size + 1) (boolRow inn) 4
 keys : KRows w.heap.size wr vo kss kvs
theorem CW.later {w : World} {n : Nat} {vo : Value} {kss : List (List PKey)} {kvs : List Value} {inn : List Bool} {wr w' : World} (h : CW w n vo kss kvs inn wr) (hb : Below wr.heap.size wr w') : CW w n vo kss kvs inn w' :=
 ⟨h.len, h.below.trans (hb.mono h.below.size), h.blk.below hb h.blk.lt.lt, h.keys.keep (Keep.of_below hb (fun _ => False)) (fun _ h => h.elim)⟩
theorem CW.store {w : World} {n : Nat} {vo : Value} {kss : List (List PKey)} {kvs : List Value} {inn : List Bool} {wr w' : World} (h : CW w n vo kss kvs inn wr) (hb : Below wr.heap.size wr w') {k m : Nat} (hk : k < m) (x : Bool) (hm : m ≤ n) : CW w n vo kss kvs (inn.set k x) (w'.setCell ⟨w.heap.size + 1, k, none⟩ (.bool x)) := by
 have h2 := h.later hb
 refine ⟨by rw [List.length_set]; exact h2.len, h2.below.setCell (p := ⟨w.heap.size + 1, k, none⟩) (by show w.heap.size ≤ w.heap.size + 1; omega) _, ?_, ?_⟩
 · have := h2.blk.set_ k (.bool x); rw [boolRow_set] at this; exact this
 · exact h2.keys.keep (Keep.setCell (S := fun g => g = w.heap.size + 1) (p := ⟨w.heap.size + 1, k, none⟩) (Keep.refl _ w') (.inl rfl) _) (fun g hg => by rw [hg]; exact ⟨_, 4, h2.blk, by decide, by decide⟩)
theorem closure23 (iv ov mv : Value) (S : PSt) (cs : List PCall) (want : List Int) (vc vw : Value) (w : World) (h : StRead w iv ov mv S) (hwf : S.wf) (hc : RowAt w 8 vc (cs.map PCall.cells)) (hcd : ∀ c ∈ cs, c.data.size ≤ 1000000000000000000) (hcl : cs.length ≤ 2000000) (hw : RowAt w 1 vw (want.map intCells)) (hwl : want.length ≤ 1000000000) (hw64 : ∀ k ∈ want, I64 k) :
 Calls Tryz.prog 23 #[.agg #[iv, ov, mv], vc, vw] w fun e w' => Below w.heap.size w w' ∧ ∃ g, e = .returned (.slice (some ⟨g, 0, none⟩) cs.length cs.length) ∧ w.heap.size ≤ g ∧ Blk w' g (boolRow (closureM S cs want)) 4 := by
 have hrow := fun (ww : World) (hb : Below w.heap.size w ww) => row54 iv ov mv S cs vc ww (h.below hb (Nat.le_refl _)) hwf (hc.below hb (Nat.le_refl _)) hcd (by omega)
 have hmay := fun (ww : World) (hb : Below w.heap.size w ww) => may37 iv ov mv S ww (h.below hb (Nat.le_refl _)) hwf
 have o1 := h.1.one
 have o2 := h.2.1.one
 have o3 : iv.oneCell' = true := by obtain ⟨_, _, _, h3, _⟩ := h; exact h3.one
 obtain ⟨ac, cc, rfl, -⟩ := hc
 obtain ⟨aw, cw, rfl, hatw⟩ := hw.at_
 rw [lM] at hrow ⊢
 rw [lM]
 obtain ⟨R, hR⟩ : ∃ R, closureM S cs want = R := ⟨_, rfl⟩
 rw [hR]
 have HI := Lib.hid hatw
 unfold closureM at hR
 obtain ⟨j0, ji, jz0, jz1, jz2⟩ := info_parts info4
 have hmk2 : ∀ u : World, (Instr.makeSlice 39 (.int .i64 cs.length) (.int .i64 cs.length)).run Tryz.prog u = .ok (.slice (some ⟨u.heap.size, 0, none⟩) cs.length cs.length) (u.alloc (.cells (boolRow (List.replicate cs.length false)) 4)) := fun u => by
  have := run_makeSlice (P := Tryz.prog) u 39 4 j0 _ Tryz.underlying39 ji jz0 .i64 .i64 cs.length cs.length (by omega) (Int.le_refl _) (by rw [jz1]; omega) (by rw [jz2]; omega) (by omega); unfold boolRow; rw [← made_map (fun x => Value.bool x)]; simpa [jz1, Value.cells] using this
 have hI0l : (List.replicate cs.length false).length = cs.length := List.length_replicate
 generalize List.replicate cs.length false = I0 at *
 have HR := Lib.hid (And.intro hR hI0l)
 clear h hw hatw hR
 go_enter Tryz.func23, Tryz.ntmps23
 go_upto_region 2 with fail
 refine abs_world (F := fun wA => Below w.heap.size w wA ∧ Blk wA w.heap.size #[iv, ov, mv] 26 ∧ Blk wA (w.heap.size + 1) (boolRow I0) 4) ⟨bel w _, (Blk.new _ _ _).alloc _, Blk.new_i _ _ _ _⟩ ?_
 rintro wA ⟨hbA, hsA, hiA⟩
 have hmayA := fun (ww : World) (hb : Below wA.heap.size wA ww) => hmay ww (hbA.trans (hb.mono hbA.size))
 have HA := Lib.hid (And.intro hbA (And.intro hsA hiA))
 have iG := hiA.lt
 clear hbA hsA hiA
 go_wp2_with fail
 go_loopw [9, 18] (fun _ vi wr => ∃ (q : Nat) (inn : List Bool), vi = .int .i64 q ∧ q ≤ want.length ∧ inn.length = cs.length ∧ markE cs.length (want.drop q) inn = markE cs.length want I0 ∧ Below w.heap.size w wr ∧ Blk wr w.heap.size #[iv, ov, mv] 26 ∧ Blk wr (w.heap.size + 1) (boolRow inn) 4) (fun _ vi _ => (want.length - intOf vi).toNat)
 case atStart => exact ⟨0, I0, rfl, by omega, HR.out.2, by simp, HA.out.1, HA.out.2.1, HA.out.2.2⟩
 case round =>
  obtain ⟨q, inn, rfl, hq, hil, hre, hbr, hsr, hir⟩ := hrel; have iGr := hir.lt; by_cases hlt : q < want.length
  · obtain ⟨k, hk⟩ : ∃ k, want[q]? = some k := ⟨_, gE hlt⟩
    obtain ⟨bw, ow, rfl, iW0, iW, hcw⟩ := HI.out wr hbr q (intCells k) (by rw [gM, hk]; rfl); have w0 := hcw 0 _ rfl; rw [Nat.mul_one, Nat.add_zero] at w0; rw [markE_drop _ _ _ hk] at hre; have hk64 := hw64 k (mG hk); have fz : ∀ i, wr.frozen? ⟨w.heap.size + 1, i, none⟩ = false := fun i => hir.frozen i
    by_cases hk0 : 0 ≤ k
    · by_cases hk1 : k < cs.length
      · rw [if_pos ⟨hk0, hk1⟩] at hre; obtain ⟨m, rfl⟩ : ∃ m : Nat, k = m := ⟨k.toNat, by omega⟩
        rw [Int.toNat_natCast] at hre; obtain ⟨u, hu⟩ : ∃ u, wr.cell? ⟨w.heap.size + 1, m, none⟩ = some u := ⟨_, by rw [hir.cell]; exact Array.getElem?_eq_getElem (by unfold boolRow; simp; omega)⟩
        have fm := fz m; have hir2 : Blk (wr.setCell ⟨w.heap.size + 1, m, none⟩ (.bool true)) (w.heap.size + 1) (boolRow (inn.set m true)) 4 := by
         have := hir.set_ m (.bool true); rw [boolRow_set] at this; exact this
        have hsr2 := hsr.far (a := ⟨w.heap.size + 1, m, none⟩) (by simp) (.bool true); have hbr2 := hbr.setCell (p := ⟨w.heap.size + 1, m, none⟩) (by show w.heap.size ≤ w.heap.size + 1; omega) (.bool true); have HF := Lib.hid (And.intro hre (And.intro hbr2 (And.intro hsr2 (And.intro hir2 hil)))); clear hre hbr hsr hir hcw hk fz hir2 hsr2 hbr2 hil; go_wp2_with fail
        go_roundw
        case rel => exact ⟨q + 1, _, by go_num, by omega, by rw [List.length_set]; exact HF.out.2.2.2.2, HF.out.1, HF.out.2.1, HF.out.2.2.1, HF.out.2.2.2.1⟩
        case measure => simp [intOf]; omega
      · rw [if_neg (by omega)] at hre; have HF := Lib.hid (And.intro hre (And.intro hbr (And.intro hsr (And.intro hir hil)))); clear hre hbr hsr hir hcw hk fz hil; go_wp2_with fail
        go_roundw
        case rel => exact ⟨q + 1, _, by go_num, by omega, HF.out.2.2.2.2, HF.out.1, HF.out.2.1, HF.out.2.2.1, HF.out.2.2.2.1⟩
        case measure => simp [intOf]; omega
    · rw [if_neg (by omega)] at hre; have HF := Lib.hid (And.intro hre (And.intro hbr (And.intro hsr (And.intro hir hil)))); clear hre hbr hsr hir hcw hk fz hil; go_wp2_with fail
      go_roundw
      case rel => exact ⟨q + 1, _, by go_num, by omega, HF.out.2.2.2.2, HF.out.1, HF.out.2.1, HF.out.2.2.1, HF.out.2.2.2.1⟩
      case measure => simp [intOf]; omega
  · have hM : inn = markE cs.length want I0 := by
     rw [List.drop_eq_nil_of_le (by omega)] at hre; exact hre
    subst hM; have s0 : wr.cell? ⟨w.heap.size, 0, none⟩ = some iv := hsr.cell 0; have s1 : wr.cell? ⟨w.heap.size, 1, none⟩ = some ov := hsr.cell 1; have s2 : wr.cell? ⟨w.heap.size, 2, none⟩ = some mv := hsr.cell 2; have iSr := hsr.lt; have hmayR := fun (ww : World) (hb : Below wr.heap.size wr ww) => hmay ww (hbr.trans (hb.mono hbr.size))
    have hrowR := fun (ww : World) (hb : Below wr.heap.size wr ww) => hrow ww (hbr.trans (hb.mono hbr.size))
    generalize markE cs.length want I0 = M0 at *; have HB := Lib.hid (And.intro hbr (And.intro hir hil)); clear hbr hir hil hre hsr hmayA hmay hrow; rcases hm : mayM S with _ | _
    · have hRR : M0 = R := by
       have := HR.out.1; rw [hm, if_neg (by decide)] at this; exact this
      rw [hm] at hmayR; clear hm hrowR; go_wp2_with (go_at_call 39; refine aT (hmayR _ (bel _ _)) fun p => ?_)
      go_ret; subst hRR; exact ⟨HB.out.1.trans ((bel wr _).mono HB.out.1.size), _, rfl, by omega, HB.out.2.1.below (bel wr _) iGr.lt⟩
    · have hRR : closeE (touchT (rowM S cs)) cs.length M0 = R := by
       have := HR.out.1; rw [hm, if_pos rfl] at this; exact this
      rw [hm] at hmayR; clear hm
      go_upto_region 11 with (first | (go_at_call 39; refine aT (hmayR _ (bel _ _)) fun p => ?_) | (go_at_call 54; refine (hrowR _ (bel _ _)).mono ?_; rintro e w3 ⟨hb3, vo, kvs, rfl, hkr⟩; obtain ⟨ao, co, rfl, hato⟩ := hkr.at_))
      have hrl := rowM_len cs S; generalize rowM S cs = kss at *; have hbr0 := HB.out.1; have hb3w : Below wr.heap.size wr w3 := (bel wr _).trans (hb3.mono (bel wr _).size); have hbw : Below w.heap.size w w3 := HB.out.1.trans (hb3w.mono HB.out.1.size); have hi3 : Blk w3 (w.heap.size + 1) (boolRow M0) 4 := HB.out.2.1.below hb3w iGr.lt; have HRR := Lib.hid hRR; have ew0 : IntKind.i64.wrap ((kss.length : Int) - 1) = (kss.length : Int) - 1 := I64.wrap (by unfold I64; omega); have hkn : kss.length = cs.length := hrl; have hCW : CW w cs.length (.slice ao kss.length co) kss kvs M0 w3 := ⟨HB.out.2.2, hbw, hi3, hkr.mono (by have := hbr0.size; simp; omega)⟩
      have iG3 := hi3.lt; have HCW := Lib.hid hCW; clear hato hkr hb3 hrowR hmayR hcd hbw hi3 hRR s0 s1 s2 iSr hCW hbr0; go_wp2_with fail
      go_loopw [11] (fun vl wr => ∃ (l : Nat) (inn : List Bool), vl = .int .i64 ((l : Int) - 1) ∧ l ≤ cs.length ∧ closeE (touchT kss) l inn = R ∧ CW w cs.length (.slice ao kss.length co) kss kvs inn wr) (fun vl _ => (intOf vl + 1).toNat)
      case atStart => exact ⟨cs.length, M0, rfl, by omega, HRR.out, HCW.out⟩
      case round =>
       obtain ⟨l, inn, rfl, hl, hre, hcw⟩ := hrel
       rename World => wo
       rcases l with _ | m
       · have hRR2 : inn = R := hre; subst hRR2; have n0 : ¬ (0 : Int) ≤ ((0 : Nat) : Int) - 1 := by omega
         have HC := Lib.hid hcw; clear hcw hre; go_wp2_with fail; go_ret; exact ⟨HC.out.below.trans ((bel wo _).mono HC.out.below.size), _, rfl, by omega, HC.out.blk.below (bel wo _) HC.out.blk.lt.lt⟩
       · have hre1 : closeE (touchT kss) m (stepsE (touchT kss) m m 0 inn) = R := hre; have e1 : ((m + 1 : Nat) : Int) - 1 = m := by omega
         rw [e1]; have HRE0 := Lib.hid hre1; have HC := Lib.hid hcw; clear hcw hre hre1; go_wp2_with fail
         go_loopw [49] (fun vk wr => ∃ (k : Nat) (inn' : List Bool), vk = .int .i64 k ∧ k ≤ m ∧ stepsE (touchT kss) m (m - k) k inn' = stepsE (touchT kss) m m 0 inn ∧ CW w cs.length (.slice ao kss.length co) kss kvs inn' wr) (fun vk _ => (m - intOf vk).toNat)
         case atStart => exact ⟨0, inn, rfl, by omega, rfl, HC.out.later (bel wo _)⟩
         case round =>
          obtain ⟨k, inn', rfl, hk, hst, hcw⟩ := hrel; have HX := Lib.hid hcw; have iG4 := hcw.blk.lt; by_cases hkm : k < m
          · obtain ⟨x, hx⟩ : ∃ x, inn'[k]? = some x := ⟨_, gE (by have := hcw.len; omega)⟩
            obtain ⟨y, hy⟩ : ∃ y, inn'[m]? = some y := ⟨_, gE (by have := hcw.len; omega)⟩
            obtain ⟨kx, hkx⟩ : ∃ kx, kss[k]? = some kx := ⟨_, gE (by omega)⟩
            obtain ⟨ky, hky⟩ : ∃ ky, kss[m]? = some ky := ⟨_, gE (by omega)⟩
            have hT : touchT kss k m = touchM kx ky := by unfold touchT; rw [hkx, hky]
            rw [show m - k = (m - (k + 1)) + 1 by omega] at hst; have hst2 : stepsE (touchT kss) m (m - (k + 1)) (k + 1) (inn'.set k (x || (y && touchM kx ky))) = stepsE (touchT kss) m m 0 inn := by
             rw [← hst]; show _ = stepsE (touchT kss) m (m - (k + 1)) (k + 1) (stepE (touchT kss) m k inn'); unfold stepE; rw [hT, List.getD_eq_getElem?_getD, List.getD_eq_getElem?_getD, hx, hy]; rfl
            have x0 : wr.cell? ⟨w.heap.size + 1, k, none⟩ = some (.bool x) := (hcw.blk.cell k).trans (boolRow_get hx); have y0 : wr.cell? ⟨w.heap.size + 1, m, none⟩ = some (.bool y) := (hcw.blk.cell m).trans (boolRow_get hy); have fk := hcw.blk.frozen k; obtain ⟨ao', co', he, hato⟩ := hcw.keys.at_; simp only [Value.slice.injEq] at he; obtain ⟨rfl, -, rfl⟩ := he; obtain ⟨bo, oo, kvy, rfl, iO, oy, hry⟩ := hato wr (Below.refl _ _) m ky hky; obtain ⟨bo2, oo2, kvx, heo, -, ox, hrx⟩ := hato wr (Below.refl _ _) k kx hkx; simp only [Option.some.injEq, Addr.mk.injEq, and_true] at heo; obtain ⟨rfl, rfl⟩ := heo; have htch := fun (ww : World) (hb : Below wr.heap.size wr ww) => touch17 kx ky kvx kvy ww (hrx.below hb (Nat.le_refl _)) (hry.below hb (Nat.le_refl _))
            have g1 : (k : Int) < cs.length := by omega
            have g2 : (m : Int) < cs.length := by omega
            have g3 : (k : Int) < kss.length := by omega
            have g4 : (m : Int) < kss.length := by omega
            obtain ⟨ax, nx, cx, rfl⟩ : ∃ a n c, kvx = .slice a n c := by obtain ⟨a, c, h, -⟩ := hrx; exact ⟨a, _, c, h⟩
            obtain ⟨ay, ny, cy, rfl⟩ : ∃ a n c, kvy = .slice a n c := by obtain ⟨a, c, h, -⟩ := hry; exact ⟨a, _, c, h⟩
            generalize touchM kx ky = t at *; have HRE := Lib.hid hst2; clear hst hst2 hcw hx hy hkx hky hT hato hrx hry; rcases x with _ | _
            rotate_left
            · go_upto_region 17 with fail
              refine wp_region_eff [20, 24] true (fun w' => w'.cell? ⟨w.heap.size + 1, k, none⟩ = some (.bool true) ∧ w'.cell? ⟨w.heap.size + 1, m, none⟩ = some (.bool y) ∧ w'.cell? ⟨bo, oo + k, none⟩ = some (.slice ax nx cx) ∧ w'.cell? ⟨bo, oo + m, none⟩ = some (.slice ay ny cy)) (by kernel_rfl) (by kernel_rfl) ?_ ?_
              · (try dsimp only); (repeat' apply And.intro) <;> go_simp
              repeat
               first
                | (refine wpL_look rfl rfl ?_
                   apply Exists.intro; refine ⟨?_, ?_⟩
                   focus
                    rintro w' ⟨s0, s1, s2, s3⟩; go_simp
                    first | done | rfl
                   simp only [Act.put, sA, sZ, sS])
                | (refine wpL_none rfl ?_
                   simp only [Act.put, sA, sZ, sS])
              refine wpL_skip rfl rfl ?_; apply Exists.intro; apply And.intro
              focus
               go_simp
               first | done | rfl
              apply And.intro
              focus
               exact .inr ⟨rfl, rfl⟩
              refine wpL_end ?_; simp only [Act.put]; have HF := Lib.hid (HX.out.store (bel wr wr.drew) hkm true (by omega)); change Exit.inBlock _ _ .normal _ (wr.drew.setCell ⟨w.heap.size + 1, k, none⟩ (.bool true)); generalize wr.drew.setCell ⟨w.heap.size + 1, k, none⟩ (.bool true) = wF at HF ⊢; go_wp2_with fail
              go_roundw
              case rel => exact ⟨k + 1, _, by go_num, by omega, by have := HRE.out; simpa using this, HF.out.later (bel wF _)⟩
              case measure => simp [intOf]; omega
            rcases y with _ | _
            · go_upto_region 17 with fail
              refine wp_region_eff [20, 24] true (fun w' => w'.cell? ⟨w.heap.size + 1, k, none⟩ = some (.bool false) ∧ w'.cell? ⟨w.heap.size + 1, m, none⟩ = some (.bool false) ∧ w'.cell? ⟨bo, oo + k, none⟩ = some (.slice ax nx cx) ∧ w'.cell? ⟨bo, oo + m, none⟩ = some (.slice ay ny cy)) (by kernel_rfl) (by kernel_rfl) ?_ ?_
              · (try dsimp only); (repeat' apply And.intro) <;> go_simp
              repeat
               first
                | (refine wpL_look rfl rfl ?_
                   apply Exists.intro; refine ⟨?_, ?_⟩
                   focus
                    rintro w' ⟨s0, s1, s2, s3⟩; go_simp
                    first | done | rfl
                   simp only [Act.put, sA, sZ, sS])
                | (refine wpL_none rfl ?_
                   simp only [Act.put, sA, sZ, sS])
              refine wpL_skip rfl rfl ?_; apply Exists.intro; apply And.intro
              focus
               go_simp
               first | done | rfl
              apply And.intro
              focus
               exact .inr ⟨rfl, rfl⟩
              refine wpL_end ?_; simp only [Act.put]; have HF := Lib.hid (HX.out.store (bel wr wr.drew) hkm false (by omega)); change Exit.inBlock _ _ .normal _ (wr.drew.setCell ⟨w.heap.size + 1, k, none⟩ (.bool false)); generalize wr.drew.setCell ⟨w.heap.size + 1, k, none⟩ (.bool false) = wF at HF ⊢; go_wp2_with fail
              go_roundw
              case rel => exact ⟨k + 1, _, by go_num, by omega, by have := HRE.out; simpa using this, HF.out.later (bel wF _)⟩
              case measure => simp [intOf]; omega
            rcases t with _ | _
            · go_upto_region 17 with fail
              refine wp_region_eff [20, 24] true (fun w' => w'.cell? ⟨w.heap.size + 1, k, none⟩ = some (.bool false) ∧ w'.cell? ⟨w.heap.size + 1, m, none⟩ = some (.bool true) ∧ w'.cell? ⟨bo, oo + k, none⟩ = some (.slice ax nx cx) ∧ w'.cell? ⟨bo, oo + m, none⟩ = some (.slice ay ny cy)) (by kernel_rfl) (by kernel_rfl) ?_ ?_
              · (try dsimp only); (repeat' apply And.intro) <;> go_simp
              repeat
               first
                | (refine wpL_look rfl rfl ?_
                   apply Exists.intro; refine ⟨?_, ?_⟩
                   focus
                    rintro w' ⟨s0, s1, s2, s3⟩; go_simp
                    first | done | rfl
                   simp only [Act.put, sA, sZ, sS])
                | (refine wpL_none rfl ?_
                   simp only [Act.put, sA, sZ, sS])
              refine wpL_act rfl rfl ?_; refine eff_call 17 #[.slice ax nx cx, .slice ay ny cy] ?_ ((htch wr.drew (bel wr _)).mono ?_)
              · go_simp
                first | done | rfl
              rintro e w4 ⟨rfl, hb4⟩; obtain ⟨p4, rfl⟩ := hb4.rest; refine ⟨_, rfl, .inl ?_, ?_⟩
              · (try dsimp only); (repeat' apply And.intro) <;> go_simp
              simp only [Act.put, sA, sZ, sS]
              repeat
               first
                | (refine wpL_look rfl rfl ?_
                   apply Exists.intro; refine ⟨?_, ?_⟩
                   focus
                    rintro w' ⟨s0, s1, s2, s3⟩; go_simp
                    first | done | rfl
                   simp only [Act.put, sA, sZ, sS])
                | (refine wpL_none rfl ?_
                   simp only [Act.put, sA, sZ, sS])
              refine wpL_skip rfl rfl ?_; apply Exists.intro; apply And.intro
              focus
               go_simp
               first | done | rfl
              apply And.intro
              focus
               exact .inr ⟨rfl, rfl⟩
              refine wpL_end ?_; simp only [Act.put]; have HF := Lib.hid ((HX.out.store (Below.refl _ _) hkm false (by omega)).later (bel (wr.setCell ⟨w.heap.size + 1, k, none⟩ (.bool false)) ((wr.setCell ⟨w.heap.size + 1, k, none⟩ (.bool false)).drew.junk p4))); change Exit.inBlock _ _ .normal _ ((wr.setCell ⟨w.heap.size + 1, k, none⟩ (.bool false)).drew.junk p4); generalize (wr.setCell ⟨w.heap.size + 1, k, none⟩ (.bool false)).drew.junk p4 = wF at HF ⊢; go_wp2_with fail
              go_roundw
              case rel => exact ⟨k + 1, _, by go_num, by omega, by have := HRE.out; simpa using this, HF.out.later (bel wF _)⟩
              case measure => simp [intOf]; omega
            · go_upto_region 17 with fail
              refine wp_region_eff [20, 24] true (fun w' => w'.cell? ⟨w.heap.size + 1, k, none⟩ = some (.bool false) ∧ w'.cell? ⟨w.heap.size + 1, m, none⟩ = some (.bool true) ∧ w'.cell? ⟨bo, oo + k, none⟩ = some (.slice ax nx cx) ∧ w'.cell? ⟨bo, oo + m, none⟩ = some (.slice ay ny cy)) (by kernel_rfl) (by kernel_rfl) ?_ ?_
              · (try dsimp only); (repeat' apply And.intro) <;> go_simp
              repeat
               first
                | (refine wpL_look rfl rfl ?_
                   apply Exists.intro; refine ⟨?_, ?_⟩
                   focus
                    rintro w' ⟨s0, s1, s2, s3⟩; go_simp
                    first | done | rfl
                   simp only [Act.put, sA, sZ, sS])
                | (refine wpL_none rfl ?_
                   simp only [Act.put, sA, sZ, sS])
              refine wpL_act rfl rfl ?_; refine eff_call 17 #[.slice ax nx cx, .slice ay ny cy] ?_ ((htch wr.drew (bel wr _)).mono ?_)
              · go_simp
                first | done | rfl
              rintro e w4 ⟨rfl, hb4⟩; obtain ⟨p4, rfl⟩ := hb4.rest; refine ⟨_, rfl, .inl ?_, ?_⟩
              · (try dsimp only); (repeat' apply And.intro) <;> go_simp
              simp only [Act.put, sA, sZ, sS]
              repeat
               first
                | (refine wpL_look rfl rfl ?_
                   apply Exists.intro; refine ⟨?_, ?_⟩
                   focus
                    rintro w' ⟨s0, s1, s2, s3⟩; go_simp
                    first | done | rfl
                   simp only [Act.put, sA, sZ, sS])
                | (refine wpL_none rfl ?_
                   simp only [Act.put, sA, sZ, sS])
              refine wpL_skip rfl rfl ?_; apply Exists.intro; apply And.intro
              focus
               go_simp
               first | done | rfl
              apply And.intro
              focus
               exact .inr ⟨rfl, rfl⟩
              refine wpL_end ?_; simp only [Act.put]; have HF := Lib.hid ((HX.out.store (Below.refl _ _) hkm true (by omega)).later (bel (wr.setCell ⟨w.heap.size + 1, k, none⟩ (.bool true)) ((wr.setCell ⟨w.heap.size + 1, k, none⟩ (.bool true)).drew.junk p4))); change Exit.inBlock _ _ .normal _ ((wr.setCell ⟨w.heap.size + 1, k, none⟩ (.bool true)).drew.junk p4); generalize (wr.setCell ⟨w.heap.size + 1, k, none⟩ (.bool true)).drew.junk p4 = wF at HF ⊢; go_wp2_with fail
              go_roundw
              case rel => exact ⟨k + 1, _, by go_num, by omega, by have := HRE.out; simpa using this, HF.out.later (bel wF _)⟩
              case measure => simp [intOf]; omega
          · have hkm2 : k = m := by omega
            subst hkm2; have hst2 : inn' = stepsE (touchT kss) k k 0 inn := by
             rw [Nat.sub_self] at hst; exact hst
            have HS := Lib.hid hst2; have ew1 : IntKind.i64.wrap ((k : Int) - 1) = (k : Int) - 1 := I64.wrap (by unfold I64; omega); clear hst hst2 hcw; go_wp2_with fail
            go_roundw
            case rel => exact ⟨k, inn', rfl, by omega, by rw [HS.out]; exact HRE0.out, HX.out.later (bel wr _)⟩
            case measure => first | (simp [intOf]; done) | (simp [intOf]; omega)
end Go.Proofs.YtmkapobnfigedaaGreatDoor
