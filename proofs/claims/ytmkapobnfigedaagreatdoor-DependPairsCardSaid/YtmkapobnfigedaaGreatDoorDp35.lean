/- Part of the proof of a law of chapter 15. Conditions: none. -/
import Derived.Test.YtmkapobnfigedaaGreatDoorDp34
set_option linter.unusedVariables false
set_option linter.unusedSimpArgs false
set_option maxRecDepth 100000
set_option maxHeartbeats 8000000
namespace Go.Proofs.YtmkapobnfigedaaGreatDoor
open Go.RowKit
section
variable {w0 w w' w1 w2 : World} {S S' : PSt} {c : PCall} {bs bh bc : Nat} {ks : List PKey}
theorem keepGa_trans (h : Keep (InGa w) w w1) (k : Keep (InGa w1) w1 w2) : Keep (InGa w) w w2 := h.trans k fun i hi hg => Classical.byContradiction fun hn => hn (by
 obtain ⟨c, t, hb, ht⟩ := hg
 have := h.block i hi hn
 exact ⟨c, t, by unfold Blk at hb ⊢; rw [← this]; exact hb, ht⟩)
theorem keepGa_below (hb : Below w.heap.size w w1) : Keep (InGa w) w w1 := Keep.of_below hb _
def Gathers (w0 w : World) (S S' : PSt) (c : PCall) (bs bh bc : Nat) (ks : List PKey) (e : Ending) (w' : World) : Prop := e = .returned (.tuple #[]) ∧ GAt w0 w' S S' c bs bh bc ks ∧ Keep (InGa w) w w'
theorem inode110 (h : GAt w0 w S S' c bs bh bc ks) (hl : ks.length ≤ 1000000) {b : Nat} {S1 : PSt} (hsp : SP w0 b S1) (hwf : S1.wf) (p : ByteArray) :
 Calls Tryz.prog 110 #[.pointer (some ⟨w0.heap.size, 0, none⟩), .pointer (some ⟨b, 0, none⟩), .string p] w (Gathers w0 w S S' c bs bh bc (ks ++ inodeK S1 p)) := by
 obtain ⟨hl0, iv, ov, mv, c0, c1, c2, hr⟩ := hsp.below h.below (Nat.le_refl _)
 have ib : BlockLt b w := ⟨hl0⟩
 have o1 := hr.1.one
 have o2 := hr.2.1.one
 have o3 : iv.oneCell' = true := by obtain ⟨_, _, _, h3, _⟩ := hr; exact h3.one
 have hf := find152 iv ov mv S1 p w hr hwf
 have hadd := fun (q : Behind) => add113 (h.later (bel w (w.junk q))) hl (findP S1 p).1 ⟨#[]⟩
 have HG := Lib.hid h
 unfold inodeK
 generalize findP S1 p = F at *
 obtain ⟨num, code⟩ := F
 clear h hr hsp
 go_enter Tryz.func110, Tryz.ntmps110
 go_wp2_with (first | (go_at_call 152; refine hf.mono ?_; rintro e w1 ⟨rfl, hb⟩; obtain ⟨q, rfl⟩ := hb.rest; clear hb) | (go_at_call 113; refine (hadd _).mono ?_; rintro e w2 ⟨rfl, hg, hk⟩))
 exact bodyPost_end (v := .tuple #[]) (by simp [results, go_sem]) rfl ⟨rfl, hg, keepGa_trans (keepGa_below (bel w _)) hk⟩
end
theorem index136d (zs : List PDesc) (v : Value) (l0 : Value) (p : PDesc → Bool) (w : World) (h : RowAt w 3 v (zs.map PDesc.cells)) (hlen : zs.length ≤ 1000000000)
 (hg : ∀ (z : PDesc) (ww : World), z ∈ zs → Below w.heap.size w ww → Calls Tryz.prog 155 #[.agg #[.int .i64 z.core, .int .i64 z.fd, .int .i64 z.num], l0] ww fun e w' => e = .returned (.bool (p z)) ∧ Below ww.heap.size ww w') :
 Calls Tryz.prog 136 #[v, .func (.func 155) #[] #[l0]] w fun e w' => e = .returned (.int .i64 (idxM p zs)) ∧ Below w.heap.size w w' := by
 obtain ⟨a, cap, rfl, hat⟩ := h.at_
 rw [lM]
 have HA := Lib.hid hat
 clear hat h
 unfold idxM
 obtain ⟨R, hR⟩ : ∃ R, idxFrom p zs 0 = R := ⟨_, rfl⟩
 rw [hR]
 have HR := Lib.hid hR
 clear hR
 go_enter Tryz.func136, Tryz.ntmps136
 go_wp2_with fail
 go_loopw [8] (fun i wr => ∃ (q : Nat), i = .int .i64 q ∧ q ≤ zs.length ∧ idxFrom p (zs.drop q) q = R ∧ Below w.heap.size w wr) (fun i _ => (zs.length - intOf i).toNat)
 case atStart => exact ⟨0, rfl, by omega, HR.out, bel _ _⟩
 case round =>
  obtain ⟨q, rfl, hq, hre, hb⟩ := hrel; have iB : Bel w wr := ⟨hb⟩
  by_cases hlt : q < zs.length
  · obtain ⟨z, hz⟩ : ∃ z, zs[q]? = some z := ⟨_, gE hlt⟩
    obtain ⟨b, off, rfl, iG0, iG, hc⟩ := HA.out wr hb q (PDesc.cells z) (by rw [gM, hz]; rfl); have c0 := hc 0 _ rfl; have c1 := hc 1 _ rfl; have c2 := hc 2 _ rfl; rw [idxFrom_drop p zs q z hz] at hre; have hcall : ∀ ww, Below w.heap.size w ww → Calls Tryz.prog 155 #[.agg #[.int .i64 z.core, .int .i64 z.fd, .int .i64 z.num], l0] ww fun e w' => e = .returned (.bool (p z)) ∧ Below ww.heap.size ww w' := fun ww hww => hg z ww (mG hz) hww
    have HZ := Lib.hid (And.intro hz hre); clear hc hz hre hg; rw [Nat.add_zero] at c0; generalize hpz : p z = t at hcall HZ; rcases t with _ | _
    · go_wp2_with (go_at_call 155; refine aT (hcall _ (bel _ _)) fun p => ?_)
      go_roundw
      case rel => exact ⟨q + 1, by go_num, by omega, by have := HZ.out.2; simpa using this, bel _ _⟩
      case measure => simp [intOf]; omega
    · have hv : R = q := by have := HZ.out.2; simpa using this.symm
      subst hv; go_wp2_with (go_at_call 155; refine aT (hcall _ (bel _ _)) fun p => ?_)
      exact bodyPost_ret (v := .int .i64 q) (by simp [results, Tryz.results136, go_sem]) rfl ⟨rfl, bel _ _⟩
  · rw [idxFrom_end p zs q hlt] at hre; subst hre; clear hg; go_wp2_with fail; exact bodyPost_ret (v := .int .i64 (-1)) (by simp [results, Tryz.results136, go_sem]) rfl ⟨rfl, bel _ _⟩

theorem opened155 (g bc : Nat) (b1 b2 out : Value) (c : PCall) (x : PDesc) (bx : Nat) (w : World) (hg : Blk w g #[b1, b2, .pointer (some ⟨bc, 0, none⟩), out] 106) (hc : CP w bc c) (ib : BlockLt bx w) (hx : w.cell? ⟨bx, 0, none⟩ = some (.pointer (some ⟨g, 0, none⟩))) :
 Calls Tryz.prog 155 #[.agg #[.int .i64 x.core, .int .i64 x.fd, .int .i64 x.num], .pointer (some ⟨bx, 0, none⟩)] w fun e w' => e = .returned (.bool (isFd c x)) ∧ Below w.heap.size w w' := by
 have iG := hg.lt
 have g2 : w.cell? ⟨g, 2, none⟩ = some (.pointer (some ⟨bc, 0, none⟩)) := hg.cell 2
 have iC : BlockLt bc w := ⟨hc.1⟩
 have c1 := hc.2 1 _ rfl
 have c2 := hc.2 2 _ rfl
 unfold isFd
 clear hg hc
 rcases hb1 : (x.core == c.core) with _ | _
 · go_enter Tryz.func155, Tryz.ntmps155
   go_wp2_with fail; refine wp_region_quiet_rest (by kernel_rfl) (by kernel_rfl) ?_
   repeat
    first
     | go_big_quiet_skip
     | (go_big_quiet_want; go_big_quiet_op; first | go_big_quiet_on | (apply Exists.intro; refine ⟨fun _ => ?_, ?_⟩; (focus (fail)); go_big_quiet_on))
   refine QN fun p => ?_; go_wp2_with fail; go_ret; exact ⟨rfl, bel _ _⟩
 · go_enter Tryz.func155, Tryz.ntmps155
   go_wp2_with fail; refine wp_region_quiet_rest (by kernel_rfl) (by kernel_rfl) ?_
   repeat
    first
     | go_big_quiet_skip
     | (go_big_quiet_want; go_big_quiet_op; first | go_big_quiet_on | (apply Exists.intro; refine ⟨fun _ => ?_, ?_⟩; (focus (fail)); go_big_quiet_on))
   refine QN fun p => ?_; go_wp2_with fail; go_ret; exact ⟨by first | rfl | simp_all, bel _ _⟩
section
variable {w0 w w' w1 w2 : World} {S S' : PSt} {c : PCall} {bs bh bc : Nat} {ks : List PKey}
theorem opened112 (h : GAt w0 w S S' c bs bh bc ks) (hl : ks.length ≤ 1000000) (hwf : S.wf) (hfd : 0 ≤ idxM (isFd c) S.op) :
 Calls Tryz.prog 112 #[.pointer (some ⟨w0.heap.size, 0, none⟩)] w (Gathers w0 w S S' c bs bh bc (ks ++ openedK S c)) := by
 obtain ⟨hl0, iv, ov, mv, c0, c1, c2, hr⟩ := h.sp.below h.below (Nat.le_refl _)
 have ib : BlockLt bs w := ⟨hl0⟩
 obtain ⟨out, hgb, -⟩ := h.own
 have iG := hgb.lt
 have g0 : w.cell? ⟨w0.heap.size, 0, none⟩ = some (.pointer (some ⟨bs, 0, none⟩)) := hgb.cell 0
 have hcp : CP w bc c := ⟨Nat.lt_of_lt_of_le h.cp.1 h.below.size, fun t u hu => (h.below.cell (p := ⟨bc, t, none⟩) h.cp.1).trans (h.cp.2 t u hu)⟩
 have hib := idxM_bounds (isFd c) S.op
 obtain ⟨k, hk⟩ : ∃ k : Nat, idxM (isFd c) S.op = k := ⟨(idxM (isFd c) S.op).toNat, by omega⟩
 rw [hk] at hib
 obtain ⟨d, hd⟩ : ∃ d, S.op[k]? = some d := ⟨_, gE (by omega)⟩
 have hkey : openedK S c = [⟨d.num, ⟨#[]⟩⟩] := by
  unfold openedK; rw [hk, Int.toNat_natCast, hd]
 rw [hkey]
 have hrow : ∀ ww, Below w.heap.size w ww → RowAt ww 3 ov (S.op.map PDesc.cells) := fun ww hb => hr.1.below hb (Nat.le_refl _)
 have hidx : ∀ ww bx, Below w.heap.size w ww → BlockLt bx ww → ww.cell? ⟨bx, 0, none⟩ = some (.pointer (some ⟨w0.heap.size, 0, none⟩)) → Calls Tryz.prog 136 #[ov, .func (.func 155) #[] #[.pointer (some ⟨bx, 0, none⟩)]] ww fun e w' => e = .returned (.int .i64 k) ∧ Below ww.heap.size ww w' := fun ww bx hb i hx => by
  have := index136d S.op ov (.pointer (some ⟨bx, 0, none⟩)) (isFd c) ww (hrow ww hb) hwf.2.1 (fun z w3 _ hb3 => opened155 w0.heap.size bc _ _ out c z bx w3 (hgb.below (hb.trans (hb3.mono hb.size)) iG.lt) ⟨by have := hcp.1; have := hb.size; have := hb3.size; omega, fun t u hu => ((hb.trans (hb3.mono hb.size)).cell (p := ⟨bc, t, none⟩) hcp.1).trans (hcp.2 t u hu)⟩ ⟨by have := i.lt; have := hb3.size; omega⟩ ((hb3.cell (p := ⟨bx, 0, none⟩) i.lt).trans hx)); rw [hk] at this; exact this
 have hadd := fun (ww : World) (hb : Below w.heap.size w ww) => add113 (h.later hb) hl d.num ⟨#[]⟩
 obtain ⟨ao, co, rfl, hato⟩ := hr.1.at_
 rw [lM] at c1 hidx
 obtain ⟨bo, offo, rfl, iO0, iO, hco⟩ := hato w (bel _ _) k d.cells (by rw [gM, hd]; rfl)
 have o2 : w.cell? ⟨bo, offo + k * 3 + 2, none⟩ = some (.int .i64 d.num) := hco 2 _ rfl
 have hkI : (k : Int) < S.op.length := by omega
 clear hr hrow hato hco hgb hcp hk hkey hd hib h c0 c2 hfd
 go_enter Tryz.func112, Tryz.ntmps112
 go_upto_region 2 with (go_at_call 136; refine aT (hidx _ _ (bel _ _) inferInstance (by go_simp)) fun p => ?_)
 refine wp_region_eff [12] true (fun w' => w'.cell? ⟨w.heap.size, 0, none⟩ = some (.pointer (some ⟨w0.heap.size, 0, none⟩)) ∧ w'.cell? ⟨w0.heap.size, 0, none⟩ = some (.pointer (some ⟨bs, 0, none⟩)) ∧ w'.cell? ⟨bs, 1, none⟩ = some (.slice (some ⟨bo, offo, none⟩) S.op.length co) ∧ w'.cell? ⟨bo, offo + k * 3 + 2, none⟩ = some (.int .i64 d.num)) (by kernel_rfl) (by kernel_rfl) ?_ ?_
 · (try dsimp only); (repeat' apply And.intro) <;> go_simp
 repeat
  refine wpL_look rfl rfl ?_; apply Exists.intro; refine ⟨?_, ?_⟩
  focus
   rintro w' ⟨s0, s1, s2, s3⟩; go_simp
   first | done | rfl
  simp only [Act.put, sA, sZ, sS]
 refine wpL_act rfl rfl ?_
 refine eff_call 113 #[.pointer (some ⟨w0.heap.size, 0, none⟩), .int .i64 d.num, .string ⟨#[]⟩] ?_ ((hadd ((w.alloc (.cells #[.pointer (some ⟨w0.heap.size, 0, none⟩)] 103)).junk p).drew (bel w _)).mono ?_)
 · go_simp
   first | done | rfl
 rintro e w2 ⟨rfl, hg, hk⟩
 refine ⟨_, rfl, .inr ⟨rfl, rfl⟩, ?_⟩
 refine wpL_end ?_
 exact bodyPost_end (v := .tuple #[]) (by simp [results, go_sem]) rfl ⟨rfl, hg, keepGa_trans (keepGa_below (bel w _)) hk⟩
end
end Go.Proofs.YtmkapobnfigedaaGreatDoor
