/- Part of the proof of a law of chapter 15. Conditions: none. -/
import Derived.Test.YtmkapobnfigedaaGreatDoorDp38
set_option linter.unusedVariables false
set_option linter.unusedSimpArgs false
set_option maxRecDepth 100000
set_option maxHeartbeats 8000000
namespace Go.Proofs.YtmkapobnfigedaaGreatDoor
open Go.RowKit
theorem gatherK_ne {S S' : PSt} {c : PCall} {l : List PKey} (h : gatherK S S' c = some l) : l ≠ [] := by
 unfold gatherK at h
 simp only at h
 obtain ⟨m, _, rfl⟩ := Option.map_eq_some_iff.1 h
 simp
theorem gatherK_len {S S' : PSt} {c : PCall} {l : List PKey} (ok : GatherOk S c) (h : gatherK S S' c = some l) : l.length ≤ 1000 := by
 have lw : ∀ S p, PathOk p → (walkK S p).length ≤ 10 ∧ (entryK S p).length ≤ 11 := fun S p hp => by
  have := parse_len hp.1; unfold entryK walkK thruK; rw [lP, lM, List.length_range]; exact ⟨by omega, by simp; omega⟩
 have li : ∀ S p, (inodeK S p).length = 1 := fun _ _ => rfl
 have lo : ∀ S c, (openedK S c).length = 1 := fun _ _ => rfl
 unfold gatherK at h
 simp only at h
 obtain ⟨m, hm, rfl⟩ := Option.map_eq_some_iff.1 h
 have : m.length ≤ 100 := by
  by_cases k0 : c.kind = 0 ∨ c.kind = 1
  · rw [if_pos k0] at hm; cases hm; have := (lw S c.path (ok.path (by omega))).2; rw [lP, li]; omega
  rw [if_neg k0] at hm; by_cases k2 : c.kind = 2
  · rw [if_pos k2] at hm; cases hm; have := (lw S c.path (ok.path (by omega))).1; rw [lP, li]; omega
  rw [if_neg k2] at hm; by_cases k3 : c.kind = 3 ∨ c.kind = 6
  · rw [if_pos k3] at hm; cases hm; rw [lo]; omega
  rw [if_neg k3] at hm; by_cases k5 : c.kind = 5
  · rw [if_pos k5] at hm
    split at hm
    · cases hm
    · cases hm; rw [lo]; omega
  rw [if_neg k5] at hm; by_cases k8 : c.kind = 8
  · rw [if_pos k8] at hm; cases hm; have h1 := (lw S c.path (ok.path (by omega))).1; have h2 := (lw S c.path2 (ok.path2 (by omega))).2; rw [lP, lP, li]; omega
  rw [if_neg k8] at hm; by_cases k9 : c.kind = 9 ∨ c.kind = 10
  · rw [if_pos k9] at hm; cases hm; have := (lw S c.path (ok.path (by omega))).2; rw [lP, li]; omega
  rw [if_neg k9] at hm; by_cases k11 : c.kind = 11
  · rw [if_pos k11] at hm; cases hm; have h1 := (lw S c.path (ok.path (by omega))).2; have h2 := (lw S c.path2 (ok.path2 (by omega))).2; rw [lP, lP, li]; omega
  rw [if_neg k11] at hm; cases hm
 rw [lP]
 simp
 omega
def KeysAt (B : Nat) (S' : PSt) (ks : List PKey) (e : Ending) (w' : World) : Prop := ∃ kv iv ov mv, e = .returned (.tuple #[kv, .agg #[iv, ov, mv]]) ∧ OwnP B w' 61 2 kv (ks.map PKey.cells) ∧ StOwn B w' iv ov mv S'
structure KW (w : World) (S S' : PSt) (c : PCall) (r : PRes) (iv ov mv iv1 ov1 mv1 nv1 : Value) (b6 b7 : Nat) (wA : World) : Prop where
 below : Below w.heap.size w wA
 s : Blk wA w.heap.size #[iv, ov, mv] 26
 c : Blk wA (w.heap.size + 1) #[.int .i64 c.kind, .int .i64 c.core, .int .i64 c.fd, .int .i64 c.off, .int .i64 c.num, .string c.path, .string c.path2, .string c.data] 28
 o : Blk wA (w.heap.size + 1 + 1) #[.slice none 0 0, .slice none 0 0, .slice none 0 0] 26
 h : Blk wA b6 #[iv1, ov1, mv1] 26
 r : Blk wA b7 #[.int .i64 r.code, .int .i64 r.fd, .int .i64 r.num, .bool r.dir, .string r.data, nv1] 52
 n6 : w.heap.size + 1 + 1 < b6
 sr : StRead wA iv ov mv S
 sr1 : StOwn w.heap.size wA iv1 ov1 mv1 S'
theorem keys40 (iv ov mv : Value) (S : PSt) (c : PCall) (w : World) (h : StRead w iv ov mv S) (hwf : S.wf) (hwf' : (doX S c).1.wf) (hcd : c.data.size ≤ 1000000000000000000) :
 Calls Tryz.prog 40 #[.agg #[iv, ov, mv], c.val] w fun e w' => Below w.heap.size w w' ∧ KeysAt w.heap.size (doX S c).1 (keysM S c) e w' := by
 have D := did_all hwf hcd
 have hok : (doX S c).2.code = 0 → GatherOk S c := fun hc => gather_ok hwf hc
 unfold keysM
 generalize doX S c = SR at *
 obtain ⟨S', r⟩ := SR
 simp only at D hok hwf' ⊢
 obtain ⟨RR, hRR⟩ : ∃ RR, pickK r.code (gatherK S S' c) = RR := ⟨_, rfl⟩
 rw [hRR]
 have HRR := Lib.hid hRR
 clear hRR
 have o1 := h.1.one
 have o2 := h.2.1.one
 have o3 : iv.oneCell' = true := by obtain ⟨_, _, _, h3, _⟩ := h; exact h3.one
 have HS := Lib.hid h
 clear h
 unfold PCall.val
 go_enter Tryz.func40, Tryz.ntmps40
 go_upto_region 2 with (go_at_call 73; refine (D _ _ _ _ (HS.out.below (bel w _) (Nat.le_refl _))).mono ?_; rintro e wa ⟨hb, iv1, ov1, mv1, nv1, rfl, hs1, hn1⟩; obtain ⟨pa, rfl⟩ := hb.rest; clear hb; obtain ⟨a11, a12, a13, a14, a15, a16, a17, a18, a19, rfl, rfl, rfl⟩ := hs1.forms; obtain ⟨n11, n12, rfl, -⟩ := hn1.row)
 refine abs_world (F := fun wA => KW w S S' c r iv ov mv (.slice a11 a12 a13) (.slice a14 a15 a16) (.slice a17 a18 a19) (.slice n11 r.names.length n12) (w.heap.size + 1 + 1 + 1 + pa.len) (w.heap.size + 1 + 1 + 1 + pa.len + 1) wA) ?_ ?_
 · refine ⟨bel w _, ?_, ?_, ?_, ?_, ?_, by omega, HS.out.below (bel w _) (Nat.le_refl _), ?_⟩
   · repeat (first | exact Blk.new_i _ _ _ _ | refine Blk.alloc ?_ _ | refine Blk.junk ?_ _)
   · repeat (first | exact Blk.new_i _ _ _ _ | refine Blk.alloc ?_ _ | refine Blk.junk ?_ _)
   · repeat (first | exact Blk.new_i _ _ _ _ | refine Blk.alloc ?_ _ | refine Blk.junk ?_ _)
   · repeat (first | exact Blk.new_i _ _ _ _ | refine Blk.alloc ?_ _ | refine Blk.junk ?_ _)
   · repeat (first | exact Blk.new_i _ _ _ _ | refine Blk.alloc ?_ _ | refine Blk.junk ?_ _)
   · exact StOwn.mono (StOwn.keep hs1 (Keep.of_below (bel _ _) (fun _ => False)) (fun _ h => h.elim)) (by simp; omega)
 generalize w.heap.size + 1 + 1 + 1 + pa.len = b6
 generalize b6 + 1 = b7
 clear hs1 hn1 pa HS D
 intro wA K
 have k0 : wA.cell? ⟨b7, 0, none⟩ = some (.int .i64 r.code) := K.r.cell 0
 have i7 := K.r.lt
 have i6 := K.h.lt
 have h0 : wA.cell? ⟨b6, 0, none⟩ = some (.slice a11 a12 a13) := K.h.cell 0
 have h1 : wA.cell? ⟨b6, 1, none⟩ = some (.slice a14 a15 a16) := K.h.cell 1
 have h2 : wA.cell? ⟨b6, 2, none⟩ = some (.slice a17 a18 a19) := K.h.cell 2
 have i5 := K.o.lt
 have p0 : wA.cell? ⟨w.heap.size + 1 + 1, 0, none⟩ = some (.slice none 0 0) := K.o.cell 0
 have p1 : wA.cell? ⟨w.heap.size + 1 + 1, 1, none⟩ = some (.slice none 0 0) := K.o.cell 1
 have p2 : wA.cell? ⟨w.heap.size + 1 + 1, 2, none⟩ = some (.slice none 0 0) := K.o.cell 2
 have f0 := K.o.frozen 0
 have f1 := K.o.frozen 1
 have f2 := K.o.frozen 2
 have hGA : GAt wA (wA.alloc (.cells #[.pointer (some ⟨w.heap.size, 0, none⟩), .pointer (some ⟨b6, 0, none⟩), .pointer (some ⟨w.heap.size + 1, 0, none⟩), .slice none 0 0] 106)) S S' c w.heap.size b6 (w.heap.size + 1) [] :=
  ⟨⟨K.s.lt.lt, iv, ov, mv, K.s.cell 0, K.s.cell 1, K.s.cell 2, K.sr⟩, ⟨i6.lt, _, _, _, h0, h1, h2, K.sr1.read⟩, ⟨K.c.lt.lt, fun t u hu => by rw [K.c.cell]; simpa [PCall.cells] using hu⟩, bel wA _, .slice none 0 0, Blk.new _ _ _, .inl ⟨rfl, rfl⟩⟩
 have HK := Lib.hid (And.intro K hGA)
 have HN := K.n6
 by_cases hcode : r.code = 0
 · have hrc : (r.code != 0) = false := by simpa using hcode
   rcases hg : gatherK S S' c with _ | l
   · have hR0 : RR = [] := by rw [← HRR.out, hg, pickK_none]
     have hgn := gather_no hGA hg; clear K hGA hcode hok
     go_upto_region 4 with (go_at_call 74; refine hgn.mono ?_; rintro e w2 ⟨rfl, hg2⟩)
     have hb2 := hg2.below; have q0 : w2.cell? ⟨b6, 0, none⟩ = some (.slice a11 a12 a13) := (hb2.cell (p := ⟨b6, 0, none⟩) i6.lt).trans h0; have q1 : w2.cell? ⟨b6, 1, none⟩ = some (.slice a14 a15 a16) := (hb2.cell (p := ⟨b6, 1, none⟩) i6.lt).trans h1; have q2 : w2.cell? ⟨b6, 2, none⟩ = some (.slice a17 a18 a19) := (hb2.cell (p := ⟨b6, 2, none⟩) i6.lt).trans h2; have ko : Blk w2 (w.heap.size + 1 + 1) #[.slice none 0 0, .slice none 0 0, .slice none 0 0] 26 := HK.out.1.o.below hb2 i5.lt; have p0 : w2.cell? ⟨w.heap.size + 1 + 1, 0, none⟩ = some (.slice none 0 0) := ko.cell 0; have p1 : w2.cell? ⟨w.heap.size + 1 + 1, 1, none⟩ = some (.slice none 0 0) := ko.cell 1; have p2 : w2.cell? ⟨w.heap.size + 1 + 1, 2, none⟩ = some (.slice none 0 0) := ko.cell 2; have f0 := ko.frozen 0; have f1 := ko.frozen 1; have f2 := ko.frozen 2; have j6 : BlockLt b6 w2 := ⟨by have := i6.lt; have := hb2.size; omega⟩
     have j5 := ko.lt; refine wp_region_eff [2] true (fun w' => w'.cell? ⟨b6, 0, none⟩ = some (.slice a11 a12 a13) ∧ w'.cell? ⟨b6, 1, none⟩ = some (.slice a14 a15 a16) ∧ w'.cell? ⟨b6, 2, none⟩ = some (.slice a17 a18 a19)) (by kernel_rfl) (by kernel_rfl) ?_ ?_
     · (try dsimp only); (repeat' apply And.intro) <;> go_simp
     repeat
      refine wpL_look rfl rfl ?_; apply Exists.intro; refine ⟨?_, ?_⟩
      focus
       rintro w' ⟨s0, s1, s2⟩; go_simp
       first | done | rfl
      simp only [Act.put, sA, sZ, sS]
     refine wpL_skip rfl rfl ?_; apply Exists.intro; apply And.intro
     focus
      go_simp
      first | done | rfl
     apply And.intro
     focus
      exact .inr ⟨rfl, rfl⟩
     refine wpL_end ?_; have hke : Keep (fun g => g = w.heap.size + 1 + 1) wA ((((w2.drew).setCell ⟨w.heap.size + 1 + 1, 0, none⟩ (.slice a11 a12 a13)).setCell ⟨w.heap.size + 1 + 1, 1, none⟩ (.slice a14 a15 a16)).setCell ⟨w.heap.size + 1 + 1, 2, none⟩ (.slice a17 a18 a19)) := (((Keep.of_below hb2.drew (fun g => g = w.heap.size + 1 + 1)).setCell (p := ⟨w.heap.size + 1 + 1, 0, none⟩) (.inl rfl) _).setCell (p := ⟨w.heap.size + 1 + 1, 1, none⟩) (.inl rfl) _).setCell (p := ⟨w.heap.size + 1 + 1, 2, none⟩) (.inl rfl) _; have hbe : Blk ((((w2.drew).setCell ⟨w.heap.size + 1 + 1, 0, none⟩ (.slice a11 a12 a13)).setCell ⟨w.heap.size + 1 + 1, 1, none⟩ (.slice a14 a15 a16)).setCell ⟨w.heap.size + 1 + 1, 2, none⟩ (.slice a17 a18 a19)) (w.heap.size + 1 + 1) #[(.slice a11 a12 a13), (.slice a14 a15 a16), (.slice a17 a18 a19)] 26 := (((HK.out.1.o.below hb2.drew i5.lt).set_ 0 (.slice a11 a12 a13)).set_ 1 (.slice a14 a15 a16)).set_ 2 (.slice a17 a18 a19); obtain ⟨wF, hwF⟩ : ∃ wF, ((((w2.drew).setCell ⟨w.heap.size + 1 + 1, 0, none⟩ (.slice a11 a12 a13)).setCell ⟨w.heap.size + 1 + 1, 1, none⟩ (.slice a14 a15 a16)).setCell ⟨w.heap.size + 1 + 1, 2, none⟩ (.slice a17 a18 a19)) = wF := ⟨_, rfl⟩
     change Exit.then _ _ .normal _ (((w2.drew.setCell ⟨w.heap.size + 1 + 1, 0, none⟩ (.slice a11 a12 a13)).setCell ⟨w.heap.size + 1 + 1, 1, none⟩ (.slice a14 a15 a16)).setCell ⟨w.heap.size + 1 + 1, 2, none⟩ (.slice a17 a18 a19))
     rw [hwF] at hke hbe ⊢; have hfo := hke; have e0 : wF.cell? ⟨w.heap.size + 1 + 1, 0, none⟩ = some (.slice a11 a12 a13) := hbe.cell 0; have e1 : wF.cell? ⟨w.heap.size + 1 + 1, 1, none⟩ = some (.slice a14 a15 a16) := hbe.cell 1; have e2 : wF.cell? ⟨w.heap.size + 1 + 1, 2, none⟩ = some (.slice a17 a18 a19) := hbe.cell 2; have j5F := hbe.lt; have hso : StOwn w.heap.size wF (.slice a11 a12 a13) (.slice a14 a15 a16) (.slice a17 a18 a19) S' := StOwn.keep HK.out.1.sr1 hke (fun g hg => by rw [hg]; exact ⟨_, 26, HK.out.1.o, by decide, by decide, by decide, by decide⟩); have hbF : Below w.heap.size w wF := HK.out.1.below.trans (hke.below HK.out.1.below.size (fun i hi hg => by omega)); clear q0 q1 q2 p0 p1 p2 f0 f1 f2 ko; go_wp2_with fail; exact bodyPost_ret (v := .tuple #[.slice none 0 0, .agg #[(.slice a11 a12 a13), (.slice a14 a15 a16), (.slice a17 a18 a19)]]) (by simp [results, Tryz.results40, go_sem, e0, e1, e2]) rfl ⟨hbF, _, _, _, _, rfl, .inl ⟨rfl, by rw [hR0]; rfl⟩, hso⟩
   · have hgy := gather_yes hGA (by simp) hwf hwf' (hok hcode) hg; have hll : l.length ≤ 1000 := gatherK_len (hok hcode) hg; have hR1 : RR = dedupK (sortK l) := by rw [← HRR.out, hg, pickK_some hcode]
     have hlne := gatherK_ne hg; clear K hGA hcode hok p0 p1 p2 f0 f1 f2
     go_upto_region 5 with (go_at_call 74; refine hgy.mono ?_; rintro e w2 ⟨rfl, hg2⟩)
     rw [List.nil_append] at hg2; obtain ⟨out, hgb, hown⟩ := hg2.own; have HOW := Lib.hid hown; rcases hown with ⟨-, h2'⟩ | ⟨gk, cap, arr, rfl, hgkB, hgkb, -⟩
     · exact absurd (List.map_eq_nil_iff.1 h2') hlne
     rw [lM] at HOW hgb; have hsort := sort75 wA.heap.size gk cap l w2 HOW.out (by omega); have iG2 := hgb.lt; have gc3 : w2.cell? ⟨wA.heap.size, 3, none⟩ = some (.slice (some ⟨gk, 0, none⟩) l.length cap) := hgb.cell 3; have hgne := hgkb.ne_ hgb (by decide); have hb2 := hg2.below
     go_upto_region 6 with (go_at_call 75; refine hsort.mono ?_; rintro e w3 ⟨rfl, ho3, hk3⟩)
     have hb3 : Below wA.heap.size wA w3 := hb2.trans (hk3.below hb2.size (fun i hi hg => by omega)); have hgb3 := hk3.blk hgb (fun e => hgne e.symm); have iG3 := hgb3.lt; have gd3 : w3.cell? ⟨wA.heap.size, 3, none⟩ = some (.slice (some ⟨gk, 0, none⟩) l.length cap) := hgb3.cell 3; rw [← sortK_len l] at ho3; have hcmp := compact80 wA.heap.size gk cap (sortK l) w3.drew (OwnP.keep ho3 (Keep.of_below (bel w3 w3.drew) (fun _ => False)) (fun _ _ h => h)) (by rw [sortK_len]; omega); rw [sortK_len] at hcmp; rw [← hR1] at hcmp; clear gc3 hgb hsort; have q0 : w3.cell? ⟨b6, 0, none⟩ = some (.slice a11 a12 a13) := (hb3.cell (p := ⟨b6, 0, none⟩) i6.lt).trans h0; have q1 : w3.cell? ⟨b6, 1, none⟩ = some (.slice a14 a15 a16) := (hb3.cell (p := ⟨b6, 1, none⟩) i6.lt).trans h1; have q2 : w3.cell? ⟨b6, 2, none⟩ = some (.slice a17 a18 a19) := (hb3.cell (p := ⟨b6, 2, none⟩) i6.lt).trans h2; have ko : Blk w3 (w.heap.size + 1 + 1) #[.slice none 0 0, .slice none 0 0, .slice none 0 0] 26 := HK.out.1.o.below hb3 i5.lt; have p0 : w3.cell? ⟨w.heap.size + 1 + 1, 0, none⟩ = some (.slice none 0 0) := ko.cell 0; have p1 : w3.cell? ⟨w.heap.size + 1 + 1, 1, none⟩ = some (.slice none 0 0) := ko.cell 1; have p2 : w3.cell? ⟨w.heap.size + 1 + 1, 2, none⟩ = some (.slice none 0 0) := ko.cell 2; have f0 := ko.frozen 0; have f1 := ko.frozen 1; have f2 := ko.frozen 2; have j6 : BlockLt b6 w3 := ⟨by have := i6.lt; have := hb3.size; omega⟩
     have j5 := ko.lt; refine wp_region_eff [4, 7] true (fun w' => w'.cell? ⟨wA.heap.size, 3, none⟩ = some (.slice (some ⟨gk, 0, none⟩) l.length cap) ∧ w'.cell? ⟨b6, 0, none⟩ = some (.slice a11 a12 a13) ∧ w'.cell? ⟨b6, 1, none⟩ = some (.slice a14 a15 a16) ∧ w'.cell? ⟨b6, 2, none⟩ = some (.slice a17 a18 a19)) (by kernel_rfl) (by kernel_rfl) ?_ ?_
     · (try dsimp only); (repeat' apply And.intro) <;> go_simp
     repeat
      refine wpL_look rfl rfl ?_; apply Exists.intro; refine ⟨?_, ?_⟩
      focus
       rintro w' ⟨s9, s0, s1, s2⟩; go_simp
       first | done | rfl
      simp only [Act.put, sA, sZ, sS]
     refine wpL_act rfl rfl ?_; refine eff_call 80 #[.slice (some ⟨gk, 0, none⟩) l.length cap] ?_ (hcmp.mono ?_)
     · go_simp
       first | done | rfl
     rintro e w4 ⟨rfl, ho4, hk4⟩; have hb4 : Below wA.heap.size wA w4 := hb3.trans ((bel w3 w3.drew).mono hb3.size |>.trans (hk4.below hb3.size (fun i hi hg => by omega))); have hgb4 := hk4.blk (hgb3.drew) (fun e => hgne e.symm); have q0x : w4.cell? ⟨b6, 0, none⟩ = some (.slice a11 a12 a13) := (hb4.cell (p := ⟨b6, 0, none⟩) i6.lt).trans h0; have q1x : w4.cell? ⟨b6, 1, none⟩ = some (.slice a14 a15 a16) := (hb4.cell (p := ⟨b6, 1, none⟩) i6.lt).trans h1; have q2x : w4.cell? ⟨b6, 2, none⟩ = some (.slice a17 a18 a19) := (hb4.cell (p := ⟨b6, 2, none⟩) i6.lt).trans h2; have kox : Blk w4 (w.heap.size + 1 + 1) #[.slice none 0 0, .slice none 0 0, .slice none 0 0] 26 := HK.out.1.o.below hb4 i5.lt; have p0x : w4.cell? ⟨w.heap.size + 1 + 1, 0, none⟩ = some (.slice none 0 0) := kox.cell 0; have p1x : w4.cell? ⟨w.heap.size + 1 + 1, 1, none⟩ = some (.slice none 0 0) := kox.cell 1; have p2x : w4.cell? ⟨w.heap.size + 1 + 1, 2, none⟩ = some (.slice none 0 0) := kox.cell 2; have f0x := kox.frozen 0; have f1x := kox.frozen 1; have f2x := kox.frozen 2; have j6x : BlockLt b6 w4 := ⟨by have := i6.lt; have := hb4.size; omega⟩
     have j5x := kox.lt; refine ⟨_, rfl, .inl ⟨hgb4.cell 3, q0x, q1x, q2x⟩, ?_⟩; simp only [Act.put, sA, sZ, sS]
     repeat
      refine wpL_look rfl rfl ?_; apply Exists.intro; refine ⟨?_, ?_⟩
      focus
       rintro w' ⟨s9, s0, s1, s2⟩; go_simp
       first | done | rfl
      simp only [Act.put, sA, sZ, sS]
     refine wpL_skip rfl rfl ?_; apply Exists.intro; apply And.intro
     focus
      go_simp
      first | done | rfl
     apply And.intro
     focus
      exact .inr ⟨rfl, rfl⟩
     refine wpL_end ?_; have hke : Keep (fun g => g = w.heap.size + 1 + 1) wA (((w4.setCell ⟨w.heap.size + 1 + 1, 0, none⟩ (.slice a11 a12 a13)).setCell ⟨w.heap.size + 1 + 1, 1, none⟩ (.slice a14 a15 a16)).setCell ⟨w.heap.size + 1 + 1, 2, none⟩ (.slice a17 a18 a19)) := (((Keep.of_below hb4 (fun g => g = w.heap.size + 1 + 1)).setCell (p := ⟨w.heap.size + 1 + 1, 0, none⟩) (.inl rfl) _).setCell (p := ⟨w.heap.size + 1 + 1, 1, none⟩) (.inl rfl) _).setCell (p := ⟨w.heap.size + 1 + 1, 2, none⟩) (.inl rfl) _; have hk5 : Keep (fun g => g = w.heap.size + 1 + 1) w4 (((w4.setCell ⟨w.heap.size + 1 + 1, 0, none⟩ (.slice a11 a12 a13)).setCell ⟨w.heap.size + 1 + 1, 1, none⟩ (.slice a14 a15 a16)).setCell ⟨w.heap.size + 1 + 1, 2, none⟩ (.slice a17 a18 a19)) := (((Keep.refl (fun g => g = w.heap.size + 1 + 1) w4).setCell (p := ⟨w.heap.size + 1 + 1, 0, none⟩) (.inl rfl) _).setCell (p := ⟨w.heap.size + 1 + 1, 1, none⟩) (.inl rfl) _).setCell (p := ⟨w.heap.size + 1 + 1, 2, none⟩) (.inl rfl) _; have hbe : Blk (((w4.setCell ⟨w.heap.size + 1 + 1, 0, none⟩ (.slice a11 a12 a13)).setCell ⟨w.heap.size + 1 + 1, 1, none⟩ (.slice a14 a15 a16)).setCell ⟨w.heap.size + 1 + 1, 2, none⟩ (.slice a17 a18 a19)) (w.heap.size + 1 + 1) #[(.slice a11 a12 a13), (.slice a14 a15 a16), (.slice a17 a18 a19)] 26 := ((kox.set_ 0 (.slice a11 a12 a13)).set_ 1 (.slice a14 a15 a16)).set_ 2 (.slice a17 a18 a19); obtain ⟨wF, hwF⟩ : ∃ wF, (((w4.setCell ⟨w.heap.size + 1 + 1, 0, none⟩ (.slice a11 a12 a13)).setCell ⟨w.heap.size + 1 + 1, 1, none⟩ (.slice a14 a15 a16)).setCell ⟨w.heap.size + 1 + 1, 2, none⟩ (.slice a17 a18 a19)) = wF := ⟨_, rfl⟩
     change Exit.then _ _ .normal _ (((w4.setCell ⟨w.heap.size + 1 + 1, 0, none⟩ (.slice a11 a12 a13)).setCell ⟨w.heap.size + 1 + 1, 1, none⟩ (.slice a14 a15 a16)).setCell ⟨w.heap.size + 1 + 1, 2, none⟩ (.slice a17 a18 a19))
     rw [hwF] at hke hk5 hbe ⊢; have e0 : wF.cell? ⟨w.heap.size + 1 + 1, 0, none⟩ = some (.slice a11 a12 a13) := hbe.cell 0; have e1 : wF.cell? ⟨w.heap.size + 1 + 1, 1, none⟩ = some (.slice a14 a15 a16) := hbe.cell 1; have e2 : wF.cell? ⟨w.heap.size + 1 + 1, 2, none⟩ = some (.slice a17 a18 a19) := hbe.cell 2; have j5F := hbe.lt; have hso : StOwn w.heap.size wF (.slice a11 a12 a13) (.slice a14 a15 a16) (.slice a17 a18 a19) S' := StOwn.keep HK.out.1.sr1 hke (fun g hg => by rw [hg]; exact ⟨_, 26, HK.out.1.o, by decide, by decide, by decide, by decide⟩); have hbF : Below w.heap.size w wF := HK.out.1.below.trans (hke.below HK.out.1.below.size (fun i hi hg => by omega)); have hoF : OwnP w.heap.size wF 61 2 (.slice (some ⟨gk, 0, none⟩) RR.length cap) (RR.map PKey.cells) := OwnP.mono (OwnP.keep ho4 hk5 (fun g hg hge => by
      rw [hge] at hg; exact ho4.ne_blk kox (by decide) hg rfl)) (by have := HK.out.1.below.size; omega)
     clear q0 q1 q2 p0 p1 p2 f0 f1 f2 ko q0x q1x q2x p0x p1x p2x f0x f1x f2x kox gd3; go_wp2_with fail; exact bodyPost_ret (v := .tuple #[.slice (some ⟨gk, 0, none⟩) RR.length cap, .agg #[(.slice a11 a12 a13), (.slice a14 a15 a16), (.slice a17 a18 a19)]]) (by simp [results, Tryz.results40, go_sem, e0, e1, e2, hR1]) rfl ⟨hbF, _, _, _, _, rfl, hoF, hso⟩
 · have hrc : (r.code != 0) = true := by simpa using hcode
   have hR0 : RR = [] := by rw [← HRR.out, pickK_bad hcode]
   clear K hGA hcode hok
   go_upto_region 4 with fail
   have hb2 := bel wA (wA.alloc (.cells #[.pointer (some ⟨w.heap.size, 0, none⟩), .pointer (some ⟨b6, 0, none⟩), .pointer (some ⟨w.heap.size + 1, 0, none⟩), .slice none 0 0] 106)); obtain ⟨w2, hw2⟩ : ∃ w2, wA.alloc (.cells #[.pointer (some ⟨w.heap.size, 0, none⟩), .pointer (some ⟨b6, 0, none⟩), .pointer (some ⟨w.heap.size + 1, 0, none⟩), .slice none 0 0] 106) = w2 := ⟨_, rfl⟩
   rw [hw2] at hb2 ⊢; clear hw2; have q0 : w2.cell? ⟨b6, 0, none⟩ = some (.slice a11 a12 a13) := (hb2.cell (p := ⟨b6, 0, none⟩) i6.lt).trans h0; have q1 : w2.cell? ⟨b6, 1, none⟩ = some (.slice a14 a15 a16) := (hb2.cell (p := ⟨b6, 1, none⟩) i6.lt).trans h1; have q2 : w2.cell? ⟨b6, 2, none⟩ = some (.slice a17 a18 a19) := (hb2.cell (p := ⟨b6, 2, none⟩) i6.lt).trans h2; have ko : Blk w2 (w.heap.size + 1 + 1) #[.slice none 0 0, .slice none 0 0, .slice none 0 0] 26 := HK.out.1.o.below hb2 i5.lt; have p0 : w2.cell? ⟨w.heap.size + 1 + 1, 0, none⟩ = some (.slice none 0 0) := ko.cell 0; have p1 : w2.cell? ⟨w.heap.size + 1 + 1, 1, none⟩ = some (.slice none 0 0) := ko.cell 1; have p2 : w2.cell? ⟨w.heap.size + 1 + 1, 2, none⟩ = some (.slice none 0 0) := ko.cell 2; have f0 := ko.frozen 0; have f1 := ko.frozen 1; have f2 := ko.frozen 2; have j6 : BlockLt b6 w2 := ⟨by have := i6.lt; have := hb2.size; omega⟩
   have j5 := ko.lt; refine wp_region_eff [2] true (fun w' => w'.cell? ⟨b6, 0, none⟩ = some (.slice a11 a12 a13) ∧ w'.cell? ⟨b6, 1, none⟩ = some (.slice a14 a15 a16) ∧ w'.cell? ⟨b6, 2, none⟩ = some (.slice a17 a18 a19)) (by kernel_rfl) (by kernel_rfl) ?_ ?_
   · (try dsimp only); (repeat' apply And.intro) <;> go_simp
   repeat
    refine wpL_look rfl rfl ?_; apply Exists.intro; refine ⟨?_, ?_⟩
    focus
     rintro w' ⟨s0, s1, s2⟩; go_simp
     first | done | rfl
    simp only [Act.put, sA, sZ, sS]
   refine wpL_skip rfl rfl ?_; apply Exists.intro; apply And.intro
   focus
    go_simp
    first | done | rfl
   apply And.intro
   focus
    exact .inr ⟨rfl, rfl⟩
   refine wpL_end ?_; have hke : Keep (fun g => g = w.heap.size + 1 + 1) wA ((((w2.drew).setCell ⟨w.heap.size + 1 + 1, 0, none⟩ (.slice a11 a12 a13)).setCell ⟨w.heap.size + 1 + 1, 1, none⟩ (.slice a14 a15 a16)).setCell ⟨w.heap.size + 1 + 1, 2, none⟩ (.slice a17 a18 a19)) := (((Keep.of_below hb2.drew (fun g => g = w.heap.size + 1 + 1)).setCell (p := ⟨w.heap.size + 1 + 1, 0, none⟩) (.inl rfl) _).setCell (p := ⟨w.heap.size + 1 + 1, 1, none⟩) (.inl rfl) _).setCell (p := ⟨w.heap.size + 1 + 1, 2, none⟩) (.inl rfl) _; have hbe : Blk ((((w2.drew).setCell ⟨w.heap.size + 1 + 1, 0, none⟩ (.slice a11 a12 a13)).setCell ⟨w.heap.size + 1 + 1, 1, none⟩ (.slice a14 a15 a16)).setCell ⟨w.heap.size + 1 + 1, 2, none⟩ (.slice a17 a18 a19)) (w.heap.size + 1 + 1) #[(.slice a11 a12 a13), (.slice a14 a15 a16), (.slice a17 a18 a19)] 26 := (((HK.out.1.o.below hb2.drew i5.lt).set_ 0 (.slice a11 a12 a13)).set_ 1 (.slice a14 a15 a16)).set_ 2 (.slice a17 a18 a19); obtain ⟨wF, hwF⟩ : ∃ wF, ((((w2.drew).setCell ⟨w.heap.size + 1 + 1, 0, none⟩ (.slice a11 a12 a13)).setCell ⟨w.heap.size + 1 + 1, 1, none⟩ (.slice a14 a15 a16)).setCell ⟨w.heap.size + 1 + 1, 2, none⟩ (.slice a17 a18 a19)) = wF := ⟨_, rfl⟩
   change Exit.then _ _ .normal _ (((w2.drew.setCell ⟨w.heap.size + 1 + 1, 0, none⟩ (.slice a11 a12 a13)).setCell ⟨w.heap.size + 1 + 1, 1, none⟩ (.slice a14 a15 a16)).setCell ⟨w.heap.size + 1 + 1, 2, none⟩ (.slice a17 a18 a19))
   rw [hwF] at hke hbe ⊢; have hfo := hke; have e0 : wF.cell? ⟨w.heap.size + 1 + 1, 0, none⟩ = some (.slice a11 a12 a13) := hbe.cell 0; have e1 : wF.cell? ⟨w.heap.size + 1 + 1, 1, none⟩ = some (.slice a14 a15 a16) := hbe.cell 1; have e2 : wF.cell? ⟨w.heap.size + 1 + 1, 2, none⟩ = some (.slice a17 a18 a19) := hbe.cell 2; have j5F := hbe.lt; have hso : StOwn w.heap.size wF (.slice a11 a12 a13) (.slice a14 a15 a16) (.slice a17 a18 a19) S' := StOwn.keep HK.out.1.sr1 hke (fun g hg => by rw [hg]; exact ⟨_, 26, HK.out.1.o, by decide, by decide, by decide, by decide⟩); have hbF : Below w.heap.size w wF := HK.out.1.below.trans (hke.below HK.out.1.below.size (fun i hi hg => by omega)); clear q0 q1 q2 p0 p1 p2 f0 f1 f2 ko; go_wp2_with fail; exact bodyPost_ret (v := .tuple #[.slice none 0 0, .agg #[(.slice a11 a12 a13), (.slice a14 a15 a16), (.slice a17 a18 a19)]]) (by simp [results, Tryz.results40, go_sem, e0, e1, e2]) rfl ⟨hbF, _, _, _, _, rfl, .inl ⟨rfl, by rw [hR0]; rfl⟩, hso⟩
end Go.Proofs.YtmkapobnfigedaaGreatDoor
