/- Part of the proof of a law of chapter 15. Conditions: none. -/
import Derived.Test.YtmkapobnfigedaaGreatDoorDp35
set_option linter.unusedVariables false
set_option linter.unusedSimpArgs false
set_option maxRecDepth 100000
set_option maxHeartbeats 8000000
namespace Go.Proofs.YtmkapobnfigedaaGreatDoor
open Go.RowKit
def thruU (S : PSt) (ns : List ByteArray) (q : Nat) : List PKey := (List.range q).map fun k => ⟨(findP S (printM (ns.take k)).1).1, ⟨#[46]⟩⟩
theorem thruU_succ (S : PSt) (ns : List ByteArray) (q : Nat) : thruU S ns (q + 1) = thruU S ns q ++ [⟨(findP S (printM (ns.take q)).1).1, ⟨#[46]⟩⟩] := by
 unfold thruU
 rw [List.range_succ, List.map_append]
 rfl
theorem thruU_len (S : PSt) (ns : List ByteArray) (q : Nat) : (thruU S ns q).length = q := by unfold thruU; simp
def numU (S : PSt) (ns : List ByteArray) (q : Nat) : Int := if q = 0 then 0 else (findP S (printM (ns.take (q - 1))).1).1
section
variable {w0 w w' w1 w2 : World} {S S' : PSt} {c : PCall} {bs bh bc : Nat} {ks : List PKey}
theorem walk111 (h : GAt w0 w S S' c bs bh bc ks) (hl : ks.length ≤ 100000) (hwf : S.wf) {p : ByteArray} (hpo : PathOk p) :
 Calls Tryz.prog 111 #[.pointer (some ⟨w0.heap.size, 0, none⟩), .string p] w fun e w' => e = .returned (.tuple #[.int .i64 (lastNum S (parseM p).2), .string ((parseM p).2.getLastD ⟨#[]⟩)]) ∧ GAt w0 w' S S' c bs bh bc (ks ++ walkK S p) ∧ Keep (InGa w) w w' := by
 obtain ⟨hp, hne⟩ := hpo
 have hpl := parse_len hp
 have hpar := fun ww => parse_own p ww
 rw [hp] at hpar
 unfold walkK thruK
 rw [show ((List.range (parseM p).2.length).map fun k => (⟨(findP S (printM ((parseM p).2.take k)).1).1, ⟨#[46]⟩⟩ : PKey)) = thruU S (parseM p).2 (parseM p).2.length from rfl]
 have hlast : lastNum S (parseM p).2 = numU S (parseM p).2 (parseM p).2.length := by
  unfold lastNum numU; rw [if_neg (by intro e; exact hne (List.eq_nil_of_length_eq_zero e))]
 rw [hlast]
 generalize (parseM p).2 = ns at *
 have hpos : 0 < ns.length := by
  rcases ns with _ | ⟨a, r⟩
  · exact absurd rfl hne
  · simp
 have hgd : ns[ns.length - 1]? = some (ns.getLastD ⟨#[]⟩) := by
  rw [List.getLastD_eq_getLast?, List.getLast?_eq_getElem?, gE (by omega)]; rfl
 have HG := Lib.hid h
 clear h hlast hp
 go_enter Tryz.func111, Tryz.ntmps111
 go_upto_region 2 with (go_at_call 153; refine (hpar _).mono ?_; rintro e w1 ⟨nv, rfl, hb1, hnm, hng⟩; obtain ⟨p1, rfl⟩ := hb1.rest; clear hb1)
 have HNM := Lib.hid hnm
 clear hnm hng hpar
 have hnm := HNM.out
 rcases hnm with ⟨rfl, h2⟩ | ⟨nb, cap, arr, he, -, hbk, hn, hcm, hsz, hrows⟩
 · exfalso; have := congrArg List.length h2; rw [lM, List.length_nil] at this; omega
 rw [lM] at he hn
 subst he
 refine abs_world (F := fun wA => GAt w0 wA S S' c bs bh bc ks ∧ Keep (InGa w) w wA ∧ Blk wA nb arr 9) ⟨HG.out.later (bel w _), keepGa_below (bel w _), hbk⟩ ?_
 clear hbk HNM
 rintro wA ⟨hGA, hkA, hbA⟩
 have HA := Lib.hid (And.intro hGA (And.intro hkA hbA))
 have HR := Lib.hid hrows
 clear hGA hkA hbA hrows
 go_wp2_with fail
 go_loopw [8, 19] (fun vn vi wr => ∃ q : Nat, vi = .int .i64 q ∧ vn = .int .i64 (numU S ns q) ∧ q ≤ ns.length ∧ GAt w0 wr S S' c bs bh bc (ks ++ thruU S ns q) ∧ Keep (InGa w) w wr ∧ Blk wr nb arr 9) (fun _ vi _ => (ns.length - intOf vi).toNat)
 case atStart => exact ⟨0, rfl, rfl, by omega, by simpa [thruU] using HA.out.1, HA.out.2.1, HA.out.2.2⟩
 case round =>
  obtain ⟨q, rfl, rfl, hq, hG, hk, hb⟩ := hrel; obtain ⟨hl0, iv, ov, mv, c0, c1, c2, hr⟩ := hG.sp.below hG.below (Nat.le_refl _); have ib : BlockLt bs wr := ⟨hl0⟩
  have o1 := hr.1.one; have o2 := hr.2.1.one; have o3 : iv.oneCell' = true := by obtain ⟨_, _, _, h3, _⟩ := hr; exact h3.one
  obtain ⟨out, hgb, -⟩ := hG.own; have iG := hgb.lt; have g0 : wr.cell? ⟨w0.heap.size, 0, none⟩ = some (.pointer (some ⟨bs, 0, none⟩)) := hgb.cell 0; have iN := hb.lt; by_cases hlt : q < ns.length
  · have hrow : RowAt wr 1 (.slice (some ⟨nb, 0, none⟩) q cap) ((ns.take q).map fun n => [.string n]) := by
     have hlq : (ns.take q).length = q := by rw [List.length_take]; omega
     refine OwnP.row (B := 0) (e := 9) (.inr ⟨nb, cap, arr, by rw [lM, hlq], Nat.zero_le _, hb, by rw [lM, hlq]; omega, hcm, hsz, fun q' cs hq' t u hu => ?_⟩); rw [gM, List.getElem?_take] at hq'
     split at hq'
     · exact HR.out q' cs (by rw [gM]; exact hq') t u hu
     · cases hq'
    have hpr := print154 (ns.take q) _ wr hrow (by rw [List.length_take]; omega); have hfi := fun (ww : World) (hb : Below wr.heap.size wr ww) => find152 iv ov mv S (printM (ns.take q)).1 ww (hr.below hb (Nat.le_refl _)) hwf
    have hadd := fun (ww : World) (hb : Below wr.heap.size wr ww) => add113 (hG.later hb) (by rw [lP, thruU_len]; omega) (findP S (printM (ns.take q)).1).1 ⟨#[46]⟩
    have hnx : numU S ns (q + 1) = (findP S (printM (ns.take q)).1).1 := by unfold numU; rw [if_neg (by omega)]; rfl
    have htx : ks ++ thruU S ns (q + 1) = ks ++ thruU S ns q ++ [⟨(findP S (printM (ns.take q)).1).1, ⟨#[46]⟩⟩] := by rw [thruU_succ, List.append_assoc]
    generalize printM (ns.take q) = PR at *; obtain ⟨ps, pe⟩ := PR; simp only at hpr hfi hadd hnx htx; generalize findP S ps = FR at *; obtain ⟨fn, fe⟩ := FR; simp only at hfi hadd hnx htx; have b1 : (q : Int) ≤ ns.length := by omega
    have b2 : (q : Int) ≤ cap := by omega
    have b3 : q ≤ cap := by omega
    have HK := Lib.hid (And.intro hk (And.intro hb (And.intro hnx htx))); clear hr hG hgb hk hb hrow hnx htx; go_wp2_with (first | (go_at_call 154; refine hpr.mono ?_; rintro e w1 ⟨rfl, hb⟩; obtain ⟨q1, rfl⟩ := hb.rest; clear hb) | (go_at_call 152; refine (hfi _ (bel _ _)).mono ?_; rintro e w1 ⟨rfl, hb⟩; obtain ⟨q2, rfl⟩ := hb.rest; clear hb) | (go_at_call 113; refine (hadd _ (bel _ _)).mono ?_; rintro e w2 ⟨rfl, hg, hk2⟩))
    go_roundw
    case rel => exact ⟨q + 1, by go_num, by rw [HK.out.2.2.1], by omega, by rw [HK.out.2.2.2]; exact hg, keepGa_trans (keepGa_trans HK.out.1 (keepGa_below (bel wr _))) hk2, hk2.blk (HK.out.2.1.below (bel wr _) iN.lt) (notInGa (HK.out.2.1.below (bel wr _) iN.lt) (by decide) (by decide))⟩
    case measure => simp [intOf]; omega
  · have hqe : q = ns.length := by omega
    subst hqe; have hcl : wr.cell? ⟨nb, ns.length - 1, none⟩ = some (.string (ns.getLastD ⟨#[]⟩)) := by
     rw [hb.cell]; have := HR.out (ns.length - 1) [.string (ns.getLastD ⟨#[]⟩)] (by rw [gM, hgd]; rfl) 0 _ rfl; rw [Nat.mul_one, Nat.add_zero] at this; exact this
    obtain ⟨m, hm⟩ : ∃ m, ns.length = m + 1 := ⟨ns.length - 1, by omega⟩
    have HF := Lib.hid (And.intro hG hk); generalize hNU : numU S ns ns.length = NU at *; generalize hLS : ns.getLastD ⟨#[]⟩ = lst at *; have HNU := Lib.hid (And.intro hNU hLS); clear hNU hLS; rw [hm, Nat.add_sub_cancel] at hcl; clear hr hG hgb hk hb c0 c1 c2; have ew : IntKind.i64.wrap ((ns.length : Int) - 1) = m := by rw [show (ns.length : Int) - 1 = m by omega]; exact I64.wrap (by unfold I64; omega)
    have b1 : (m : Int) < ns.length := by omega
    have HM := Lib.hid hm; clear hm hq hlt hgd; go_wp2_with fail; refine wp_region_quiet_rest (by kernel_rfl) (by kernel_rfl) ?_
    repeat
     first
      | go_big_quiet_skip
      | (go_big_quiet_want; go_big_quiet_op; first | go_big_quiet_on | (apply Exists.intro; refine ⟨fun _ => ?_, ?_⟩; (focus (fail)); go_big_quiet_on))
    refine QN fun p => ?_; go_wp2_with fail; exact bodyPost_ret (v := .tuple #[.int .i64 NU, .string lst]) (by simp [results, Tryz.results111, go_sem]) rfl ⟨by rw [HNU.out.1, HNU.out.2], HF.out.1.later (bel wr _), keepGa_trans HF.out.2 (keepGa_below (bel wr _))⟩
theorem bkt_itoa (n : ByteArray) : ∃ i : Nat, bucketM n = i ∧ i < 8 ∧ ((⟨#[47]⟩ : ByteArray) ++ ⟨(Lib.decDigits i).toArray⟩) = bktName n := by
 have h0 : 0 ≤ bucketM n ∧ bucketM n < 8 := by
  have hb : 0 ≤ hashM n ∧ hashM n < 4294967296 := hashFrom_lt n n.size 0 7 (by omega); unfold bucketM; omega
 obtain ⟨i, hi⟩ : ∃ i : Nat, bucketM n = i := ⟨(bucketM n).toNat, by omega⟩
 have hi8 : i < 8 := by omega
 refine ⟨i, hi, hi8, ?_⟩
 unfold bktName
 rw [hi, Int.toNat_natCast]
 have key : ∀ j : Nat, j < 8 → ((⟨#[47]⟩ : ByteArray) ++ ⟨(Lib.decDigits j).toArray⟩) = ⟨#[47, UInt8.ofNat (48 + j)]⟩ := by decide +kernel
 exact key i hi8
theorem entry109 (h : GAt w0 w S S' c bs bh bc ks) (hl : ks.length ≤ 100000) (hwf : S.wf) {p : ByteArray} (hpo : PathOk p) :
 Calls Tryz.prog 109 #[.pointer (some ⟨w0.heap.size, 0, none⟩), .string p] w (Gathers w0 w S S' c bs bh bc (ks ++ entryK S p)) := by
 have hwk := walk111 h hl hwf hpo
 have hwl : (walkK S p).length ≤ 1000 := by
  have := parse_len hpo.1; unfold walkK thruK; rw [lM, List.length_range]; omega
 have hent : ks ++ entryK S p = ks ++ walkK S p ++ [⟨lastNum S (parseM p).2, bktName ((parseM p).2.getLastD ⟨#[]⟩)⟩] := by unfold entryK; rw [List.append_assoc]
 rw [hent]
 generalize lastNum S (parseM p).2 = NU at *
 generalize (parseM p).2.getLastD ⟨#[]⟩ = lst at *
 generalize walkK S p = WK at *
 obtain ⟨i, hbi, hi8, hbn⟩ := bkt_itoa lst
 have hbk := fun ww => bucket137 lst ww
 rw [hbi] at hbk
 have hit := fun ww => Tryz.strconv_Itoa_small i (by omega) ww
 rw [← hbn]
 have hsz : ((⟨(Lib.decDigits i).toArray⟩ : ByteArray)).size ≤ 10 := by
  have key : ∀ j : Nat, j < 8 → ((⟨(Lib.decDigits j).toArray⟩ : ByteArray)).size ≤ 10 := by decide +kernel
  exact key i hi8
 generalize (⟨(Lib.decDigits i).toArray⟩ : ByteArray) = dig at *
 have n1 : ¬ 9223372036854775807 < 1 + dig.size := by omega
 clear hbn hbi hent h
 go_enter Tryz.func109, Tryz.ntmps109
 go_upto_region 1 with (go_at_call 111; refine hwk.mono ?_; rintro e w1 ⟨rfl, hg1, hk1⟩)
 have hadd := fun (ww : World) (hb : Below w1.heap.size w1 ww) => add113 (hg1.later hb) (by rw [lP]; omega) NU ((⟨#[47]⟩ : ByteArray) ++ dig)
 go_wp2_with (first | (go_at_call 133; refine (hbk _).mono ?_; rintro e w2 ⟨rfl, hb⟩; obtain ⟨q2, rfl⟩ := hb.rest; clear hb) | (go_at_call 151; refine (hit _).mono ?_; rintro e w2 ⟨rfl, rfl⟩) | (go_at_call 113; refine (hadd _ (bel _ _)).mono ?_; rintro e w3 ⟨rfl, hg, hk2⟩))
 exact bodyPost_end (v := .tuple #[]) (by simp [results, go_sem]) rfl ⟨rfl, hg, keepGa_trans (keepGa_trans hk1 (keepGa_below (bel w1 _))) hk2⟩
end
end Go.Proofs.YtmkapobnfigedaaGreatDoor
