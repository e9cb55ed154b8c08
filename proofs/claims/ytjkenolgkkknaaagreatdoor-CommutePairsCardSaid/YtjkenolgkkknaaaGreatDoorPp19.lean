/- Part of the proof that the named pairs of calls commute. Conditions: none. -/
import Derived.Test.YtjkenolgkkknaaaGreatDoorPp16
import Derived.Test.YtjkenolgkkknaaaGreatDoorPp18
set_option linter.unusedVariables false
set_option linter.unusedSimpArgs false
set_option maxRecDepth 100000
set_option maxHeartbeats 8000000
namespace Go.Proofs.YtjkenolgkkknaaaGreatDoor
open Go.RowKit
theorem run_create (B d b : Nat) (S : PSt) (c : PCall) (r : PRes) (w : World) (h : DoAt B w d b S c r) (hB : B ≤ w.heap.size) (hf : Fine S) (hs : Small S) (hk : c.kind = 0 ∨ c.kind = 1) (hp : (parseM c.path).1 = 0) (hpl : (parseM c.path).2.length ≤ 1000000000) (hc0 : 0 ≤ c.core) (hc1 : c.core < S.made.length) :
 Calls Tryz.prog 41 #[.pointer (some ⟨d, 0, none⟩)] w (RunOut B w d b c (createM S c r)) := by
 have ht := create71 B d b S c r w h hB hf hs hp hpl hc0 hc1
 obtain ⟨iD, d1⟩ := h.kind
 generalize hR : createM S c r = R at ht ⊢
 clear h hf hp hpl hR
 rcases hk with hk | hk <;> rw [hk] at d1 <;> rcases R with k | ⟨S', r'⟩
 all_goals (go_enter Tryz.func41, Tryz.ntmps41)
 · go_wp2_with (go_at_call 71; refine ht.mono ?_; rintro e w1 ⟨hb1, hr1⟩; obtain rfl : e = thrown k := hr1)
   exact ⟨rfl, hb1, rfl⟩
 · go_wp2_with (go_at_call 71; refine ht.mono ?_; rintro e w1 ⟨hb1, hr1⟩; have hr2 : e = .returned (.tuple #[]) ∧ DoAt B w1 d b S' c r' := hr1; clear hr1; obtain ⟨rfl, hd1⟩ := hr2; have HD := Lib.hid hd1; clear hd1)
   exact bodyPost_end (v := .tuple #[]) (by simp [results, go_sem]) rfl ⟨hb1, rfl, HD.out⟩
 · go_wp2_with (go_at_call 71; refine ht.mono ?_; rintro e w1 ⟨hb1, hr1⟩; obtain rfl : e = thrown k := hr1)
   exact ⟨rfl, hb1, rfl⟩
 · go_wp2_with (go_at_call 71; refine ht.mono ?_; rintro e w1 ⟨hb1, hr1⟩; have hr2 : e = .returned (.tuple #[]) ∧ DoAt B w1 d b S' c r' := hr1; clear hr1; obtain ⟨rfl, hd1⟩ := hr2; have HD := Lib.hid hd1; clear hd1)
   exact bodyPost_end (v := .tuple #[]) (by simp [results, go_sem]) rfl ⟨hb1, rfl, HD.out⟩
theorem mayc_may {S : PSt} {c : PCall} (h : maycM S c = true) : mayM S = true ∧ 0 ≤ c.core ∧ c.core < S.made.length := by
 unfold maycM at h
 simp only [Bool.and_eq_true, decide_eq_true_eq] at h
 exact ⟨h.2, h.1.1.2, h.1.2⟩
theorem did_of {S : PSt} {c : PCall} (R : Except Int (PSt × PRes)) {S' : PSt} {r' : PRes} (hwf : S.wf) (he : doM S c R = (S', r'))
 (hrun : maycM S c = true → ∀ B ww d b, DoAt B ww d b S c PRes.zero → B ≤ ww.heap.size → Calls Tryz.prog 41 #[.pointer (some ⟨d, 0, none⟩)] ww (RunOut B ww d b c R)) : Did S c S' r' := by
 intro w iv ov mv h
 have := do20 iv ov mv S c R w h hwf hrun
 rw [he] at this
 exact this
theorem did_stat {S : PSt} {c : PCall} {S' : PSt} {r' : PRes} (hwf : S.wf) (hk : c.kind = 13) (hp : (parseM c.path).1 = 0) (hpl : (parseM c.path).2.length ≤ 1000000000) (he : doM S c (statM S c PRes.zero) = (S', r')) : Did S c S' r' :=
 did_of _ hwf he fun hm B ww d b hd hB => run_stat B d b S c PRes.zero ww hd hB (fine_of_may hwf (mayc_may hm).1) hk hp hpl
theorem did_create {S : PSt} {c : PCall} {S' : PSt} {r' : PRes} (hwf : S.wf) (hs : Small S) (hk : c.kind = 0 ∨ c.kind = 1) (hp : (parseM c.path).1 = 0) (hpl : (parseM c.path).2.length ≤ 1000000000) (he : doM S c (createM S c PRes.zero) = (S', r')) : Did S c S' r' :=
 did_of _ hwf he fun hm B ww d b hd hB => run_create B d b S c PRes.zero ww hd hB (fine_of_may hwf (mayc_may hm).1) hs hk hp hpl (mayc_may hm).2.1 (mayc_may hm).2.2
instance (n : Int) : Decidable (I64 n) := by unfold I64; exact inferInstance
def smallIn (x : PIn) : Bool := decide (I64 x.num ∧ x.ents.length ≤ 100000 ∧ x.data.size ≤ 1000000) && x.ents.all fun e => decide (I64 e.num)
def goodB (S : PSt) : Bool := decide (S.ins.length ≤ 257) && decide (S.op.length ≤ 1000000000) && decide (S.made.length ≤ 8) && S.ins.all smallIn && (S.op.all fun d => decide (I64 d.core ∧ I64 d.fd ∧ I64 d.num)) && S.made.all fun m => decide (0 ≤ m ∧ m ≤ 32)
theorem good_wf {S : PSt} (h : goodB S = true) : S.wf ∧ Small S ∧ ∀ x ∈ S.ins, x.data.size ≤ 1000000 := by
 unfold goodB smallIn at h
 simp only [Bool.and_eq_true, decide_eq_true_eq, List.all_eq_true] at h
 obtain ⟨⟨⟨⟨⟨h1, h2⟩, h3⟩, h4⟩, h5⟩, h6⟩ := h
 refine ⟨⟨by omega, h2, by omega, fun x hx => ?_, fun d hd => h5 d hd, fun m hm => ?_⟩, ⟨h1, fun x hx => (h4 x hx).1.2.1, h3, fun m hm => h6 m hm⟩, fun x hx => (h4 x hx).1.2.2⟩
 · obtain ⟨⟨a1, a2, a3⟩, a4⟩ := h4 x hx; exact ⟨a1, by omega, fun e he => a4 e he⟩
 · have := h6 m hm; unfold I64; omega
theorem commute_one (iv ov mv : Value) {S S1 S2 S3 : PSt} {x y : PCall} {r t u v : PRes} (f : Nat) (w : World) (h : StRead w iv ov mv S) (hg : goodB S = true) (hyes : askedM S x y = true)
 (D1 : Did S x S1 r) (D2 : Did S1 y S2 t) (D3 : Did S y S3 u) (D4 : Did S3 x S2 v) (hr : r.names.length ≤ 1000000000) (ht : t.names.length ≤ 1000000000)
 (hg2 : goodB S2 = true) (hm2 : mayM S2 = true) (hok : wlkOk S2 f 1 = true) (hlen : (shapeT S2 f).length ≤ 1000000000000) (hp : Laid w.heap.size Pow10 w) :
 Calls Tryz.prog 9 #[.agg #[iv, ov, mv], x.val, y.val] w fun e w' => e = .returned (.bool (sameM r v && sameM t u)) ∧ Below w.heap.size w w' := by
 have := commute_yes iv ov mv S S1 S2 S3 S2 x y r t u v true w h (good_wf hg).1 hyes D1 D2 D3 D4 hr ht (fun _ _ ww iv ov mv iv' ov' mv' hb h1 h2 => same22 iv ov mv iv' ov' mv' S2 f ww h1 h2 (good_wf hg2).1 hm2 (good_wf hg2).2.2 hok hlen ((hp.below hb).up hb.size))
 simpa using this
theorem commute_diff (iv ov mv : Value) {S S1 S2 S3 S4 : PSt} {x y : PCall} {r t u v : PRes} (w : World) (h : StRead w iv ov mv S) (hg : goodB S = true) (hyes : askedM S x y = true)
 (D1 : Did S x S1 r) (D2 : Did S1 y S2 t) (D3 : Did S y S3 u) (D4 : Did S3 x S4 v) (hr : r.names.length ≤ 1000000000) (ht : t.names.length ≤ 1000000000) (hne : (sameM r v && sameM t u) = false) :
 Calls Tryz.prog 9 #[.agg #[iv, ov, mv], x.val, y.val] w fun e w' => e = .returned (.bool false) ∧ Below w.heap.size w w' := by
 have := commute_yes iv ov mv S S1 S2 S3 S4 x y r t u v false w h (good_wf hg).1 hyes D1 D2 D3 D4 hr ht (fun h1 h2 => by rw [h1, h2] at hne; cases hne)
 simpa using this
theorem index138 (zs : List PEnt) (v : Value) (l0 : Value) (p : PEnt → Bool) (w : World) (h : RowAt w 2 v (zs.map PEnt.cells)) (hlen : zs.length ≤ 1000000000)
 (hg : ∀ (z : PEnt) (ww : World), z ∈ zs → Below w.heap.size w ww → Calls Tryz.prog 139 #[.agg #[.string z.name, .int .i64 z.num], l0] ww fun e w' => e = .returned (.bool (p z)) ∧ Below ww.heap.size ww w') :
 Calls Tryz.prog 138 #[v, .func (.func 139) #[] #[l0]] w fun e w' => e = .returned (.int .i64 (idxM p zs)) ∧ Below w.heap.size w w' := by
 obtain ⟨a, cap, rfl, hat⟩ := h.at_
 rw [lM]
 have HA := Lib.hid hat
 clear hat h
 unfold idxM
 obtain ⟨R, hR⟩ : ∃ R, idxFrom p zs 0 = R := ⟨_, rfl⟩
 rw [hR]
 have HR := Lib.hid hR
 clear hR
 go_enter Tryz.func138, Tryz.ntmps138
 go_wp2_with fail
 go_loopw [8] (fun i wr => ∃ (q : Nat), i = .int .i64 q ∧ q ≤ zs.length ∧ idxFrom p (zs.drop q) q = R ∧ Below w.heap.size w wr) (fun i _ => (zs.length - intOf i).toNat)
 case atStart => exact ⟨0, rfl, by omega, HR.out, bel _ _⟩
 case round =>
  obtain ⟨q, rfl, hq, hre, hb⟩ := hrel; have iB : Bel w wr := ⟨hb⟩
  by_cases hlt : q < zs.length
  · obtain ⟨z, hz⟩ : ∃ z, zs[q]? = some z := ⟨_, gE hlt⟩
    obtain ⟨b, off, rfl, iG0, iG, hc⟩ := HA.out wr hb q (PEnt.cells z) (by rw [gM, hz]; rfl); have c0 := hc 0 _ rfl; have c1 := hc 1 _ rfl; rw [idxFrom_drop p zs q z hz] at hre; have hcall : ∀ ww, Below w.heap.size w ww → Calls Tryz.prog 139 #[.agg #[.string z.name, .int .i64 z.num], l0] ww fun e w' => e = .returned (.bool (p z)) ∧ Below ww.heap.size ww w' := fun ww hww => hg z ww (mG hz) hww
    have HZ := Lib.hid (And.intro hz hre); clear hc hz hre hg; rw [Nat.add_zero] at c0; generalize hpz : p z = t at hcall HZ; rcases t with _ | _
    · go_wp2_with (go_at_call 139; refine aT (hcall _ (bel _ _)) fun p => ?_)
      go_roundw
      case rel => exact ⟨q + 1, by go_num, by omega, by have := HZ.out.2; simpa using this, bel _ _⟩
      case measure => simp [intOf]; omega
    · have hv : R = q := by have := HZ.out.2; simpa using this.symm
      subst hv; go_wp2_with (go_at_call 139; refine aT (hcall _ (bel _ _)) fun p => ?_)
      exact bodyPost_ret (v := .int .i64 q) (by simp [results, Tryz.results138, go_sem]) rfl ⟨rfl, bel _ _⟩
  · rw [idxFrom_end p zs q hlt] at hre; subst hre; clear hg; go_wp2_with fail; exact bodyPost_ret (v := .int .i64 (-1)) (by simp [results, Tryz.results138, go_sem]) rfl ⟨rfl, bel _ _⟩
def isName (n : ByteArray) (e : PEnt) : Bool := e.name.toList == n.toList
theorem clo139 (e : PEnt) (bx : Nat) (n : ByteArray) (w : World) (ib : BlockLt bx w) (hx : w.cell? ⟨bx, 0, none⟩ = some (.string n)) :
 Calls Tryz.prog 139 #[.agg #[.string e.name, .int .i64 e.num], .pointer (some ⟨bx, 0, none⟩)] w fun r w' => r = .returned (.bool (isName n e)) ∧ Below w.heap.size w w' := by
 go_enter Tryz.func139, Tryz.ntmps139
 go_wp2_with fail
 go_ret
 exact ⟨by first | rfl | simp_all [isName], bel _ _⟩
def prCells (p : Int × Int) : List Value := [.int .i64 p.1, .int .i64 p.2]
def pairAt (p : Int × Int) : Value := .agg #[.int .i64 p.1, .int .i64 p.2]
def isPair (p q : Int × Int) : Bool := (p.1 == q.1) && (p.2 == q.2)
theorem index91 (zs : List (Int × Int)) (v : Value) (p : Int × Int) (w : World) (h : RowAt w 2 v (zs.map prCells)) (hlen : zs.length ≤ 1000000000) :
 Calls Tryz.prog 91 #[v, pairAt p] w fun e w' => e = .returned (.int .i64 (idxM (isPair p) zs)) ∧ Below w.heap.size w w' := by
 obtain ⟨a, cap, rfl, hat⟩ := h.at_
 rw [lM]
 have HA := Lib.hid hat
 clear hat h
 unfold idxM pairAt
 obtain ⟨R, hR⟩ : ∃ R, idxFrom (isPair p) zs 0 = R := ⟨_, rfl⟩
 rw [hR]
 have HR := Lib.hid hR
 clear hR
 obtain ⟨p1, p2⟩ := p
 simp only at *
 go_enter Tryz.func91, Tryz.ntmps91
 go_wp2_with fail
 go_loopw [8] (fun i wr => ∃ (q : Nat), i = .int .i64 q ∧ q ≤ zs.length ∧ idxFrom (isPair (p1, p2)) (zs.drop q) q = R ∧ Below w.heap.size w wr ∧ Blk wr w.heap.size #[.int .i64 p1, .int .i64 p2] 91) (fun i _ => (zs.length - intOf i).toNat)
 case atStart => exact ⟨0, rfl, by omega, HR.out, bel _ _, Blk.new _ _ _⟩
 case round =>
  obtain ⟨q, rfl, hq, hre, hb, hbk⟩ := hrel; have iB : Bel w wr := ⟨hb⟩
  have iK := hbk.lt; have k0 := hbk.cell 0; have k1 := hbk.cell 1; have HK := Lib.hid hbk; by_cases hlt : q < zs.length
  · obtain ⟨z, hz⟩ : ∃ z, zs[q]? = some z := ⟨_, gE hlt⟩
    obtain ⟨b, off, rfl, iG0, iG, hc⟩ := HA.out wr hb q (prCells z) (by rw [gM, hz]; rfl); have c0 := hc 0 _ rfl; have c1 := hc 1 _ rfl; rw [Nat.add_zero] at c0; rw [idxFrom_drop _ zs q z hz] at hre; rw [show isPair (p1, p2) z = ((p1 == z.1) && (p2 == z.2)) from rfl] at hre; obtain ⟨z1, z2⟩ := z; simp only at c0 c1 hre; clear hc hz hbk; generalize hb1 : (p1 == z1) = b1 at hre; generalize hb2 : (p2 == z2) = b2 at hre; rcases b1 with _ | _ <;> rcases b2 with _ | _
    · simp only [Bool.and_self, Bool.and_true, Bool.and_false, Bool.false_and, Bool.false_eq_true, if_false] at hre; have HR2 := Lib.hid hre; clear hre
      go_upto_region 4 with fail
      refine wp_region_quiet_rest (by kernel_rfl) (by kernel_rfl) ?_
      repeat
       first
        | go_big_quiet_skip
        | (go_big_quiet_want; go_big_quiet_op; first | go_big_quiet_on | (apply Exists.intro; refine ⟨fun _ => ?_, ?_⟩; (focus (fail)); go_big_quiet_on))
      refine wpQuiet_nil ?_; intro w1 hw1; obtain ⟨p, hw1⟩ := hw1; subst hw1; go_wp2_with fail
      go_roundw
      case rel => exact ⟨q + 1, by go_num, by omega, by have := HR2.out; simpa using this, bel _ _, (HK.out.drew.junk _)⟩
      case measure => simp [intOf]; omega
    · simp only [Bool.and_self, Bool.and_true, Bool.and_false, Bool.false_and, Bool.false_eq_true, if_false] at hre; have HR2 := Lib.hid hre; clear hre
      go_upto_region 4 with fail
      refine wp_region_quiet_rest (by kernel_rfl) (by kernel_rfl) ?_
      repeat
       first
        | go_big_quiet_skip
        | (go_big_quiet_want; go_big_quiet_op; first | go_big_quiet_on | (apply Exists.intro; refine ⟨fun _ => ?_, ?_⟩; (focus (fail)); go_big_quiet_on))
      refine wpQuiet_nil ?_; intro w1 hw1; obtain ⟨p, hw1⟩ := hw1; subst hw1; go_wp2_with fail
      go_roundw
      case rel => exact ⟨q + 1, by go_num, by omega, by have := HR2.out; simpa using this, bel _ _, (HK.out.drew.junk _)⟩
      case measure => simp [intOf]; omega
    · simp only [Bool.and_self, Bool.and_true, Bool.and_false, Bool.false_and, Bool.false_eq_true, if_false] at hre; have HR2 := Lib.hid hre; clear hre
      go_upto_region 4 with fail
      refine wp_region_quiet_rest (by kernel_rfl) (by kernel_rfl) ?_
      repeat
       first
        | go_big_quiet_skip
        | (go_big_quiet_want; go_big_quiet_op; first | go_big_quiet_on | (apply Exists.intro; refine ⟨fun _ => ?_, ?_⟩; (focus (fail)); go_big_quiet_on))
      refine wpQuiet_nil ?_; intro w1 hw1; obtain ⟨p, hw1⟩ := hw1; subst hw1; go_wp2_with fail
      go_roundw
      case rel => exact ⟨q + 1, by go_num, by omega, by have := HR2.out; simpa using this, bel _ _, (HK.out.drew.junk _)⟩
      case measure => simp [intOf]; omega
    · simp only [Bool.and_self, if_true] at hre; subst hre
      go_upto_region 4 with fail
      refine wp_region_quiet_rest (by kernel_rfl) (by kernel_rfl) ?_
      repeat
       first
        | go_big_quiet_skip
        | (go_big_quiet_want; go_big_quiet_op; first | go_big_quiet_on | (apply Exists.intro; refine ⟨fun _ => ?_, ?_⟩; (focus (fail)); go_big_quiet_on))
      refine wpQuiet_nil ?_; intro w1 hw1; obtain ⟨p, hw1⟩ := hw1; subst hw1; go_wp2_with fail; exact bodyPost_ret (v := .int .i64 q) (by simp [results, Tryz.results91, go_sem]) rfl ⟨rfl, bel _ _⟩
  · rw [idxFrom_end _ zs q hlt] at hre; subst hre; clear hbk; go_wp2_with fail; exact bodyPost_ret (v := .int .i64 (-1)) (by simp [results, Tryz.results91, go_sem]) rfl ⟨rfl, bel _ _⟩
theorem contains47 (zs : List (Int × Int)) (v : Value) (p : Int × Int) (w : World) (h : RowAt w 2 v (zs.map prCells)) (hlen : zs.length ≤ 1000000000) :
 Calls Tryz.prog 47 #[v, pairAt p] w fun e w' => e = .returned (.bool (zs.any (isPair p))) ∧ Below w.heap.size w w' := by
 have hi : ∀ ww, Below w.heap.size w ww → Calls Tryz.prog 91 #[v, .agg #[.int .i64 p.1, .int .i64 p.2]] ww _ := fun ww hb => index91 zs v p ww (h.below hb (Nat.le_refl _)) hlen
 have ho := h.one
 rw [← idxM_any]
 generalize idxM (isPair p) zs = R at hi ⊢
 unfold pairAt
 clear h
 go_enter Tryz.func47, Tryz.ntmps47
 go_wp2_with (go_at_call 91; refine aT (hi _ (bel _ _)) fun p => ?_)
 go_ret
 exact ⟨by first | rfl | simp, bel _ _⟩
def placeAt (bi off : Nat) (K : Int) : Value := if 0 ≤ K then .pointer (some ⟨bi, off + K.toNat * 4, none⟩) else .pointer none
theorem inode48 (k p : Nat) (S : PSt) (n : Int) (w : World) (iB : BlockLt k w) (hk0 : w.cell? ⟨k, 0, none⟩ = some (.pointer (some ⟨p, 0, none⟩))) (h : SP w p S) (hlen : S.ins.length ≤ 1000000000) (hpos : 0 < S.ins.length) :
 Calls Tryz.prog 48 #[.pointer (some ⟨k, 0, none⟩), .int .i64 n] w fun e w' => (∃ bi off cap, w.cell? ⟨p, 0, none⟩ = some (.slice (some ⟨bi, off, none⟩) S.ins.length cap) ∧ e = .returned (placeAt bi off (idxM (isNum n) S.ins))) ∧ Below w.heap.size w w' := by
 obtain ⟨hl, iv, ov, mv, c0, c1, c2, hr⟩ := h
 have iP : BlockLt p w := ⟨hl⟩
 obtain ⟨ai, capi, rfl, hati⟩ := hr.ins_at2
 obtain ⟨bi, off, ev, rfl, iG0, -⟩ := hati 0 S.ins[0] (gE hpos)
 have HI := Lib.hid hati
 have HC := Lib.hid c0
 clear hati hr c1 c2
 unfold idxM
 obtain ⟨R, hR⟩ : ∃ R, idxFrom (isNum n) S.ins 0 = R := ⟨_, rfl⟩
 rw [hR]
 have HR := Lib.hid hR
 clear hR
 go_enter Tryz.func48, Tryz.ntmps48
 go_wp2_with fail
 go_loopw [14] (fun i wr => ∃ (q : Nat), i = .int .i64 q ∧ q ≤ S.ins.length ∧ idxFrom (isNum n) (S.ins.drop q) q = R ∧ wr = w) (fun i _ => (S.ins.length - intOf i).toNat)
 case atStart => exact ⟨0, rfl, by omega, HR.out, by first | rfl | trivial⟩
 case round =>
  obtain ⟨q, rfl, hq, hre, rfl⟩ := hrel; by_cases hlt : q < S.ins.length
  · obtain ⟨x, hx⟩ : ∃ x, S.ins[q]? = some x := ⟨_, gE hlt⟩
    obtain ⟨bi', off', ev', he, -, -, -, hcl⟩ := HI.out q x hx; simp only [Option.some.injEq, Addr.mk.injEq, and_true] at he; obtain ⟨rfl, rfl⟩ := he; obtain ⟨-, y0, y1, y2, y3⟩ := hcl _ (Below.refl _ _); rw [idxFrom_drop _ S.ins q x hx] at hre; rw [show isNum n x = (x.num == n) from rfl] at hre; obtain ⟨xn, xd, xe, xdat⟩ := x; simp only at y0 hre; clear hcl hx y1 y2 y3; generalize hb1 : (xn == n) = b1 at hre; rcases b1 with _ | _
    · simp only [Bool.false_eq_true, if_false] at hre; have HR2 := Lib.hid hre; clear hre; go_wp2_with fail
      go_roundw
      case rel => exact ⟨q + 1, by go_num, by omega, by have := HR2.out; simpa using this, by first | rfl | trivial⟩
      case measure => simp [intOf]; omega
    · simp only [if_true] at hre; subst hre; go_wp2_with fail; exact bodyPost_ret (v := .pointer (some ⟨bi, off + q * 4, none⟩)) (by simp [results, Tryz.results48, go_sem]) rfl ⟨⟨_, _, _, HC.out, by unfold placeAt; rw [if_pos (by omega), Int.toNat_natCast]⟩, bel _ _⟩
  · rw [idxFrom_end _ S.ins q hlt] at hre; subst hre; go_wp2_with fail; go_ret; exact ⟨⟨_, _, _, HC.out, by unfold placeAt; rw [if_neg (by omega)]; rfl⟩, bel _ _⟩
structure VX where
 c : PCall
 fine : Bool
 tv : Value
 bytes : Int
 counts : Int
 gone : Int
def vwCells (p : Nat) (X : VX) (lv mv : Value) : Array Value :=
 #[.pointer (some ⟨p, 0, none⟩), .int .i64 X.c.kind, .int .i64 X.c.core, .int .i64 X.c.fd, .int .i64 X.c.off, .int .i64 X.c.num, .string X.c.path, .string X.c.path2, .string X.c.data, .bool X.fine, lv, X.tv, mv, .int .i64 X.bytes, .int .i64 X.counts, .int .i64 X.gone]
structure VwOwn (B : Nat) (w : World) (k p b3 : Nat) (c3 : Array Value) (X : VX) (L : List (Int × Int)) (M : List Int) (lv mv : Value) : Prop where
 hB : B ≤ k
 ex : Blk w b3 c3 91
 ne3 : lv.ownBlock ≠ some b3
 blk : Blk w k (vwCells p X lv mv) 62
 lo : w.ownsRow B 91 2 lv L.length (L.map prCells).flatten
 mo : w.ownsRow B 3 1 mv M.length (M.map (Value.int .i64))
theorem own_ne_own {w : World} {B B' : Nat} {e e' : TypeId} {s s' n n' : Nat} {v v' : Value} {xs xs' : List Value} (h : w.ownsRow B e s v n xs) (h' : w.ownsRow B' e' s' v' n' xs') (hne : e ≠ e') {g : Nat} (hg : v'.ownBlock = some g) : v.ownBlock ≠ some g := by
 rcases h'.2 with ⟨rfl, _⟩ | ⟨g', cap, cur, rfl, _, hh, _⟩
 · simp [Value.ownBlock] at hg
 · have : g' = g := by simpa [Value.ownBlock] using hg
   subst this; exact own_ne_blk h (c := cur) (t := e') hh hne
theorem VwOwn.keep {B : Nat} {w w' : World} {k p b3 : Nat} {c3 : Array Value} {X : VX} {L : List (Int × Int)} {M : List Int} {lv mv : Value} (h : VwOwn B w k p b3 c3 X L M lv mv) {S : Nat → Prop} (hk : Keep S w w') (h1 : ¬ S k) (h2 : ∀ g, lv.ownBlock = some g → ¬ S g) (h3 : ∀ g, mv.ownBlock = some g → ¬ S g) (h6 : ¬ S b3) : VwOwn B w' k p b3 c3 X L M lv mv :=
 ⟨h.hB, hk.blk h.ex h6, h.ne3, hk.blk h.blk h1, hk.own h.lo h2, hk.own h.mo h3⟩
theorem VwOwn.below {B : Nat} {w w' : World} {k p b3 : Nat} {c3 : Array Value} {X : VX} {L : List (Int × Int)} {M : List Int} {lv mv : Value} (h : VwOwn B w k p b3 c3 X L M lv mv) (hb : Below w.heap.size w w') : VwOwn B w' k p b3 c3 X L M lv mv :=
 h.keep (Keep.of_below hb (fun _ => False)) id (fun _ _ => id) (fun _ _ => id) id
structure VF (B k p b3 : Nat) (c3 : Array Value) (b4 : Nat) (X : VX) (nv : Value) (names : List ByteArray) (L : List (Int × Int)) (M : List Int) (last : Int × Int) (lv mv : Value) (w : World) : Prop where
 vw : VwOwn B w k p b3 c3 X L M lv mv
 n34 : b3 ≠ b4
 pr : Blk w b4 #[.int .i64 last.1, .int .i64 last.2] 91
 ge : B ≤ b4
 ne : lv.ownBlock ≠ some b4
 nm : w.ownsRow 0 9 1 nv names.length (names.map Value.string)
section
variable {B k p b3 b4 : Nat} {c3 : Array Value} {X : VX} {nv : Value} {names : List ByteArray} {L : List (Int × Int)} {M : List Int} {last : Int × Int} {lv mv : Value} {w w' w1 : World}
theorem VF.keep (h : VF B k p b3 c3 b4 X nv names L M last lv mv w) {S : Nat → Prop} (hk : Keep S w w') (h1 : ¬ S k) (h2 : ∀ g, lv.ownBlock = some g → ¬ S g) (h3 : ∀ g, mv.ownBlock = some g → ¬ S g) (h4 : ¬ S b4) (h5 : ∀ g, nv.ownBlock = some g → ¬ S g) (h6 : ¬ S b3) : VF B k p b3 c3 b4 X nv names L M last lv mv w' :=
 ⟨h.vw.keep hk h1 h2 h3 h6, h.n34, hk.blk h.pr h4, h.ge, h.ne, hk.own h.nm h5⟩
theorem VF.below (h : VF B k p b3 c3 b4 X nv names L M last lv mv w) (hb : Below w.heap.size w w') : VF B k p b3 c3 b4 X nv names L M last lv mv w' :=
 h.keep (Keep.of_below hb (fun _ => False)) id (fun _ _ => id) (fun _ _ => id) id (fun _ _ => id) id
def Turned (k : Nat) (v : Value) (b : Nat) : Prop := b = k ∨ v.ownBlock = some b
theorem keep_grown (hg : w.grownBy w1 lv.ownBlock) (k i : Nat) (x : Value) : Keep (Turned k lv) w (w1.setCell ⟨k, i, none⟩ x) :=
 Keep.setCell (S := Turned k lv) (p := ⟨k, i, none⟩) ((Keep.refl _ w).grown hg (fun g hg => .inl (.inr hg))) (.inl (.inl rfl)) _
theorem own_set {e : TypeId} {s n : Nat} {v : Value} {xs : List Value} {c : Array Value} (h : w.ownsRow B e s v n xs) (hb : Blk w k c 62) (hne : e ≠ 62) (i : Nat) (x : Value) : (w.setCell ⟨k, i, none⟩ x).ownsRow B e s v n xs :=
 Keep.own (S := fun b => b = k) (Keep.setCell (S := fun b => b = k) (p := ⟨k, i, none⟩) (Keep.refl _ w) (.inl rfl) _) h (fun g hg hgk => by
  have := own_ne_blk h hb hne; rw [hg, hgk] at this; exact this rfl)
theorem VF.looks (h : VF B k p b3 c3 b4 X nv names L M last lv mv w) {lv' : Value} {q : Int × Int} (hg : w.grownBy w1 lv.ownBlock) (hown : w1.ownsRow B 91 2 lv' (L.length + 1) ((L.map prCells).flatten ++ prCells q)) (hl : lv'.ownBlock = lv.ownBlock ∨ lv'.ownBlock = some w.heap.size) :
 VF B k p b3 c3 b4 X nv names (L ++ [q]) M last lv' mv (w1.setCell ⟨k, 10, none⟩ lv') := by
 have hkp := keep_grown (lv := lv) hg k 10 lv'
 have hnk := own_ne_blk h.vw.lo h.vw.blk (by decide)
 have hb4k : b4 ≠ k := h.pr.ne_ h.vw.blk (by decide)
 have hblk1 : Blk w1 k (vwCells p X lv mv) 62 := (hg.block k h.vw.blk.lt.lt (fun e => hnk e.symm)).trans h.vw.blk
 have hb3k : b3 ≠ k := h.vw.ex.ne_ h.vw.blk (by decide)
 refine ⟨⟨h.vw.hB, hkp.blk h.vw.ex ?_, ?_, ?_, ?_, ?_⟩, h.n34, hkp.blk h.pr ?_, h.ge, ?_, hkp.own h.nm ?_⟩
 · rintro (hT | hT)
   · exact hb3k hT
   · exact h.vw.ne3 hT
 · rcases hl with hl | hl
   · rw [hl]; exact h.vw.ne3
   · rw [hl]; intro e; have := h.vw.ex.lt.lt; simp only [Option.some.injEq] at e; omega
 · have := hblk1.set_ 10 lv'; simpa [vwCells] using this
 · have := own_set hown hblk1 (by decide) 10 lv'; simpa using this
 · refine hkp.own h.vw.mo (fun g hg hT => ?_); rcases hT with rfl | hT
   · exact own_ne_blk h.vw.mo h.vw.blk (by decide) hg
   · exact own_ne_own h.vw.lo h.vw.mo (by decide) hg hT
 · rintro (hT | hT)
   · exact hb4k hT
   · exact h.ne hT
 · rcases hl with hl | hl
   · rw [hl]; exact h.ne
   · rw [hl]; intro e; have := h.pr.lt.lt; simp only [Option.some.injEq] at e; omega
 · intro g hg hT; rcases hT with rfl | hT
   · exact own_ne_blk h.nm h.vw.blk (by decide) hg
   · exact own_ne_own h.vw.lo h.nm (by decide) hg hT
theorem VF.met (h : VF B k p b3 c3 b4 X nv names L M last lv mv w) {mv' : Value} {n : Int} (hg : w.grownBy w1 mv.ownBlock) (hown : w1.ownsRow B 3 1 mv' (M.length + 1) (M.map (Value.int .i64) ++ [.int .i64 n])) :
 VF B k p b3 c3 b4 X nv names L (M ++ [n]) last lv mv' (w1.setCell ⟨k, 12, none⟩ mv') := by
 have hkp := keep_grown (lv := mv) hg k 12 mv'
 have hnk := own_ne_blk h.vw.mo h.vw.blk (by decide)
 have hb4k : b4 ≠ k := h.pr.ne_ h.vw.blk (by decide)
 have hblk1 : Blk w1 k (vwCells p X lv mv) 62 := (hg.block k h.vw.blk.lt.lt (fun e => hnk e.symm)).trans h.vw.blk
 have hb3k : b3 ≠ k := h.vw.ex.ne_ h.vw.blk (by decide)
 refine ⟨⟨h.vw.hB, hkp.blk h.vw.ex ?_, h.vw.ne3, ?_, ?_, ?_⟩, h.n34, hkp.blk h.pr ?_, h.ge, h.ne, hkp.own h.nm ?_⟩
 · rintro (hT | hT)
   · exact hb3k hT
   · exact own_ne_blk h.vw.mo h.vw.ex (by decide) hT
 · have := hblk1.set_ 12 mv'; simpa [vwCells] using this
 · refine hkp.own h.vw.lo (fun g hg hT => ?_); rcases hT with rfl | hT
   · exact own_ne_blk h.vw.lo h.vw.blk (by decide) hg
   · exact own_ne_own h.vw.mo h.vw.lo (by decide) hg hT
 · have := own_set hown hblk1 (by decide) 12 mv'; simpa using this
 · rintro (hT | hT)
   · exact hb4k hT
   · exact own_ne_blk h.vw.mo h.pr (by decide) hT
 · intro g hg hT; rcases hT with rfl | hT
   · exact own_ne_blk h.nm h.vw.blk (by decide) hg
   · exact own_ne_own h.vw.mo h.nm (by decide) hg hT
theorem VF.lastSet (h : VF B k p b3 c3 b4 X nv names L M last lv mv w) (q : Int × Int) :
 VF B k p b3 c3 b4 X nv names L M q lv mv ((w.setCell ⟨b4, 0, none⟩ (.int .i64 q.1)).setCell ⟨b4, 1, none⟩ (.int .i64 q.2)) := by
 have hkp : Keep (fun b => b = b4) w ((w.setCell ⟨b4, 0, none⟩ (.int .i64 q.1)).setCell ⟨b4, 1, none⟩ (.int .i64 q.2)) :=
  Keep.setCell (S := fun b => b = b4) (p := ⟨b4, 1, none⟩) (Keep.setCell (S := fun b => b = b4) (p := ⟨b4, 0, none⟩) (Keep.refl _ w) (.inl rfl) _) (.inl rfl) _
 have hb4k : b4 ≠ k := h.pr.ne_ h.vw.blk (by decide)
 refine ⟨h.vw.keep hkp (fun e => hb4k e.symm) (fun g hg e => h.ne (by rw [hg, e])) (fun g hg e => ?_) h.n34, h.n34, ?_, h.ge, h.ne, hkp.own h.nm (fun g hg e => ?_)⟩
 · subst e; exact own_ne_blk h.vw.mo h.pr (by decide) hg
 · have := (h.pr.set_ 0 (.int .i64 q.1)).set_ 1 (.int .i64 q.2); simpa using this
 · subst e; exact own_ne_blk h.nm h.pr (by decide) hg
end
theorem turned_below {B k i : Nat} {v x : Value} {w w1 : World} (hg : w.grownBy w1 v.ownBlock) (hB : B ≤ w.heap.size) (hk : B ≤ k) (hv : ∀ g, v.ownBlock = some g → B ≤ g) : Below B w (w1.setCell ⟨k, i, none⟩ x) :=
 (keep_grown (lv := v) hg k i x).below hB (fun b hb hT => by
  rcases hT with rfl | hT
  · omega
  · have := hv b hT; omega)
structure VRes where
 last : Int × Int
 num : Int
 L : List (Int × Int)
 M : List Int
def vwalkF (S : PSt) : List ByteArray → (Int × Int) → Int → List (Int × Int) → List Int → VRes
 | [], last, num, L, M => ⟨last, num, L, M⟩
 | n :: r, last, num, L, M => match S.ins[(idxM (isNum num) S.ins).toNat]? with
   | none => ⟨(0, 0), 0, L, M⟩
   | some x => if x.dir = false then ⟨(0, 0), 0, L, M⟩ else
     if idxM (isName n) x.ents < 0 then ⟨if r.isEmpty = true then (num, bucketM n) else last, 0, L ++ [(num, bucketM n)], M⟩ else
     match x.ents[(idxM (isName n) x.ents).toNat]? with
     | none => ⟨(0, 0), 0, L, M⟩
     | some e => vwalkF S r (if r.isEmpty = true then (num, bucketM n) else last) e.num (L ++ [(num, bucketM n)]) (M ++ [e.num])
def linkedB (S : PSt) : Bool := decide (0 ≤ idxM (isNum 1) S.ins) && S.ins.all fun x => x.ents.all fun e => decide (0 ≤ idxM (isNum e.num) S.ins)
theorem abs_world {F : World → Prop} {c : Code} {Q : Exit → Act → World → Prop} {a : Act} {w : World} (hF : F w) (h : ∀ w, F w → c.wp Tryz.prog Q a w) : c.wp Tryz.prog Q a w := h w hF
theorem VwOwn.grown_blk {B : Nat} {w w1 : World} {k p b3 : Nat} {c3 : Array Value} {X : VX} {L : List (Int × Int)} {M : List Int} {lv mv v : Value} (h : VwOwn B w k p b3 c3 X L M lv mv) (hg : w.grownBy w1 v.ownBlock) (hv : v.ownBlock ≠ some k) : Blk w1 k (vwCells p X lv mv) 62 :=
 (hg.block k h.blk.lt.lt (fun e => hv e.symm)).trans h.blk
theorem names_flat (names : List ByteArray) : (names.map fun n => [Value.string n]).flatten = names.map Value.string := by
 induction names with
 | nil => rfl
 | cons a r ih =>
   simp only [List.map_cons, List.flatten_cons, ih]; rfl
theorem names_at {nv : Value} {names : List ByteArray} {w : World} (h : w.ownsRow 0 9 1 nv names.length (names.map Value.string)) : RowAt w 1 nv (names.map fun n => [.string n]) := by
 have h2 : w.ownsRow 0 9 1 nv (names.map fun n => [Value.string n]).length (names.map fun n => [Value.string n]).flatten := by
  rw [lM, names_flat]; exact h
 exact (OwnP.of_own h2 (by decide) (fun cs hc => by
  obtain ⟨n, _, rfl⟩ := List.mem_map.1 hc; rfl)).row
theorem info91 : (Tryz.prog.info? 91).map (fun i => (i.zero, i.size, i.bytes)) = some (some (.agg #[.int .i64 0, .int .i64 0]), 2, 16) := by kernel_rfl
theorem walk89 (B k p b3 : Nat) (c3 : Array Value) (S : PSt) (X : VX) (L : List (Int × Int)) (M : List Int) (path : ByteArray) (lv mv : Value) (w : World) (h : VwOwn B w k p b3 c3 X L M lv mv) (hL : Laid B (fun w => SP w p S) w) (hBw : B ≤ w.heap.size) (hwf : S.wf) (hlk : linkedB S = true) (hp : (parseM path).1 = 0) (hnl : (parseM path).2.length ≤ 1000000000) (hLl : L.length ≤ 1000000000) (hMl : M.length ≤ 1000000000) :
 Calls Tryz.prog 89 #[.pointer (some ⟨k, 0, none⟩), .string path] w fun e w' => let R := vwalkF S (parseM path).2 (0, 0) 1 L (M ++ [1])
  e = .returned (.tuple #[pairAt R.last, .int .i64 R.num]) ∧ (∃ lv' mv', VwOwn B w' k p b3 c3 X R.L R.M lv' mv') ∧ Below B w w' := by
 obtain ⟨i3, hi3, h30, h31, h32⟩ := info_parts info3
 obtain ⟨i9x, hi9, h90, h91, h92⟩ := info_parts info91
 have hpar := fun ww => parse136 path ww
 obtain ⟨w0, hsp, hB0, hb0⟩ := hL
 obtain ⟨hl0, iv, ov, mv0, c0, c1, c2, hr⟩ := hsp
 obtain ⟨ai, capi, rfl, hati⟩ := hr.ins_at2
 rw [show parseM path = ((parseM path).1, (parseM path).2) from rfl, hp] at hpar
 generalize hnames : (parseM path).2 = names at hpar hnl ⊢
 simp only
 unfold linkedB at hlk
 simp only [Bool.and_eq_true, decide_eq_true_eq, List.all_eq_true] at hlk
 generalize hRR : vwalkF S names (0, 0) 1 L (M ++ [1]) = RR
 have HR := Lib.hid hRR
 have iK := h.blk.lt
 have hSP0 : SP w0 p S := ⟨hl0, _, ov, mv0, c0, c1, c2, hr⟩
 have hino : ∀ ww n, Below B w ww → ww.cell? ⟨k, 0, none⟩ = some (.pointer (some ⟨p, 0, none⟩)) → BlockLt k ww → (0 ≤ idxM (isNum n) S.ins) → ∃ bi off, ai = some ⟨bi, off, none⟩ ∧ Calls Tryz.prog 48 #[.pointer (some ⟨k, 0, none⟩), .int .i64 n] ww fun e w' => e = .returned (.pointer (some ⟨bi, off + (idxM (isNum n) S.ins).toNat * 4, none⟩)) ∧ Below ww.heap.size ww w' := fun ww n hb hk0 ik hn => by
  have hbb : Below w0.heap.size w0 ww := hb0.trans (hb.mono hB0); have hib := idxM_bounds (isNum n) S.ins; have hpos : 0 < S.ins.length := by omega
  obtain ⟨bi, off, ev, rfl, _⟩ := hati 0 S.ins[0] (gE hpos); refine ⟨bi, off, rfl, (inode48 k p S n ww ik hk0 (hSP0.below hbb (Nat.le_refl _)) hwf.1 hpos).mono ?_⟩; rintro e w' ⟨⟨bi', off', cap', h1, rfl⟩, h2⟩; have h3 := (hbb.cell (p := ⟨p, 0, none⟩) hl0).trans c0; rw [h3] at h1; simp only [Option.some.injEq, Value.slice.injEq, Addr.mk.injEq] at h1; obtain ⟨⟨rfl, rfl, -⟩, -, rfl⟩ := h1; exact ⟨by unfold placeAt; rw [if_pos hn], h2⟩
 have hre : ∀ wr, Below B w wr → Below w0.heap.size w0 wr := fun wr h => hb0.trans (h.mono hB0)
 have iBB : ∀ ww, Below w.heap.size w ww → Below B w ww := fun ww h => h.mono hBw
 have HI := Lib.hid (And.intro hati (And.intro hlk (And.intro hwf (And.intro hLl hMl))))
 have HV := Lib.hid h
 clear hati hr c0 c1 c2 hSP0 hwf hlk hRR hLl hMl h hp
 go_enter Tryz.func89, Tryz.ntmps89
 go_upto_region 5 with (go_at_call 136; refine (hpar _).mono ?_; rintro e w1 ⟨nv, rfl, hb1, hnm, hng⟩; obtain ⟨p1, rfl⟩ := hb1.rest; clear hb1; obtain ⟨an, cn, rfl⟩ := own_form hnm)
 have hV0 : VF B k p b3 c3 w.heap.size X (.slice an names.length cn) names L M (0, 0) lv mv ((w.alloc (Obj.cells #[.int .i64 0, .int .i64 0] 91)).junk p1) := by
  refine ⟨(HV.out.below (bel w _)), (by have := HV.out.ex.lt.lt; omega), (Blk.new _ _ _).junk _, hBw, ?_, hnm⟩; intro e; have := HV.out.lo; rcases this.2 with ⟨rfl, _⟩ | ⟨g, cap, cur, rfl, _, hh, _⟩
  · simp [Value.ownBlock] at e
  · have e2 : g = w.heap.size := by simpa [Value.ownBlock] using e
    have := (Array.getElem?_eq_some_iff.1 hh).1; omega
 refine abs_world (F := fun wA => VF B k p b3 c3 w.heap.size X (.slice an names.length cn) names L M (0, 0) lv mv wA ∧ Below B w wA) ⟨hV0, iBB _ (bel w _)⟩ ?_
 clear hnm hng hV0
 rintro wA ⟨hVA, hbA⟩
 have hmo := hVA.vw.mo
 have iKA := hVA.vw.blk.lt
 have m12 : wA.cell? ⟨k, 12, none⟩ = some mv := hVA.vw.blk.cell 12
 have hBA : B ≤ wA.heap.size := Nat.le_trans hBw hbA.size
 have hMl := HI.out.2.2.2.2
 have fm : wA.frozen? ⟨k, 12, none⟩ = false := hVA.vw.blk.frozen 12
 have HA := Lib.hid (And.intro hVA hbA)
 clear hVA hbA
 go_wp2_with (at_builtin; refine wpList_append_own _ rfl _ _ 25 rfl B 3 i3 (.int .i64 0) 1 8 Tryz.underlying25 hi3 h30 h31 h32 rfl (by decide) _ _ _ rfl (hmo.alloc _) ⟨wA.heap.size, 0, none⟩ 1 1 [.int .i64 1] rfl rfl ?c1 ?c2 ?c3 ?c4 ?c5 ?_)
 case c1 =>
  intro j u hj
  match j, hj with
  | 0, hj => simp at hj; subst hj; simp [Addr.add]
 case c2 => intro u hu; simp at hu; subst hu; rfl
 case c3 => unfold maxLen; omega
 case c4 => omega
 case c5 => simp; omega
 intro mv1 w2 hown' hgrow _
 have hVA1 := HA.out.1.below (bel wA (wA.alloc (Obj.cells #[.int .i64 1] 3)))
 have hV1 := hVA1.met hgrow hown'
 have hb1 : Below B w (w2.setCell ⟨k, 12, none⟩ mv1) := HA.out.2.trans (((bel wA (wA.alloc (Obj.cells #[.int .i64 1] 3))).mono hBA).trans (turned_below hgrow (by simp; omega) HV.out.hB (fun g hg => (hVA1.vw.mo.lt g hg).1)))
 have hbk2 := hVA1.vw.grown_blk hgrow (own_ne_blk hVA1.vw.mo hVA1.vw.blk (by decide))
 have hfz2 : w2.frozen? ⟨k, 12, none⟩ = false := hbk2.frozen 12
 have hcl2 : w2.cell? ⟨k, 12, none⟩ = some mv := hbk2.cell 12
 have iK2 : BlockLt k w2 := hbk2.lt
 obtain ⟨am1, cm1, rfl⟩ := own_form hown'
 have HA1 := Lib.hid (And.intro hV1 hb1)
 clear hV1 hb1 hVA1 hgrow hown' m12 fm hmo hbk2
 go_upto_region 6 with fail
 refine abs_world (F := fun wA => (∃ mv1, VF B k p b3 c3 w.heap.size X (.slice an names.length cn) names L (M ++ [1]) (0, 0) lv mv1 wA) ∧ Below B w wA) ⟨⟨_, HA1.out.1⟩, HA1.out.2⟩ ?_
 clear hfz2 hcl2 iK2 HA HA1
 rintro wA ⟨⟨mv1, hVA⟩, hbA⟩
 have HA := Lib.hid (And.intro hVA hbA)
 clear hVA hbA
 go_wp2_with fail
 go_loopw [5, 33] (fun vn vi wr => ∃ (q : Nat) (num : Int) (last : Int × Int) (L' : List (Int × Int)) (M' : List Int) (lv' mv' : Value), vi = .int .i64 q ∧ vn = .int .i64 num ∧ q ≤ names.length ∧ vwalkF S (names.drop q) last num L' M' = RR ∧ L'.length ≤ L.length + q ∧ M'.length ≤ M.length + 1 + q ∧ 0 ≤ idxM (isNum num) S.ins ∧ I64 num ∧ VF B k p b3 c3 w.heap.size X (.slice an names.length cn) names L' M' last lv' mv' wr ∧ Below B w wr) (fun _ vi _ => (names.length - intOf vi).toNat)
 case atStart => exact ⟨0, 1, (0, 0), L, M ++ [1], _, _, rfl, rfl, by omega, HR.out, by omega, by simp, HI.out.2.1.1, by unfold I64; omega, HA.out.1, HA.out.2⟩
 case round =>
  obtain ⟨q, num, last, L', M', lv', mv', rfl, rfl, hq, hre1, hL1, hM1, hix, hn64, hV, hbr⟩ := hrel; have hBr : B ≤ wr.heap.size := Nat.le_trans hBw hbr.size; by_cases hlt : q < names.length
  · obtain ⟨n, hn⟩ : ∃ n, names[q]? = some n := ⟨_, gE hlt⟩
    obtain ⟨a, cap, he, hat⟩ := (names_at hV.nm).at_; simp only [lM, Value.slice.injEq] at he; obtain ⟨rfl, -, rfl⟩ := he; obtain ⟨bn, on, rfl, iN, -, hcn⟩ := hat wr (Below.refl _ _) q [.string n] (by rw [gM, hn]; rfl); have n0 := hcn 0 _ rfl; rw [Nat.mul_one, Nat.add_zero] at n0; have iKr := hV.vw.blk.lt; have k0 : wr.cell? ⟨k, 0, none⟩ = some (.pointer (some ⟨p, 0, none⟩)) := hV.vw.blk.cell 0; have hwfn := HI.out.2.2.1; obtain ⟨K, hK⟩ : ∃ K : Nat, idxM (isNum num) S.ins = K := ⟨(idxM (isNum num) S.ins).toNat, by omega⟩
    have hib := idxM_bounds (isNum num) S.ins; obtain ⟨x, hx⟩ : ∃ x, S.ins[K]? = some x := ⟨_, gE (by omega)⟩
    have hxm := mG hx; obtain ⟨bi, off, ev, hai, iG0, ho1, hev, hcl⟩ := HI.out.1 K x hx; subst hai; have hcall : ∀ ww, Below wr.heap.size wr ww → Calls Tryz.prog 48 #[.pointer (some ⟨k, 0, none⟩), .int .i64 num] ww fun e w' => e = .returned (.pointer (some ⟨bi, off + K * 4, none⟩)) ∧ Below ww.heap.size ww w' := fun ww hb => by
     obtain ⟨bi', off', he, hc⟩ := hino ww num (hbr.trans (hb.mono hBr)) ((hb.cell (p := ⟨k, 0, none⟩) iKr.lt).trans k0) ⟨by have := iKr.lt; have := hb.size; omega⟩ hix; simp only [Option.some.injEq, Addr.mk.injEq, and_true] at he; obtain ⟨rfl, rfl⟩ := he; rw [hK, Int.toNat_natCast] at hc; exact hc
    obtain ⟨iG, y0, y1, y2, y3⟩ := hcl wr (hre wr hbr); rw [drop_at hn] at hre1; unfold vwalkF at hre1; rw [hK, Int.toNat_natCast, hx] at hre1; simp only at hre1; have hxl := hwfn.2.2.2.1 x hxm; have hlx := HI.out.2.1.2 x hxm; have hevR : ∀ wr, Below B w wr → RowAt wr 2 ev (x.ents.map PEnt.cells) := fun wr h => hev.below (hre wr h) (Nat.le_refl _)
    obtain ⟨ae, ce, rfl, hate⟩ := hev.at_; rw [lM] at y2; obtain ⟨xn, xd, xe, xdat⟩ := x; simp only at hre1 y0 y1 y2 y3 hxl hlx hate; have HX := Lib.hid (And.intro hre1 (And.intro hcl (And.intro hate (And.intro hV hbr)))); clear hre1 hcl hate hV hx hxm hwfn hcn hat hn; rcases xd with _ | _
    · go_upto_region 11 with (go_at_call 48; refine aT (hcall _ (bel wr _)) fun pj => ?_)
      have hR1 : (⟨(0, 0), 0, L', M'⟩ : VRes) = RR := by have := HX.out.1; simpa using this
      refine abs_world (F := fun wB => VF B k p b3 c3 w.heap.size X (.slice (some ⟨bn, on, none⟩) names.length cn) names L' M' last lv' mv' wB ∧ Below B w wB) ⟨HX.out.2.2.2.1.below (bel wr _), HX.out.2.2.2.2.trans ((bel wr _).mono hBr)⟩ ?_; clear hcall; rintro wB ⟨hVB, hbB⟩; have p0 : wB.cell? ⟨w.heap.size, 0, none⟩ = some (.int .i64 last.1) := hVB.pr.cell 0; have p1 : wB.cell? ⟨w.heap.size, 1, none⟩ = some (.int .i64 last.2) := hVB.pr.cell 1; have fp0 : wB.frozen? ⟨w.heap.size, 0, none⟩ = false := hVB.pr.frozen 0; have fp1 : wB.frozen? ⟨w.heap.size, 1, none⟩ = false := hVB.pr.frozen 1; have iB4 := hVB.pr.lt; have hV2 := hVB.lastSet (0, 0); have hb2 : Below B w ((wB.setCell ⟨w.heap.size, 0, none⟩ (.int .i64 0)).setCell ⟨w.heap.size, 1, none⟩ (.int .i64 0)) := (hbB.setCell (p := ⟨w.heap.size, 0, none⟩) hBw _).setCell (p := ⟨w.heap.size, 1, none⟩) hBw _; have HB := Lib.hid (And.intro hV2 (And.intro hb2 hR1)); clear hVB hbB hV2 hb2 hR1; go_wp2_with fail; refine bodyPost_ret (v := .tuple #[pairAt (0, 0), .int .i64 0]) (by unfold results pairAt; simp only [Tryz.results89]; go_simp) rfl ⟨by rw [← HB.out.2.2], ⟨lv', mv', by rw [← HB.out.2.2]; exact HB.out.1.vw⟩, HB.out.2.1⟩
    · go_upto_region 13 with (first | (go_at_call 48; refine aT (hcall _ (bel wr _)) fun pj => ?_) | (go_at_call 137; refine aT (bucket137 n _) fun pk => ?_))
      have hlx2 := HI.out.2.2.2.1; refine abs_world (F := fun wB => (VF B k p b3 c3 w.heap.size X (.slice (some ⟨bn, on, none⟩) names.length cn) names L' M' last lv' mv' wB ∧ Below B w wB) ∧ Blk wB wr.heap.size #[.string n] 9 ∧ Blk wB (wr.heap.size + 1 + (pj.more pk).len) #[.int .i64 num, .int .i64 (bucketM n)] 91 ∧ lv'.ownBlock ≠ some (wr.heap.size + 1 + (pj.more pk).len)) ⟨⟨HX.out.2.2.2.1.below (bel wr _), HX.out.2.2.2.2.trans ((bel wr _).mono hBr)⟩, ?_, Blk.new_i _ _ _ _, ?_⟩ ?_
      · exact (((Blk.new wr _ 9).junk _).alloc _)
      · intro e; have := HX.out.2.2.2.1.vw.lo.lt _ e; omega
      clear hcall; rintro wB ⟨⟨hVB, hbB⟩, h9, h11, hne11⟩; have v10 : wB.cell? ⟨k, 10, none⟩ = some lv' := hVB.vw.blk.cell 10; have q0 : wB.cell? ⟨(wr.heap.size + 1 + (pj.more pk).len), 0, none⟩ = some (.int .i64 num) := h11.cell 0; have q1 : wB.cell? ⟨(wr.heap.size + 1 + (pj.more pk).len), 1, none⟩ = some (.int .i64 (bucketM n)) := h11.cell 1; have iKB := hVB.vw.blk.lt; have i11 := h11.lt; have i9 := h9.lt; have hBB : B ≤ wB.heap.size := Nat.le_trans hBw hbB.size; have hlvo := hVB.vw.lo; obtain ⟨al, cl, rfl⟩ := own_form hlvo; have HB := Lib.hid (And.intro hVB (And.intro hbB (And.intro h9 (And.intro h11 hne11)))); have HLO := Lib.hid hlvo; clear hVB hbB h9 h11 hne11 hlvo; refine wp_region_eff [6, 7, 10] true (fun w' => w'.cell? ⟨k, 10, none⟩ = some (.slice al L'.length cl) ∧ w'.cell? ⟨(wr.heap.size + 1 + (pj.more pk).len), 0, none⟩ = some (.int .i64 num) ∧ w'.cell? ⟨(wr.heap.size + 1 + (pj.more pk).len), 1, none⟩ = some (.int .i64 (bucketM n))) (by kernel_rfl) (by kernel_rfl) ?_ ?_
      · (try dsimp only); (repeat' apply And.intro) <;> go_simp
      repeat
       refine wpL_look rfl rfl ?_; apply Exists.intro; refine ⟨?_, ?_⟩
       focus
        rintro w' ⟨s0, s1, s2⟩; go_simp
        first | done | rfl
       simp only [Act.put, sA, sZ, sS]
      refine wpL_do rfl rfl ?_; apply Exists.intro; apply Exists.intro; refine ⟨?_, ?_, ?_⟩
      focus
       go_simp; exact ⟨rfl, rfl⟩
      focus
       refine .inl ?_
       (try dsimp only); (repeat' apply And.intro) <;> go_simp
      simp only [Act.put, sA, sZ, sS]; refine wpL_act rfl rfl ?_; refine eff_append (.tmp 55) (.tmp 57) 60 ?e00 B 91 i9x (.agg #[.int .i64 0, .int .i64 0]) 2 16 Tryz.underlying60 hi9 h90 h91 h92 ?e9 ?e10 (.slice al L'.length cl) L'.length (L'.map prCells).flatten ?e1 ?e2 ⟨wB.heap.size, 0, none⟩ 1 1 [.int .i64 num, .int .i64 (bucketM n)] ?e3 ?e4 ?news ?e5 ?e6 ?e7 ?e8 ?_
      case e00 => rfl
      case e9 => rfl
      case e10 => decide
      case e1 => rfl
      case e3 => rfl
      case e4 => rfl
      case e2 => exact own_drew (HLO.out.alloc _)
      case e5 => intro u hu; simp at hu; rcases hu with rfl | rfl <;> rfl
      case e6 => unfold maxLen; omega
      case e7 => omega
      case e8 => simp; omega
      case news => exact news_new wB.drew [.int .i64 num, .int .i64 (bucketM n)] 91 wB.heap.size
      intro v' w1 hown1 hgrow hloc; obtain ⟨a', cp', rfl⟩ := own_form hown1; have hVB2 := HB.out.1.below (bel wB (wB.drew.alloc (Obj.cells #[.int .i64 num, .int .i64 (bucketM n)] 91))); have hV2 := hVB2.looks (q := (num, bucketM n)) hgrow hown1 hloc; have hbk1 := hVB2.vw.grown_blk hgrow (own_ne_blk hVB2.vw.lo hVB2.vw.blk (by decide)); have h11b : Blk w1 (wr.heap.size + 1 + (pj.more pk).len) #[.int .i64 num, .int .i64 (bucketM n)] 91 := (hgrow.block _ (by have := i11.lt; simp; omega) (fun e => HB.out.2.2.2.2 e.symm)).trans (HB.out.2.2.2.1.drew.alloc _); have h9b : Blk w1 wr.heap.size #[.string n] 9 := (hgrow.block _ (by have := i9.lt; simp; omega) (fun e => own_ne_blk hVB2.vw.lo (HB.out.2.2.1.drew.alloc _) (by decide) e.symm)).trans (HB.out.2.2.1.drew.alloc _); have hb2 : Below B w (w1.setCell ⟨k, 10, none⟩ (.slice a' (L'.length + 1) cp')) := HB.out.2.1.trans (((bel wB (wB.drew.alloc (Obj.cells #[.int .i64 num, .int .i64 (bucketM n)] 91))).mono hBB).trans (turned_below hgrow (by simp; omega) HV.out.hB (fun g hg => (hVB2.vw.lo.lt g hg).1))); have w10 : w1.cell? ⟨k, 10, none⟩ = some (.slice al L'.length cl) := hbk1.cell 10; have f10 : w1.frozen? ⟨k, 10, none⟩ = false := hbk1.frozen 10; have r0 : w1.cell? ⟨(wr.heap.size + 1 + (pj.more pk).len), 0, none⟩ = some (.int .i64 num) := h11b.cell 0; have r1 : w1.cell? ⟨(wr.heap.size + 1 + (pj.more pk).len), 1, none⟩ = some (.int .i64 (bucketM n)) := h11b.cell 1; have iK1 := hbk1.lt; have n11k : (wr.heap.size + 1 + (pj.more pk).len) ≠ k := h11b.ne_ hbk1 (by decide); have n9k : wr.heap.size ≠ k := h9b.ne_ hbk1 (by decide); have HC := Lib.hid (And.intro hV2 (And.intro hb2 (And.intro (Blk.far (a := ⟨k, 10, none⟩) h9b n9k (.slice a' (L'.length + 1) cp')) (Blk.far (a := ⟨k, 10, none⟩) h11b n11k (.slice a' (L'.length + 1) cp'))))); clear hown1 hgrow hloc hVB2 hV2 hb2 hbk1 h11b h9b; refine ⟨.inl ?_, ?_⟩
      focus
       (try dsimp only); (repeat' apply And.intro) <;> go_simp
      simp only [Act.put, sA, sZ, sS]
      repeat
       refine wpL_look rfl rfl ?_; apply Exists.intro; refine ⟨?_, ?_⟩
       focus
        rintro w' ⟨s0, s1, s2⟩; go_simp
        first | done | rfl
       simp only [Act.put, sA, sZ, sS]
      refine wpL_skip rfl rfl ?_; refine ⟨w1.setCell ⟨k, 10, none⟩ (.slice a' (L'.length + 1) cp'), ?_, .inr ⟨rfl, rfl⟩, ?_⟩
      focus
       go_simp
      simp only [Act.put, sA, sZ, sS]; refine wpL_end ?_
      go_upto_region 14 with fail
      refine abs_world (F := fun wC => (∃ lv2, VF B k p b3 c3 w.heap.size X (.slice (some ⟨bn, on, none⟩) names.length cn) names (L' ++ [(num, bucketM n)]) M' last lv2 mv' wC) ∧ Below B w wC ∧ Blk wC wr.heap.size #[.string n] 9 ∧ Blk wC (wr.heap.size + 1 + (pj.more pk).len) #[.int .i64 num, .int .i64 (bucketM n)] 91) ⟨⟨_, HC.out.1⟩, HC.out.2.1, HC.out.2.2.1, HC.out.2.2.2⟩ ?_; clear w10 f10 r0 r1 iK1 n11k n9k HC HB HLO v10 q0 q1 iKB i11 i9; rintro wC ⟨⟨lv2, hVC⟩, hbC, h9, h11⟩; have hqe : (names.drop (q + 1)).isEmpty = decide (q + 1 = names.length) := by
       by_cases hq1 : q + 1 = names.length
       · rw [List.drop_of_length_le (by omega)]; simp [hq1]
       · have : (names.drop (q + 1)).length ≠ 0 := by rw [List.length_drop]; omega
         rcases hd : names.drop (q + 1) with _ | ⟨a, r⟩
         · rw [hd] at this; simp at this
         · simp [hq1]
      by_cases hq1 : q + 1 = names.length
      · have hqb : (names.drop (q + 1)).isEmpty = true := by rw [hqe]; simpa using hq1
        have hqi : ((q : Int) == (names.length : Int) - 1) = true := by simp; omega
        have p0 : wC.cell? ⟨w.heap.size, 0, none⟩ = some (.int .i64 last.1) := hVC.pr.cell 0; have p1 : wC.cell? ⟨w.heap.size, 1, none⟩ = some (.int .i64 last.2) := hVC.pr.cell 1; have fp0 : wC.frozen? ⟨w.heap.size, 0, none⟩ = false := hVC.pr.frozen 0; have fp1 : wC.frozen? ⟨w.heap.size, 1, none⟩ = false := hVC.pr.frozen 1; have iB4 := hVC.pr.lt; have q0 : wC.cell? ⟨(wr.heap.size + 1 + (pj.more pk).len), 0, none⟩ = some (.int .i64 num) := h11.cell 0; have q1 : wC.cell? ⟨(wr.heap.size + 1 + (pj.more pk).len), 1, none⟩ = some (.int .i64 (bucketM n)) := h11.cell 1; have i11 := h11.lt; have hV3 := hVC.lastSet (num, bucketM n); have hb3 : Below B w ((wC.setCell ⟨w.heap.size, 0, none⟩ (.int .i64 num)).setCell ⟨w.heap.size, 1, none⟩ (.int .i64 (bucketM n))) := (hbC.setCell (p := ⟨w.heap.size, 0, none⟩) hBw _).setCell (p := ⟨w.heap.size, 1, none⟩) hBw _; have n94 : wr.heap.size ≠ w.heap.size := h9.ne_ hVC.pr (by decide); have h93 : Blk ((wC.setCell ⟨w.heap.size, 0, none⟩ (.int .i64 num)).setCell ⟨w.heap.size, 1, none⟩ (.int .i64 (bucketM n))) wr.heap.size #[.string n] 9 := Blk.far (a := ⟨w.heap.size, 1, none⟩) (Blk.far (a := ⟨w.heap.size, 0, none⟩) h9 n94 _) n94 _; have HD := Lib.hid (And.intro (And.intro hV3 hb3) h93); clear hVC hbC h9 h11 hV3 hb3 h93 n94; have hre2 := HX.out.1; rw [hqb] at hre2; clear hqe hqb
        go_upto_region 16 with fail
        refine abs_world (F := fun wD => (VF B k p b3 c3 w.heap.size X (.slice (some ⟨bn, on, none⟩) names.length cn) names (L' ++ [(num, bucketM n)]) M' (num, bucketM n) lv2 mv' wD ∧ Below B w wD) ∧ Blk wD wr.heap.size #[.string n] 9) HD.out ?_; clear q0 q1 p0 p1 fp0 fp1 iB4 i11 HD; rintro wD ⟨⟨hVD, hbD⟩, h9⟩; have hBD : B ≤ wD.heap.size := Nat.le_trans hBw hbD.size; have iBD : Bel wD wD := inferInstance; obtain ⟨iGD, _, z1, z2, z3⟩ := HX.out.2.1 wD (hre wD hbD); rw [lM] at z2; have hrw := hevR wD hbD; rw [lM] at hrw; have n90 : wD.cell? ⟨wr.heap.size, 0, none⟩ = some (.string n) := h9.cell 0; have i9 := h9.lt; have hidx : ∀ ww, Below wD.heap.size wD ww → Calls Tryz.prog 138 #[.slice ae xe.length ce, .func (.func 139) #[] #[.pointer (some ⟨wr.heap.size, 0, none⟩)]] ww _ := fun ww hb =>
         index138 xe _ _ (isName n) ww (hrw.below hb (Nat.le_refl _)) hxl.2.1 (fun z wz _ hz => clo139 z wr.heap.size n wz ⟨by have := i9.lt; have := hb.size; have := hz.size; omega⟩ ((hz.cell (p := ⟨wr.heap.size, 0, none⟩) (by have := i9.lt; have := hb.size; show wr.heap.size < ww.heap.size; omega)).trans ((hb.cell (p := ⟨wr.heap.size, 0, none⟩) i9.lt).trans n90)))
        have hIb := idxM_bounds (isName n) xe; generalize idxM (isName n) xe = I at hidx hre2 hIb; simp only [Bool.true_eq_false, Bool.false_eq_true, if_false, if_true] at hre2; have HD := Lib.hid (And.intro hVD hbD); clear hrw h9; by_cases hI0 : I < 0
        · rw [if_pos hI0] at hre2; have p0 : wD.cell? ⟨w.heap.size, 0, none⟩ = some (.int .i64 (num, bucketM n).1) := hVD.pr.cell 0; have p1 : wD.cell? ⟨w.heap.size, 1, none⟩ = some (.int .i64 (num, bucketM n).2) := hVD.pr.cell 1; have fp0 : wD.frozen? ⟨w.heap.size, 0, none⟩ = false := hVD.pr.frozen 0; have fp1 : wD.frozen? ⟨w.heap.size, 1, none⟩ = false := hVD.pr.frozen 1; have iB4 := hVD.pr.lt; clear hVD hbD
          go_upto_region 18 with (go_at_call 138; refine aT (hidx _ (bel wD _)) fun pm => ?_)
          refine abs_world (F := fun wE => VF B k p b3 c3 w.heap.size X (.slice (some ⟨bn, on, none⟩) names.length cn) names (L' ++ [(num, bucketM n)]) M' (num, bucketM n) lv2 mv' wE ∧ Below B w wE) ⟨HD.out.1.below (bel wD _), HD.out.2.trans ((bel wD _).mono hBD)⟩ ?_; clear p0 p1 fp0 fp1 iB4 hidx i9 z1 z2 z3 n90; rintro wE ⟨hVE, hbE⟩; have p0 : wE.cell? ⟨w.heap.size, 0, none⟩ = some (.int .i64 (num, bucketM n).1) := hVE.pr.cell 0; have p1 : wE.cell? ⟨w.heap.size, 1, none⟩ = some (.int .i64 (num, bucketM n).2) := hVE.pr.cell 1; have fp0 : wE.frozen? ⟨w.heap.size, 0, none⟩ = false := hVE.pr.frozen 0; have fp1 : wE.frozen? ⟨w.heap.size, 1, none⟩ = false := hVE.pr.frozen 1; have iB4 := hVE.pr.lt; have hV4 := hVE.lastSet (num, bucketM n); have hb4 : Below B w ((wE.setCell ⟨w.heap.size, 0, none⟩ (.int .i64 (num, bucketM n).1)).setCell ⟨w.heap.size, 1, none⟩ (.int .i64 (num, bucketM n).2)) := (hbE.setCell (p := ⟨w.heap.size, 0, none⟩) hBw _).setCell (p := ⟨w.heap.size, 1, none⟩) hBw _; have HE := Lib.hid (And.intro hV4 (And.intro hb4 hre2)); clear hVE hbE hV4 hb4 hre2; go_wp2_with fail; refine bodyPost_ret (v := .tuple #[pairAt (num, bucketM n), .int .i64 0]) (by unfold results pairAt; simp only [Tryz.results89]; go_simp) rfl ⟨by rw [← HE.out.2.2], ⟨lv2, mv', by rw [← HE.out.2.2]; exact HE.out.1.vw⟩, HE.out.2.1⟩
        · rw [if_neg hI0] at hre2; obtain ⟨j, rfl⟩ : ∃ j : Nat, I = j := ⟨I.toNat, by omega⟩
          have hjl : j < xe.length := by omega
          have hjI : (j : Int) < xe.length := by omega
          obtain ⟨e, he⟩ : ∃ e, xe[j]? = some e := ⟨_, gE hjl⟩
          rw [Int.toNat_natCast, he] at hre2; simp only at hre2; have hem := mG he; have hen := hxl.2.2 e hem; have hel := hlx e hem; obtain ⟨be, oe, rfl, iE0, iE, hce⟩ := HX.out.2.2.1 wD (hre wD hbD) j e.cells (by rw [gM, he]; rfl); have e1 := hce 1 _ rfl; clear hce he hem; have m12 : wD.cell? ⟨k, 12, none⟩ = some mv' := hVD.vw.blk.cell 12; have iKD := hVD.vw.blk.lt; have hmo := hVD.vw.mo; obtain ⟨am, cm, rfl⟩ := own_form hmo; have HMO := Lib.hid hmo; have hMl2 := HI.out.2.2.2.2; clear hVD hbD hmo
          go_upto_region 20 with (go_at_call 138; refine aT (hidx _ (bel wD _)) fun pm => ?_)
          refine abs_world (F := fun wE => VF B k p b3 c3 w.heap.size X (.slice (some ⟨bn, on, none⟩) names.length cn) names (L' ++ [(num, bucketM n)]) M' (num, bucketM n) lv2 (.slice am M'.length cm) wE ∧ Below B w wE) ⟨HD.out.1.below (bel wD _), HD.out.2.trans ((bel wD _).mono hBD)⟩ ?_; clear hidx i9 z1 z2 z3 n90 e1 m12 iKD HMO; rintro wE ⟨hVE, hbE⟩; have m12 : wE.cell? ⟨k, 12, none⟩ = some (.slice am M'.length cm) := hVE.vw.blk.cell 12; have iKE := hVE.vw.blk.lt; have hmoE := hVE.vw.mo; have hBE : B ≤ wE.heap.size := Nat.le_trans hBw hbE.size; have HE := Lib.hid (And.intro hVE hbE); clear hVE hbE; go_wp2_with (at_builtin; refine wpList_append_own _ rfl _ _ 25 rfl B 3 i3 (.int .i64 0) 1 8 Tryz.underlying25 hi3 h30 h31 h32 rfl (by decide) _ _ _ rfl (hmoE.alloc _) ⟨wE.heap.size, 0, none⟩ 1 1 [.int .i64 e.num] rfl rfl ?c1 ?c2 ?c3 ?c4 ?c5 ?_)
          case c1 => exact news_new wE [.int .i64 e.num] 3 wE.heap.size
          case c2 => intro u hu; simp at hu; subst hu; rfl
          case c3 => unfold maxLen; omega
          case c4 => omega
          case c5 => simp; omega
          intro mv3 w3 hown' hgrow _; have hVE1 := HE.out.1.below (bel wE (wE.alloc (Obj.cells #[.int .i64 e.num] 3))); have hV5 := hVE1.met hgrow hown'; have hb5 : Below B w (w3.setCell ⟨k, 12, none⟩ mv3) := HE.out.2.trans (((bel wE (wE.alloc (Obj.cells #[.int .i64 e.num] 3))).mono hBE).trans (turned_below hgrow (by simp; omega) HV.out.hB (fun g hg => (hVE1.vw.mo.lt g hg).1))); have hbk3 := hVE1.vw.grown_blk hgrow (own_ne_blk hVE1.vw.mo hVE1.vw.blk (by decide)); have hfz3 : w3.frozen? ⟨k, 12, none⟩ = false := hbk3.frozen 12; have hcl3 : w3.cell? ⟨k, 12, none⟩ = some (.slice am M'.length cm) := hbk3.cell 12; have iK3 : BlockLt k w3 := hbk3.lt; obtain ⟨am3, cm3, rfl⟩ := own_form hown'; have HE1 := Lib.hid (And.intro hV5 (And.intro hb5 hre2)); clear hV5 hb5 hVE1 hgrow hown' m12 hmoE hbk3 hre2 hMl2; go_wp2_with fail
          go_roundw
          case rel => exact ⟨q + 1, e.num, (num, bucketM n), L' ++ [(num, bucketM n)], M' ++ [e.num], lv2, _, by go_num, rfl, by omega, HE1.out.2.2, by rw [lP]; simp; omega, by rw [lP]; simp; omega, hel, hen, HE1.out.1, HE1.out.2.1⟩
          case measure => simp [intOf]; omega
      · have hqb : (names.drop (q + 1)).isEmpty = false := by rw [hqe]; simpa using hq1
        have hqi : ((q : Int) == (names.length : Int) - 1) = false := by simp; omega
        have HD := Lib.hid (And.intro (And.intro hVC hbC) h9); clear hVC hbC h9 h11; have hre2 := HX.out.1; rw [hqb] at hre2; clear hqe hqb
        go_upto_region 16 with fail
        refine abs_world (F := fun wD => (VF B k p b3 c3 w.heap.size X (.slice (some ⟨bn, on, none⟩) names.length cn) names (L' ++ [(num, bucketM n)]) M' last lv2 mv' wD ∧ Below B w wD) ∧ Blk wD wr.heap.size #[.string n] 9) HD.out ?_; clear HD; rintro wD ⟨⟨hVD, hbD⟩, h9⟩; have hBD : B ≤ wD.heap.size := Nat.le_trans hBw hbD.size; have iBD : Bel wD wD := inferInstance; obtain ⟨iGD, _, z1, z2, z3⟩ := HX.out.2.1 wD (hre wD hbD); rw [lM] at z2; have hrw := hevR wD hbD; rw [lM] at hrw; have n90 : wD.cell? ⟨wr.heap.size, 0, none⟩ = some (.string n) := h9.cell 0; have i9 := h9.lt; have hidx : ∀ ww, Below wD.heap.size wD ww → Calls Tryz.prog 138 #[.slice ae xe.length ce, .func (.func 139) #[] #[.pointer (some ⟨wr.heap.size, 0, none⟩)]] ww _ := fun ww hb =>
         index138 xe _ _ (isName n) ww (hrw.below hb (Nat.le_refl _)) hxl.2.1 (fun z wz _ hz => clo139 z wr.heap.size n wz ⟨by have := i9.lt; have := hb.size; have := hz.size; omega⟩ ((hz.cell (p := ⟨wr.heap.size, 0, none⟩) (by have := i9.lt; have := hb.size; show wr.heap.size < ww.heap.size; omega)).trans ((hb.cell (p := ⟨wr.heap.size, 0, none⟩) i9.lt).trans n90)))
        have hIb := idxM_bounds (isName n) xe; generalize idxM (isName n) xe = I at hidx hre2 hIb; simp only [Bool.true_eq_false, Bool.false_eq_true, if_false, if_true] at hre2; have HD := Lib.hid (And.intro hVD hbD); clear hrw h9; by_cases hI0 : I < 0
        · rw [if_pos hI0] at hre2; have p0 : wD.cell? ⟨w.heap.size, 0, none⟩ = some (.int .i64 last.1) := hVD.pr.cell 0; have p1 : wD.cell? ⟨w.heap.size, 1, none⟩ = some (.int .i64 last.2) := hVD.pr.cell 1; have fp0 : wD.frozen? ⟨w.heap.size, 0, none⟩ = false := hVD.pr.frozen 0; have fp1 : wD.frozen? ⟨w.heap.size, 1, none⟩ = false := hVD.pr.frozen 1; have iB4 := hVD.pr.lt; clear hVD hbD
          go_upto_region 18 with (go_at_call 138; refine aT (hidx _ (bel wD _)) fun pm => ?_)
          refine abs_world (F := fun wE => VF B k p b3 c3 w.heap.size X (.slice (some ⟨bn, on, none⟩) names.length cn) names (L' ++ [(num, bucketM n)]) M' last lv2 mv' wE ∧ Below B w wE) ⟨HD.out.1.below (bel wD _), HD.out.2.trans ((bel wD _).mono hBD)⟩ ?_; clear p0 p1 fp0 fp1 iB4 hidx i9 z1 z2 z3 n90; rintro wE ⟨hVE, hbE⟩; have p0 : wE.cell? ⟨w.heap.size, 0, none⟩ = some (.int .i64 last.1) := hVE.pr.cell 0; have p1 : wE.cell? ⟨w.heap.size, 1, none⟩ = some (.int .i64 last.2) := hVE.pr.cell 1; have fp0 : wE.frozen? ⟨w.heap.size, 0, none⟩ = false := hVE.pr.frozen 0; have fp1 : wE.frozen? ⟨w.heap.size, 1, none⟩ = false := hVE.pr.frozen 1; have iB4 := hVE.pr.lt; have hV4 := hVE.lastSet last; have hb4 : Below B w ((wE.setCell ⟨w.heap.size, 0, none⟩ (.int .i64 last.1)).setCell ⟨w.heap.size, 1, none⟩ (.int .i64 last.2)) := (hbE.setCell (p := ⟨w.heap.size, 0, none⟩) hBw _).setCell (p := ⟨w.heap.size, 1, none⟩) hBw _; have HE := Lib.hid (And.intro hV4 (And.intro hb4 hre2)); clear hVE hbE hV4 hb4 hre2; go_wp2_with fail; refine bodyPost_ret (v := .tuple #[pairAt last, .int .i64 0]) (by unfold results pairAt; simp only [Tryz.results89]; go_simp) rfl ⟨by rw [← HE.out.2.2], ⟨lv2, mv', by rw [← HE.out.2.2]; exact HE.out.1.vw⟩, HE.out.2.1⟩
        · rw [if_neg hI0] at hre2; obtain ⟨j, rfl⟩ : ∃ j : Nat, I = j := ⟨I.toNat, by omega⟩
          have hjl : j < xe.length := by omega
          have hjI : (j : Int) < xe.length := by omega
          obtain ⟨e, he⟩ : ∃ e, xe[j]? = some e := ⟨_, gE hjl⟩
          rw [Int.toNat_natCast, he] at hre2; simp only at hre2; have hem := mG he; have hen := hxl.2.2 e hem; have hel := hlx e hem; obtain ⟨be, oe, rfl, iE0, iE, hce⟩ := HX.out.2.2.1 wD (hre wD hbD) j e.cells (by rw [gM, he]; rfl); have e1 := hce 1 _ rfl; clear hce he hem; have m12 : wD.cell? ⟨k, 12, none⟩ = some mv' := hVD.vw.blk.cell 12; have iKD := hVD.vw.blk.lt; have hmo := hVD.vw.mo; obtain ⟨am, cm, rfl⟩ := own_form hmo; have HMO := Lib.hid hmo; have hMl2 := HI.out.2.2.2.2; clear hVD hbD hmo
          go_upto_region 20 with (go_at_call 138; refine aT (hidx _ (bel wD _)) fun pm => ?_)
          refine abs_world (F := fun wE => VF B k p b3 c3 w.heap.size X (.slice (some ⟨bn, on, none⟩) names.length cn) names (L' ++ [(num, bucketM n)]) M' last lv2 (.slice am M'.length cm) wE ∧ Below B w wE) ⟨HD.out.1.below (bel wD _), HD.out.2.trans ((bel wD _).mono hBD)⟩ ?_; clear hidx i9 z1 z2 z3 n90 e1 m12 iKD HMO; rintro wE ⟨hVE, hbE⟩; have m12 : wE.cell? ⟨k, 12, none⟩ = some (.slice am M'.length cm) := hVE.vw.blk.cell 12; have iKE := hVE.vw.blk.lt; have hmoE := hVE.vw.mo; have hBE : B ≤ wE.heap.size := Nat.le_trans hBw hbE.size; have HE := Lib.hid (And.intro hVE hbE); clear hVE hbE; go_wp2_with (at_builtin; refine wpList_append_own _ rfl _ _ 25 rfl B 3 i3 (.int .i64 0) 1 8 Tryz.underlying25 hi3 h30 h31 h32 rfl (by decide) _ _ _ rfl (hmoE.alloc _) ⟨wE.heap.size, 0, none⟩ 1 1 [.int .i64 e.num] rfl rfl ?c1 ?c2 ?c3 ?c4 ?c5 ?_)
          case c1 => exact news_new wE [.int .i64 e.num] 3 wE.heap.size
          case c2 => intro u hu; simp at hu; subst hu; rfl
          case c3 => unfold maxLen; omega
          case c4 => omega
          case c5 => simp; omega
          intro mv3 w3 hown' hgrow _; have hVE1 := HE.out.1.below (bel wE (wE.alloc (Obj.cells #[.int .i64 e.num] 3))); have hV5 := hVE1.met hgrow hown'; have hb5 : Below B w (w3.setCell ⟨k, 12, none⟩ mv3) := HE.out.2.trans (((bel wE (wE.alloc (Obj.cells #[.int .i64 e.num] 3))).mono hBE).trans (turned_below hgrow (by simp; omega) HV.out.hB (fun g hg => (hVE1.vw.mo.lt g hg).1))); have hbk3 := hVE1.vw.grown_blk hgrow (own_ne_blk hVE1.vw.mo hVE1.vw.blk (by decide)); have hfz3 : w3.frozen? ⟨k, 12, none⟩ = false := hbk3.frozen 12; have hcl3 : w3.cell? ⟨k, 12, none⟩ = some (.slice am M'.length cm) := hbk3.cell 12; have iK3 : BlockLt k w3 := hbk3.lt; obtain ⟨am3, cm3, rfl⟩ := own_form hown'; have HE1 := Lib.hid (And.intro hV5 (And.intro hb5 hre2)); clear hV5 hb5 hVE1 hgrow hown' m12 hmoE hbk3 hre2 hMl2; go_wp2_with fail
          go_roundw
          case rel => exact ⟨q + 1, e.num, last, L' ++ [(num, bucketM n)], M' ++ [e.num], lv2, _, by go_num, rfl, by omega, HE1.out.2.2, by rw [lP]; simp; omega, by rw [lP]; simp; omega, hel, hen, HE1.out.1, HE1.out.2.1⟩
          case measure => simp [intOf]; omega
  · rw [List.drop_of_length_le (by omega)] at hre1; have hR1 : (⟨last, num, L', M'⟩ : VRes) = RR := hre1; have p0 : wr.cell? ⟨w.heap.size, 0, none⟩ = some (.int .i64 last.1) := hV.pr.cell 0; have p1 : wr.cell? ⟨w.heap.size, 1, none⟩ = some (.int .i64 last.2) := hV.pr.cell 1; have fp0 : wr.frozen? ⟨w.heap.size, 0, none⟩ = false := hV.pr.frozen 0; have fp1 : wr.frozen? ⟨w.heap.size, 1, none⟩ = false := hV.pr.frozen 1; have iB4 := hV.pr.lt; have hV2 := hV.lastSet last; have hb2 : Below B w ((wr.setCell ⟨w.heap.size, 0, none⟩ (.int .i64 last.1)).setCell ⟨w.heap.size, 1, none⟩ (.int .i64 last.2)) := (hbr.setCell (p := ⟨w.heap.size, 0, none⟩) hBw _).setCell (p := ⟨w.heap.size, 1, none⟩) hBw _; have HB := Lib.hid (And.intro hV2 (And.intro hb2 hR1)); clear hV hbr hV2 hb2 hR1 hre1; go_wp2_with fail; refine bodyPost_ret (v := .tuple #[pairAt last, .int .i64 num]) (by unfold results pairAt; simp only [Tryz.results89]; go_simp) rfl ⟨by rw [← HB.out.2.2], ⟨lv', mv', by rw [← HB.out.2.2]; exact HB.out.1.vw⟩, HB.out.2.1⟩
def VwAt (w : World) (k p : Nat) (c : PCall) (fine : Bool) (L T : List (Int × Int)) (M : List Int) (bytes counts gone : Int) : Prop :=
 ∃ lv tv mv, Blk w k (vwCells p ⟨c, fine, tv, bytes, counts, gone⟩ lv mv) 62 ∧ w.ownsRow k 91 2 lv L.length (L.map prCells).flatten ∧ w.ownsRow k 91 2 tv T.length (T.map prCells).flatten ∧ w.ownsRow k 3 1 mv M.length (M.map (Value.int .i64))
theorem VwAt.below {w w' : World} {k p : Nat} {c : PCall} {fine : Bool} {L T : List (Int × Int)} {M : List Int} {bytes counts gone : Int} (h : VwAt w k p c fine L T M bytes counts gone) (hb : Below w.heap.size w w') : VwAt w' k p c fine L T M bytes counts gone := by
 obtain ⟨lv, tv, mv, h1, h2, h3, h4⟩ := h
 have hk : Keep (fun _ => False) w w' := Keep.of_below hb _
 exact ⟨lv, tv, mv, h1.below hb h1.lt.lt, hk.own h2 (fun _ _ => id), hk.own h3 (fun _ _ => id), hk.own h4 (fun _ _ => id)⟩
theorem pairs_at {B : Nat} {v : Value} {T : List (Int × Int)} {w : World} (h : w.ownsRow B 91 2 v T.length (T.map prCells).flatten) : RowAt w 2 v (T.map prCells) :=
 (OwnP.of_own (by rw [lM]; exact h) (by decide) (fun cs hc => by
  obtain ⟨n, _, rfl⟩ := List.mem_map.1 hc; rfl)).row
theorem ints_flat (M : List Int) : (M.map intCells).flatten = M.map (Value.int .i64) := by
 induction M with
 | nil => rfl
 | cons a r ih =>
   simp only [List.map_cons, List.flatten_cons, ih]; rfl
theorem ints_at {B : Nat} {v : Value} {M : List Int} {w : World} (h : w.ownsRow B 3 1 v M.length (M.map (Value.int .i64))) : RowAt w 1 v (M.map intCells) :=
 (OwnP.of_own (by rw [lM, ints_flat]; exact h) (by decide) (fun cs hc => by
  obtain ⟨n, _, rfl⟩ := List.mem_map.1 hc; rfl)).row
theorem VwOwn.exSet {B : Nat} {w : World} {k p b3 : Nat} {x y : Value} {X : VX} {L : List (Int × Int)} {M : List Int} {lv mv : Value} (h : VwOwn B w k p b3 #[x, y] X L M lv mv) (a b : Value) :
 VwOwn B ((w.setCell ⟨b3, 0, none⟩ a).setCell ⟨b3, 1, none⟩ b) k p b3 #[a, b] X L M lv mv := by
 have hkp : Keep (fun i => i = b3) w ((w.setCell ⟨b3, 0, none⟩ a).setCell ⟨b3, 1, none⟩ b) :=
  Keep.setCell (S := fun i => i = b3) (p := ⟨b3, 1, none⟩) (Keep.setCell (S := fun i => i = b3) (p := ⟨b3, 0, none⟩) (Keep.refl _ w) (.inl rfl) _) (.inl rfl) _
 have hb3k : b3 ≠ k := h.ex.ne_ h.blk (by decide)
 refine ⟨h.hB, ?_, h.ne3, hkp.blk h.blk (fun e => hb3k e.symm), hkp.own h.lo (fun g hg e => h.ne3 (by rw [hg, e])), hkp.own h.mo (fun g hg e => ?_)⟩
 · have := (h.ex.set_ 0 a).set_ 1 b; simpa using this
 · subst e; exact own_ne_blk h.mo h.ex (by decide) hg
theorem VwOwn.turns {w w1 : World} {k p b3 : Nat} {c3 : Array Value} {c : PCall} {fine : Bool} {by_ co go : Int} {L T : List (Int × Int)} {M : List Int} {lv mv v' : Value} (h : VwOwn k w k p b3 c3 ⟨c, fine, .slice none 0 0, by_, co, go⟩ L M lv mv) (hg : w.grownBy w1 none) (hown : w1.ownsRow k 91 2 v' T.length (T.map prCells).flatten) :
 VwAt (w1.setCell ⟨k, 11, none⟩ v') k p c fine L T M by_ co go := by
 have hk := (Keep.refl (fun _ => False) w).grown hg (fun g hg => by cases hg)
 have h1 := h.keep hk id (fun _ _ => id) (fun _ _ => id) id
 refine ⟨lv, v', mv, ?_, own_set h1.lo h1.blk (by decide) 11 v', own_set hown h1.blk (by decide) 11 v', own_set h1.mo h1.blk (by decide) 11 v'⟩
 have := h1.blk.set_ 11 v'
 simpa [vwCells] using this
def VwNew (w : World) (k p : Nat) (c : PCall) (fine : Bool) : Prop := Blk w k (vwCells p ⟨c, fine, .slice none 0 0, 0, 0, 0⟩ (.slice none 0 0) (.slice none 0 0)) 62
theorem VwNew.own {w : World} {k p : Nat} {c : PCall} {fine : Bool} (h : VwNew w k p c fine) (b3 : Nat) (c3 : Array Value) (h3 : Blk w b3 c3 91) : VwOwn k w k p b3 c3 ⟨c, fine, .slice none 0 0, 0, 0, 0⟩ [] [] (.slice none 0 0) (.slice none 0 0) :=
 ⟨Nat.le_refl _, h3, by simp [Value.ownBlock], h, World.ownsRow_nil w k 91 2, World.ownsRow_nil w k 3 1⟩
theorem paths_create (k p : Nat) (S : PSt) (c : PCall) (fine : Bool) (w : World) (h : VwNew w k p c fine) (hL : Laid k (fun w => SP w p S) w) (hwf : S.wf) (hlk : linkedB S = true) (hk : c.kind = 0 ∨ c.kind = 1) (hp : (parseM c.path).1 = 0) (hnl : (parseM c.path).2.length ≤ 1000000000) :
 Calls Tryz.prog 44 #[.pointer (some ⟨k, 0, none⟩)] w fun e w' => let R := vwalkF S (parseM c.path).2 (0, 0) 1 [] [1]
  e = .returned (.tuple #[]) ∧ VwAt w' k p c fine R.L [R.last] R.M 0 0 0 ∧ Below k w w' := by
 obtain ⟨i9x, hi9, h90, h91, h92⟩ := info_parts info91
 have iK := h.lt
 have hkw : k ≤ w.heap.size := by have := iK.lt; omega
 have c1 : w.cell? ⟨k, 1, none⟩ = some (.int .i64 c.kind) := h.cell 1
 have c6 : w.cell? ⟨k, 6, none⟩ = some (.string c.path) := h.cell 6
 have hwalk : ∀ ww b3, Below w.heap.size w ww → Blk ww b3 #[.int .i64 0, .int .i64 0] 91 → Calls Tryz.prog 89 #[.pointer (some ⟨k, 0, none⟩), .string c.path] ww _ := fun ww b3 hb h3 =>
  walk89 k k p b3 _ S _ [] [] c.path _ _ ww (VwNew.own (h.below hb iK.lt) b3 _ h3) (hL.below (hb.mono hkw)) (Nat.le_trans hkw hb.size) hwf hlk hp hnl (by simp) (by simp)
 simp only [List.nil_append] at hwalk
 generalize vwalkF S (parseM c.path).2 (0, 0) 1 [] [1] = R at hwalk ⊢
 obtain ⟨⟨l1, l2⟩, rn, RL, RM⟩ := R
 unfold pairAt at hwalk
 simp only at hwalk ⊢
 have H := Lib.hid h
 clear h hL hwf hlk hp hnl
 rcases hk with hk | hk
 all_goals
  rw [hk] at c1
  go_enter Tryz.func44, Tryz.ntmps44
  go_upto_region 4 with (go_at_call 89; refine (hwalk _ w.heap.size (bel w _) (Blk.new _ _ _)).mono ?_; rintro e w1 ⟨rfl, ⟨lv1, mv1, hv1⟩, hb1⟩; have e0 : w1.cell? ⟨w.heap.size, 0, none⟩ = some (.int .i64 0) := hv1.ex.cell 0; have e1 : w1.cell? ⟨w.heap.size, 1, none⟩ = some (.int .i64 0) := hv1.ex.cell 1; have f0 := hv1.ex.frozen 0; have f1 := hv1.ex.frozen 1; have i3 := hv1.ex.lt; have HV1 := Lib.hid (And.intro hv1 hb1); clear hv1 hb1)
  refine abs_world (F := fun wA => VwOwn k wA k p w.heap.size #[.int .i64 l1, .int .i64 l2] ⟨c, fine, .slice none 0 0, 0, 0, 0⟩ RL RM lv1 mv1 ∧ Below k w wA) ⟨HV1.out.1.exSet _ _, ((((bel w (w.alloc (Obj.cells #[.int .i64 0, .int .i64 0] 91))).mono hkw).trans HV1.out.2).setCell (p := ⟨w.heap.size, 0, none⟩) hkw _).setCell (p := ⟨w.heap.size, 1, none⟩) hkw _⟩ ?_; clear e0 e1 f0 f1 i3 HV1 c1; rintro wA ⟨hVA, hbA⟩; have a1 : wA.cell? ⟨k, 1, none⟩ = some (.int .i64 c.kind) := hVA.blk.cell 1; rw [hk] at a1; have a11 : wA.cell? ⟨k, 11, none⟩ = some (.slice none 0 0) := hVA.blk.cell 11; have q0 : wA.cell? ⟨w.heap.size, 0, none⟩ = some (.int .i64 l1) := hVA.ex.cell 0; have q1 : wA.cell? ⟨w.heap.size, 1, none⟩ = some (.int .i64 l2) := hVA.ex.cell 1; have iKA := hVA.blk.lt; have i3A := hVA.ex.lt; have hkA : k ≤ wA.heap.size := by have := iKA.lt; omega
  have HA := Lib.hid (And.intro hVA hbA); clear hVA hbA
  go_upto_region 7 with fail
  refine wp_region_eff [6, 7, 10] true (fun w' => w'.cell? ⟨k, 11, none⟩ = some (.slice none 0 0) ∧ w'.cell? ⟨w.heap.size, 0, none⟩ = some (.int .i64 l1) ∧ w'.cell? ⟨w.heap.size, 1, none⟩ = some (.int .i64 l2)) (by kernel_rfl) (by kernel_rfl) ?_ ?_
  · (try dsimp only); (repeat' apply And.intro) <;> go_simp
  repeat
   refine wpL_look rfl rfl ?_; apply Exists.intro; refine ⟨?_, ?_⟩
   focus
    rintro w' ⟨s0, s1, s2⟩; go_simp
    first | done | rfl
   simp only [Act.put, sA, sZ, sS]
  refine wpL_do rfl rfl ?_; apply Exists.intro; apply Exists.intro; refine ⟨?_, ?_, ?_⟩
  focus
   go_simp; exact ⟨rfl, rfl⟩
  focus
   refine .inl ?_
   (try dsimp only); (repeat' apply And.intro) <;> go_simp
  simp only [Act.put, sA, sZ, sS]; refine wpL_act rfl rfl ?_; refine eff_append (.tmp 51) (.tmp 53) 60 ?e00 k 91 i9x (.agg #[.int .i64 0, .int .i64 0]) 2 16 Tryz.underlying60 hi9 h90 h91 h92 ?e9 ?e10 (.slice none 0 0) 0 [] ?e1 ?e2 ⟨wA.heap.size, 0, none⟩ 1 1 [.int .i64 l1, .int .i64 l2] ?e3 ?e4 ?news ?e5 ?e6 ?e7 ?e8 ?_
  case e00 => rfl
  case e9 => rfl
  case e10 => decide
  case e1 => rfl
  case e3 => rfl
  case e4 => rfl
  case e2 => exact World.ownsRow_nil _ k 91 2
  case e5 => intro u hu; simp at hu; rcases hu with rfl | rfl <;> rfl
  case e6 => unfold maxLen; omega
  case e7 => omega
  case e8 => simp; omega
  case news => exact news_new wA.drew [.int .i64 l1, .int .i64 l2] 91 wA.heap.size
  intro v' w2 hown2 hgrow hloc; obtain ⟨a', cp', rfl⟩ := own_form hown2; have hVA2 := HA.out.1.below (bel wA (wA.drew.alloc (Obj.cells #[.int .i64 l1, .int .i64 l2] 91))); have hfin := hVA2.turns (T := [(l1, l2)]) hgrow hown2; have hbk2 : Blk w2 k _ 62 := hVA2.grown_blk (v := .slice none 0 0) hgrow (by simp [Value.ownBlock]); have hx2 : Blk w2 w.heap.size #[.int .i64 l1, .int .i64 l2] 91 := (hgrow.block _ (by have := i3A.lt; simp; omega) (by simp [Value.ownBlock])).trans hVA2.ex; have b11 : w2.cell? ⟨k, 11, none⟩ = some (.slice none 0 0) := hbk2.cell 11; have f11 : w2.frozen? ⟨k, 11, none⟩ = false := hbk2.frozen 11; have r0 : w2.cell? ⟨w.heap.size, 0, none⟩ = some (.int .i64 l1) := hx2.cell 0; have r1 : w2.cell? ⟨w.heap.size, 1, none⟩ = some (.int .i64 l2) := hx2.cell 1; have iK2 := hbk2.lt; have hb2 : Below k w (w2.setCell ⟨k, 11, none⟩ (.slice a' (0 + 1) cp')) := HA.out.2.trans (((bel wA (wA.drew.alloc (Obj.cells #[.int .i64 l1, .int .i64 l2] 91))).mono hkA).trans (turned_below (v := .slice none 0 0) hgrow (by simp; omega) (Nat.le_refl _) (fun g hg => by simp [Value.ownBlock] at hg))); have HF := Lib.hid (And.intro hfin hb2); clear hown2 hgrow hloc hVA2 hfin hb2 hbk2 hx2; refine ⟨.inl ?_, ?_⟩
  focus
   (try dsimp only); (repeat' apply And.intro) <;> go_simp
  simp only [Act.put, sA, sZ, sS]
  repeat
   refine wpL_look rfl rfl ?_; apply Exists.intro; refine ⟨?_, ?_⟩
   focus
    rintro w' ⟨s0, s1, s2⟩; go_simp
    first | done | rfl
   simp only [Act.put, sA, sZ, sS]
  refine wpL_skip rfl rfl ?_; refine ⟨w2.setCell ⟨k, 11, none⟩ (.slice a' (0 + 1) cp'), ?_, .inr ⟨rfl, rfl⟩, ?_⟩
  focus
   go_simp
  simp only [Act.put, sA, sZ, sS]; refine wpL_end ?_; clear a1 a11 q0 q1 iKA i3A b11 f11 r0 r1 HA; go_wp2_with fail; exact bodyPost_end (v := .tuple #[]) (by simp [results, go_sem]) rfl ⟨rfl, HF.out⟩
def statBy (S : PSt) (n : Int) : Int := if 0 ≤ idxM (isNum n) S.ins then (match S.ins[(idxM (isNum n) S.ins).toNat]? with | some x => if x.dir = true then 0 else n | none => 0) else 0
theorem VwOwn.at_ {w : World} {k p b3 : Nat} {c3 : Array Value} {c : PCall} {fine : Bool} {by_ co go : Int} {L : List (Int × Int)} {M : List Int} {lv mv : Value} (h : VwOwn k w k p b3 c3 ⟨c, fine, .slice none 0 0, by_, co, go⟩ L M lv mv) : VwAt w k p c fine L [] M by_ co go :=
 ⟨lv, _, mv, h.blk, h.lo, World.ownsRow_nil w k 91 2, h.mo⟩
theorem VwOwn.bytes_at {w : World} {k p b3 : Nat} {c3 : Array Value} {c : PCall} {fine : Bool} {by_ co go : Int} {L : List (Int × Int)} {M : List Int} {lv mv : Value} (h : VwOwn k w k p b3 c3 ⟨c, fine, .slice none 0 0, by_, co, go⟩ L M lv mv) (n : Int) : VwAt (w.setCell ⟨k, 13, none⟩ (.int .i64 n)) k p c fine L [] M n co go := by
 refine ⟨lv, _, mv, ?_, own_set h.lo h.blk (by decide) 13 _, World.ownsRow_nil _ k 91 2, own_set h.mo h.blk (by decide) 13 _⟩
 have := h.blk.set_ 13 (.int .i64 n)
 simpa [vwCells] using this
theorem paths_stat (k p : Nat) (S : PSt) (c : PCall) (fine : Bool) (w : World) (h : VwNew w k p c fine) (hL : Laid k (fun w => SP w p S) w) (hwf : S.wf) (hlk : linkedB S = true) (hpos : 0 < S.ins.length) (hk : c.kind = 13) (hp : (parseM c.path).1 = 0) (hnl : (parseM c.path).2.length ≤ 1000000000) :
 Calls Tryz.prog 44 #[.pointer (some ⟨k, 0, none⟩)] w fun e w' => let R := vwalkF S (parseM c.path).2 (0, 0) 1 [] [1]
  e = .returned (.tuple #[]) ∧ VwAt w' k p c fine R.L [] R.M (statBy S R.num) 0 0 ∧ Below k w w' := by
 have iK := h.lt
 have hkw : k ≤ w.heap.size := by have := iK.lt; omega
 have c1 : w.cell? ⟨k, 1, none⟩ = some (.int .i64 c.kind) := h.cell 1
 have c6 : w.cell? ⟨k, 6, none⟩ = some (.string c.path) := h.cell 6
 have hwalk : ∀ ww b3, Below w.heap.size w ww → Blk ww b3 #[.int .i64 0, .int .i64 0] 91 → Calls Tryz.prog 89 #[.pointer (some ⟨k, 0, none⟩), .string c.path] ww _ := fun ww b3 hb h3 =>
  walk89 k k p b3 _ S _ [] [] c.path _ _ ww (VwNew.own (h.below hb iK.lt) b3 _ h3) (hL.below (hb.mono hkw)) (Nat.le_trans hkw hb.size) hwf hlk hp hnl (by simp) (by simp)
 simp only [List.nil_append] at hwalk
 generalize vwalkF S (parseM c.path).2 (0, 0) 1 [] [1] = R at hwalk ⊢
 obtain ⟨⟨l1, l2⟩, rn, RL, RM⟩ := R
 unfold pairAt at hwalk
 simp only at hwalk ⊢
 obtain ⟨w0, hsp, hB0, hb0⟩ := hL
 have hino : ∀ ww, Below k w ww → BlockLt k ww → ww.cell? ⟨k, 0, none⟩ = some (.pointer (some ⟨p, 0, none⟩)) → Calls Tryz.prog 48 #[.pointer (some ⟨k, 0, none⟩), .int .i64 rn] ww _ := fun ww hb ik hk0 => inode48 k p S rn ww ik hk0 (hsp.below (hb0.trans (hb.mono hB0)) (Nat.le_refl _)) hwf.1 hpos
 obtain ⟨hl0, iv, ov, mv0, g0, g1, g2, hr⟩ := hsp
 obtain ⟨ai, capi, rfl, hati⟩ := hr.ins_at2
 unfold statBy
 have hib := idxM_bounds (isNum rn) S.ins
 generalize idxM (isNum rn) S.ins = K at hino hib ⊢
 generalize hby : (if 0 ≤ K then (match S.ins[K.toNat]? with | some x => if x.dir = true then 0 else rn | none => 0) else 0) = byv
 have HBY := Lib.hid hby
 clear hby
 have H := Lib.hid h
 have HI := Lib.hid hati
 have HG := Lib.hid g0
 clear h hwf hlk hp hnl hr hati g0 g1 g2
 rw [hk] at c1
 go_enter Tryz.func44, Tryz.ntmps44
 go_upto_region 4 with (go_at_call 89; refine (hwalk _ w.heap.size (bel w _) (Blk.new _ _ _)).mono ?_; rintro e w1 ⟨rfl, ⟨lv1, mv1, hv1⟩, hb1⟩; have e0 : w1.cell? ⟨w.heap.size, 0, none⟩ = some (.int .i64 0) := hv1.ex.cell 0; have e1 : w1.cell? ⟨w.heap.size, 1, none⟩ = some (.int .i64 0) := hv1.ex.cell 1; have f0 := hv1.ex.frozen 0; have f1 := hv1.ex.frozen 1; have i3 := hv1.ex.lt; have HV1 := Lib.hid (And.intro hv1 hb1); clear hv1 hb1)
 refine abs_world (F := fun wA => VwOwn k wA k p w.heap.size #[.int .i64 l1, .int .i64 l2] ⟨c, fine, .slice none 0 0, 0, 0, 0⟩ RL RM lv1 mv1 ∧ Below k w wA) ⟨HV1.out.1.exSet _ _, ((((bel w (w.alloc (Obj.cells #[.int .i64 0, .int .i64 0] 91))).mono hkw).trans HV1.out.2).setCell (p := ⟨w.heap.size, 0, none⟩) hkw _).setCell (p := ⟨w.heap.size, 1, none⟩) hkw _⟩ ?_
 clear e0 e1 f0 f1 i3 HV1 c1
 rintro wA ⟨hVA, hbA⟩
 have a1 : wA.cell? ⟨k, 1, none⟩ = some (.int .i64 c.kind) := hVA.blk.cell 1
 rw [hk] at a1
 have a0 : wA.cell? ⟨k, 0, none⟩ = some (.pointer (some ⟨p, 0, none⟩)) := hVA.blk.cell 0
 have iKA := hVA.blk.lt
 have hkA : k ≤ wA.heap.size := by have := iKA.lt; omega
 have hcall := hino wA hbA iKA a0
 have hsA : wA.cell? ⟨p, 0, none⟩ = some (.slice ai S.ins.length capi) := ((hb0.trans (hbA.mono hB0)).cell (p := ⟨p, 0, none⟩) hl0).trans HG.out
 have HA := Lib.hid (And.intro hVA hbA)
 clear hVA hbA hino
 by_cases hK0 : 0 ≤ K
 · obtain ⟨j, rfl⟩ : ∃ j : Nat, K = j := ⟨K.toNat, by omega⟩
   obtain ⟨x, hx⟩ : ∃ x, S.ins[j]? = some x := ⟨_, gE (by omega)⟩
   obtain ⟨bi, off, ev, rfl, iG0, ho1, hev, hcl⟩ := HI.out j x hx; obtain ⟨iG, y0, y1, y2, y3⟩ := hcl wA (hb0.trans (HA.out.2.mono hB0)); have hby := HBY.out; rw [if_pos hK0, Int.toNat_natCast, hx] at hby; simp only at hby; have hcall2 : Calls Tryz.prog 48 #[.pointer (some ⟨k, 0, none⟩), .int .i64 rn] wA fun e w' => e = .returned (.pointer (some ⟨bi, off + j * 4, none⟩)) ∧ Below wA.heap.size wA w' := by
    refine hcall.mono ?_; rintro e w' ⟨⟨bi', off', cap', h1, rfl⟩, h2⟩; rw [hsA] at h1; simp only [Option.some.injEq, Value.slice.injEq, Addr.mk.injEq] at h1; obtain ⟨⟨rfl, rfl, -⟩, -, rfl⟩ := h1; refine ⟨?_, h2⟩; unfold placeAt; rw [if_pos hK0, Int.toNat_natCast]
   obtain ⟨xn, xd, xe, xdat⟩ := x; simp only at y0 y1 hby; clear hcall hcl hev hx y2 y3; rcases xd with _ | _
   · simp only [Bool.false_eq_true, if_false] at hby; subst hby
     go_upto_region 28 with (go_at_call 48; refine hcall2.mono ?_; rintro e w' ⟨rfl, hb⟩; obtain ⟨pj, rfl⟩ := hb.rest; clear hb)
     refine abs_world (F := fun wB => VwOwn k wB k p w.heap.size #[.int .i64 l1, .int .i64 l2] ⟨c, fine, .slice none 0 0, 0, 0, 0⟩ RL RM lv1 mv1 ∧ Below k w wB) ⟨HA.out.1.below (bel wA _), HA.out.2.trans ((bel wA _).mono hkA)⟩ ?_; clear a1 a0 iKA hsA y0 y1 hcall2; rintro wB ⟨hVB, hbB⟩; have b13 : wB.cell? ⟨k, 13, none⟩ = some (.int .i64 0) := hVB.blk.cell 13; have f13 := hVB.blk.frozen 13; have iKB := hVB.blk.lt; have hfin := hVB.bytes_at rn; have HF := Lib.hid (And.intro hfin (hbB.setCell (p := ⟨k, 13, none⟩) (Nat.le_refl _) (.int .i64 rn))); clear hVB hbB hfin; go_wp2_with fail; exact bodyPost_end (v := .tuple #[]) (by simp [results, go_sem]) rfl ⟨rfl, HF.out⟩
   · simp only [if_true] at hby; subst hby; go_wp2_with (go_at_call 48; refine hcall2.mono ?_; rintro e w' ⟨rfl, hb⟩; obtain ⟨pj, rfl⟩ := hb.rest; clear hb)
     exact bodyPost_end (v := .tuple #[]) (by simp [results, go_sem]) rfl ⟨rfl, (HA.out.1.below (bel wA _)).at_, HA.out.2.trans ((bel wA _).mono hkA)⟩
 · have hby := HBY.out; rw [if_neg hK0] at hby; subst hby; have hcall2 : Calls Tryz.prog 48 #[.pointer (some ⟨k, 0, none⟩), .int .i64 rn] wA fun e w' => e = .returned (.pointer none) ∧ Below wA.heap.size wA w' := by
    refine hcall.mono ?_; rintro e w' ⟨⟨bi', off', cap', h1, rfl⟩, h2⟩; refine ⟨?_, h2⟩; unfold placeAt; rw [if_neg hK0]
   clear hcall; go_wp2_with (go_at_call 48; refine hcall2.mono ?_; rintro e w' ⟨rfl, hb⟩; obtain ⟨pj, rfl⟩ := hb.rest; clear hb)
   exact bodyPost_end (v := .tuple #[]) (by simp [results, go_sem]) rfl ⟨rfl, (HA.out.1.below (bel wA _)).at_, HA.out.2.trans ((bel wA _).mono hkA)⟩
theorem VwAt.cut {w : World} {k p : Nat} {c : PCall} {fine : Bool} {L T : List (Int × Int)} {M : List Int} {by_ co go : Int} (h : VwAt w k p c fine L T M by_ co go) :
 VwAt (((w.setCell ⟨k, 11, none⟩ (.slice none 0 0)).setCell ⟨k, 14, none⟩ (.int .i64 0)).setCell ⟨k, 15, none⟩ (.int .i64 0)) k p c fine L [] M by_ 0 0 := by
 obtain ⟨lv, tv, mv, h1, h2, h3, h4⟩ := h
 have k1 := h1.set_ 11 (.slice none 0 0)
 have k2 := k1.set_ 14 (.int .i64 0)
 have k3 := k2.set_ 15 (.int .i64 0)
 refine ⟨lv, .slice none 0 0, mv, ?_, own_set (own_set (own_set h2 h1 (by decide) _ _) k1 (by decide) _ _) k2 (by decide) _ _, World.ownsRow_nil _ k 91 2, own_set (own_set (own_set h4 h1 (by decide) _ _) k1 (by decide) _ _) k2 (by decide) _ _⟩
 simpa [vwCells] using k3
theorem VwAt.rows {w : World} {k p : Nat} {c : PCall} {fine : Bool} {L T : List (Int × Int)} {M : List Int} {by_ co go : Int} (h : VwAt w k p c fine L T M by_ co go) :
 ∃ lv tv mv, Blk w k (vwCells p ⟨c, fine, tv, by_, co, go⟩ lv mv) 62 ∧ RowAt w 2 lv (L.map prCells) ∧ RowAt w 2 tv (T.map prCells) ∧ RowAt w 1 mv (M.map intCells) := by
 obtain ⟨lv, tv, mv, h1, h2, h3, h4⟩ := h
 exact ⟨lv, tv, mv, h1, pairs_at h2, pairs_at h3, ints_at h4⟩
end Go.Proofs.YtjkenolgkkknaaaGreatDoor
