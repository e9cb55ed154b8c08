/- Part of the proof of a law of chapter 15. Conditions: none. -/
import Derived.Test.YtmkapobnfigedaaGreatDoorDp04
import Derived.Test.YtmkapobnfigedaaGreatDoorDp03
set_option linter.unusedVariables false
set_option linter.unusedSimpArgs false
set_option maxRecDepth 100000
set_option maxHeartbeats 8000000
namespace Go.Proofs.YtmkapobnfigedaaGreatDoor
open Go.RowKit
theorem entsB_find (ns : List Int) : ∀ (es : List PEnt) (prev : Option ByteArray) (sl : List Int), entsB ns prev sl es = true → ∀ e ∈ es, 0 ≤ findN ns e.num
 | [], _, _, _, e, he => by simp at he
 | x :: es, prev, sl, h, e, he => by
   unfold entsB at h
   split at h
   · simp at h
   split at h
   · simp at h
   split at h
   · simp at h
   split at h
   · simp at h
   rename_i h4
   rcases List.mem_cons.1 he with rfl | he
   · omega
   · split at h
     · split at h
       · simp at h
       · exact entsB_find ns es _ _ h e he
     · simp at h
theorem mayIns_find {S : PSt} (h : mayInsM S = true) : ∀ x ∈ S.ins, ∀ e ∈ x.ents, 0 ≤ findN S.nums e.num := by
 unfold mayInsM at h
 split at h
 · simp at h
 split at h
 · split at h
   · simp only [Bool.and_eq_true, List.all_eq_true] at h; intro x hx e he; have := h.2 x hx; unfold inB at this
     split at this
     · simp only [Bool.and_eq_true] at this; exact entsB_find _ _ _ _ this.2 e he
     · simp only [Bool.and_eq_true, decide_eq_true_eq] at this; rw [List.eq_nil_of_length_eq_zero this.1] at he; simp at he
   · simp at h
 · simp at h
theorem mayNum_le {made : List Int} {n : Int} (h : mayNumM made n = true) (h8 : made.length ≤ 8) (hm : ∀ m ∈ made, m ≤ 32) : 2 ≤ n ∧ n ≤ 257 := by
 unfold mayNumM at h
 split at h
 · simp at h
 rename_i h2
 split at h
 · rename_i m hm'
   have := hm m (mG hm'); simp only [decide_eq_true_eq] at h; omega
 · simp at h
theorem numsB_len {made : List Int} (h8 : made.length ≤ 8) (hm : ∀ m ∈ made, m ≤ 32) : ∀ (l : List Int) (p : Int), numsB made p l = true → p ≤ 257 → p + l.length ≤ 257
 | [], p, _, hp => by simpa using hp
 | n :: l, p, h, hp => by
   unfold numsB at h
   split at h
   · simp at h
   rename_i h1
   split at h
   · simp at h
   rename_i h2
   have hn : mayNumM made n = true := by simpa using h2
   have := numsB_len h8 hm l n h (mayNum_le hn h8 hm).2; simp only [List.length_cons]; omega
theorem may_len {S : PSt} (h1 : mayMadeM S.made = true) (h2 : mayInsM S = true) : 0 < S.ins.length ∧ S.ins.length ≤ 257 := by
 unfold mayMadeM at h1
 simp only [Bool.and_eq_true, Bool.not_eq_true', Bool.or_eq_false_iff, decide_eq_false_iff_not] at h1
 have hm : ∀ m ∈ S.made, m ≤ 32 := by
  intro m hm; have h3 := h1.2; rw [List.any_eq_false] at h3; have := h3 m hm; unfold badMade at this; simp at this; omega
 unfold mayInsM at h2
 split at h2
 · simp at h2
 rename_i x r hins
 split at h2
 · split at h2
   · simp only [Bool.and_eq_true] at h2; have := numsB_len (by omega) hm _ _ h2.1 (by omega); rw [hins]; simp only [List.length_cons, lM] at this ⊢; omega
   · simp at h2
 · simp at h2
def mayLoop (many : List Int) (found : List Bool) (op : List PDesc) : Nat → List PIn → Bool
 | _, [] => true
 | i, x :: r => if i = 0 then mayLoop many found op (i + 1) r else
   if (x.dir && (!(many.getD i 0 == 1) || !found.getD i false)) = true then false else
   if (!x.dir && (!found.getD i false && (decide (0 < many.getD i 0) || !openM op x.num))) = true then false else mayLoop many found op (i + 1) r
def mayM (S : PSt) : Bool := if (mayMadeM S.made && mayInsM S && mayOpenM S) = true then mayLoop (manyOf S) (foundOf S) S.op 0 S.ins else false
theorem bfs_len (ns : List Int) (ins : List PIn) : ∀ b td fd, (bfs ns ins b td fd).length = fd.length
 | 0, _, _ => rfl
 | _ + 1, [], _ => rfl
 | b + 1, k :: td, fd => by
   show (bfs ns ins b (pushE ns (td, fd) (match ins[k]? with | some x => x.ents | none => [])).1 (pushE ns (td, fd) (match ins[k]? with | some x => x.ents | none => [])).2).length = _; rw [bfs_len, pushE_len]
theorem manyOf_len (S : PSt) : (manyOf S).length = S.ins.length := by unfold manyOf; rw [manyM_len]; simp
theorem foundOf_len (S : PSt) : (foundOf S).length = S.ins.length := by unfold foundOf; rw [bfs_len]; simp
theorem StRead.box {w : World} {iv ov mv : Value} {S : PSt} (h : StRead w iv ov mv S) (t : TypeId) : SP (w.alloc (.cells #[iv, ov, mv] t)) w.heap.size S :=
 ⟨by simp, iv, ov, mv, by go_simp, by go_simp, by go_simp, h.below ((Below.refl _ _).alloc (Nat.le_refl _) _) (Nat.le_refl _)⟩
theorem may37 (iv ov mv : Value) (S : PSt) (w : World) (h : StRead w iv ov mv S) (hwf : S.wf) :
 Calls Tryz.prog 39 #[.agg #[iv, ov, mv]] w fun e w' => e = .returned (.bool (mayM S)) ∧ Below w.heap.size w w' := by
 have hsp := h.box 26
 have H1 : ∀ ww, Below (w.alloc (.cells #[iv, ov, mv] 26)).heap.size (w.alloc (.cells #[iv, ov, mv] 26)) ww → Calls Tryz.prog 68 #[.pointer (some ⟨w.heap.size, 0, none⟩)] ww _ := fun ww hb => mayMade62 _ S ww (hsp.below hb (Nat.le_refl _)) hwf
 have H2 : ∀ ww, Below (w.alloc (.cells #[iv, ov, mv] 26)).heap.size (w.alloc (.cells #[iv, ov, mv] 26)) ww → Calls Tryz.prog 69 #[.pointer (some ⟨w.heap.size, 0, none⟩)] ww _ := fun ww hb => mayIns63 _ S ww (hsp.below hb (Nat.le_refl _)) hwf
 have H3 : ∀ ww, Below (w.alloc (.cells #[iv, ov, mv] 26)).heap.size (w.alloc (.cells #[iv, ov, mv] 26)) ww → Calls Tryz.prog 70 #[.pointer (some ⟨w.heap.size, 0, none⟩)] ww _ := fun ww hb => mayOpen64 _ S ww (hsp.below hb (Nat.le_refl _)) hwf
 have H4 : mayMadeM S.made = true → mayInsM S = true → ∀ ww, Below (w.alloc (.cells #[iv, ov, mv] 26)).heap.size (w.alloc (.cells #[iv, ov, mv] 26)) ww → Calls Tryz.prog 71 #[.pointer (some ⟨w.heap.size, 0, none⟩)] ww fun e w' => ∃ mv fv, e = .returned (.tuple #[mv, fv]) ∧ Below ww.heap.size ww w' ∧ RowAt w' 1 mv ((manyOf S).map intCells) ∧ RowAt w' 1 fv ((foundOf S).map boolCells) :=
  fun h1 h2 ww hb => reached65 _ S ww (hsp.below hb (Nat.le_refl _)) hwf (may_len h1 h2).1 (by have := (may_len h1 h2).2; omega) (mayIns_find h2)
 have h1 := h.1.one
 have h2 := h.2.1.one
 have h3 : iv.oneCell' = true := by obtain ⟨_, _, _, h3, _⟩ := h; exact h3.one
 have HL := Lib.hid (And.intro (manyOf_len S) (foundOf_len S))
 unfold mayM
 generalize hm1 : mayMadeM S.made = m1 at *
 generalize hm2 : mayInsM S = m2 at *
 generalize mayOpenM S = m3 at *
 rcases m1 with _ | _
 · clear hsp h hwf H2 H3 H4
   go_enter Tryz.func39, Tryz.ntmps39
   go_wp2_with ((go_at_call 68; refine aT (H1 _ (bel (w.alloc (.cells #[iv, ov, mv] 26)) _)) fun p => ?_))
   go_ret; exact ⟨rfl, bel _ _⟩
 rcases m2 with _ | _
 · clear hsp h hwf H3 H4
   go_enter Tryz.func39, Tryz.ntmps39
   go_wp2_with (first | (go_at_call 68; refine aT (H1 _ (bel (w.alloc (.cells #[iv, ov, mv] 26)) _)) fun p => ?_) | (go_at_call 69; refine aT (H2 _ (bel (w.alloc (.cells #[iv, ov, mv] 26)) _)) fun p => ?_))
   go_ret; exact ⟨rfl, bel _ _⟩
 rcases m3 with _ | _
 · clear hsp h hwf H4
   go_enter Tryz.func39, Tryz.ntmps39
   go_wp2_with (first | (go_at_call 68; refine aT (H1 _ (bel (w.alloc (.cells #[iv, ov, mv] 26)) _)) fun p => ?_) | (go_at_call 69; refine aT (H2 _ (bel (w.alloc (.cells #[iv, ov, mv] 26)) _)) fun p => ?_) | (go_at_call 70; refine aT (H3 _ (bel (w.alloc (.cells #[iv, ov, mv] 26)) _)) fun p => ?_))
   go_ret; exact ⟨rfl, bel _ _⟩
 simp only [Bool.and_self, if_true]
 have H5 : ∀ ww, Below (w.alloc (.cells #[iv, ov, mv] 26)).heap.size (w.alloc (.cells #[iv, ov, mv] 26)) ww → ∀ n, Calls Tryz.prog 72 #[.pointer (some ⟨w.heap.size, 0, none⟩), .int .i64 n] ww fun e w' => e = .returned (.bool (openM S.op n)) ∧ Below ww.heap.size ww w' := fun ww hb n => open66 _ S n ww (hsp.below hb (Nat.le_refl _)) hwf
 have h4 := H4 rfl rfl
 have hlen := hwf.1
 have HB := Lib.hid h
 clear H4 h hwf hm1 hm2
 obtain ⟨R, hR⟩ : ∃ R, mayLoop (manyOf S) (foundOf S) S.op 0 S.ins = R := ⟨_, rfl⟩
 rw [hR]
 have HR := Lib.hid hR
 clear hR
 go_enter Tryz.func39, Tryz.ntmps39
 go_wp2_with (first | (go_at_call 68; refine aT (H1 _ (bel (w.alloc (.cells #[iv, ov, mv] 26)) _)) fun p => ?_) | (go_at_call 69; refine aT (H2 _ (bel (w.alloc (.cells #[iv, ov, mv] 26)) _)) fun p => ?_) | (go_at_call 70; refine aT (H3 _ (bel (w.alloc (.cells #[iv, ov, mv] 26)) _)) fun p => ?_) | (go_at_call 71; refine (h4 _ (bel (w.alloc (.cells #[iv, ov, mv] 26)) _)).mono ?_; rintro e wz ⟨mv', fv', rfl, hbz, hr1, hr2⟩; have hbz' := (bel (w.alloc (.cells #[iv, ov, mv] 26)) _).trans (hbz.mono (bel (w.alloc (.cells #[iv, ov, mv] 26)) _).size); have hbw : Below w.heap.size w wz := ((Below.refl _ _).alloc (Nat.le_refl _) _).trans (hbz'.mono (by simp)); obtain ⟨hlz, ivz, ovz, mvz, z0, z1, z2, hrz⟩ := hsp.below hbz' (Nat.le_refl _); obtain ⟨ai, capi, rfl, hati⟩ := hrz.ins_at2; have HI := Lib.hid (And.intro hati (And.intro hbz' hbw)); obtain ⟨am, cm, rfl, hmat⟩ := hr1.at_; obtain ⟨af, cf, rfl, hfat⟩ := hr2.at_; have HM := Lib.hid (And.intro hmat hfat); rw [lM, lM, HL.out.1, HL.out.2]; clear hbz hbz' hrz hati hr1 hr2 hmat hfat hbw z1 z2; have iZ : BlockLt w.heap.size wz := ⟨hlz⟩))
 go_loopw [24] (fun i wr => ∃ (q : Nat), i = .int .i64 q ∧ q ≤ S.ins.length ∧ mayLoop (manyOf S) (foundOf S) S.op q (S.ins.drop q) = R ∧ Below wz.heap.size wz wr) (fun i _ => (S.ins.length - intOf i).toNat)
 case atStart => exact ⟨0, rfl, by omega, HR.out, bel _ _⟩
 case round =>
  obtain ⟨q, rfl, hq, hre, hbr⟩ := hrel; have iBz : Bel wz wr := ⟨hbr⟩
  have hbw : Below w.heap.size w wr := HI.out.2.2.trans (hbr.mono HI.out.2.2.size); have iBw : Bel w wr := ⟨hbw⟩
  have iZr : BlockLt w.heap.size wr := ⟨by have := hbr.size; have := iZ.lt; omega⟩
  by_cases hlt : q < S.ins.length
  · obtain ⟨x, hx⟩ : ∃ x, S.ins[q]? = some x := ⟨_, gE hlt⟩
    rw [drop_at hx] at hre; unfold mayLoop at hre; obtain ⟨bi, offi, ev1, rfl, iG0, ho1, hev, hcl⟩ := HI.out.1 q x hx; obtain ⟨iGr, y0, y1, y2, y3⟩ := hcl wr hbr; obtain ⟨mq, hmq⟩ : ∃ mq, (manyOf S)[q]? = some mq := ⟨_, gE (by have := HL.out.1; omega)⟩
    obtain ⟨fq, hfq⟩ : ∃ fq, (foundOf S)[q]? = some fq := ⟨_, gE (by have := HL.out.2; omega)⟩
    obtain ⟨bm, offm, rfl, iM0, iMr, hcm⟩ := HM.out.1 wr hbr q (intCells mq) (by rw [gM, hmq]; rfl); obtain ⟨bf, offf, rfl, iF0, iFr, hcf⟩ := HM.out.2 wr hbr q (boolCells fq) (by rw [gM, hfq]; rfl); have m0 := hcm 0 _ rfl; have f0 := hcf 0 _ rfl; rw [Nat.mul_one, Nat.add_zero] at m0 f0; rw [List.getD_eq_getElem?_getD, List.getD_eq_getElem?_getD, hmq, hfq, Option.getD_some, Option.getD_some] at hre; have hop : ∀ ww, Below wr.heap.size wr ww → Calls Tryz.prog 72 #[.pointer (some ⟨w.heap.size, 0, none⟩), .int .i64 x.num] ww _ := fun ww hww => H5 ww (HI.out.2.1.trans ((hbr.trans (hww.mono hbr.size)).mono HI.out.2.1.size)) x.num
    generalize openM S.op x.num = ob at hop hre; have hqI : (q : Int) < S.ins.length := by omega
    obtain ⟨ae, ce, rfl, -⟩ := hev; rw [lM] at y2; clear hx hcl hcm hcf hmq hfq H5 H1 H2 H3 h4 hsp; by_cases hq0 : q = 0
    · have hq0I : (q : Int) = 0 := by omega
      rw [if_pos hq0] at hre; have HRE := Lib.hid hre; clear hre hqI hq0I; subst hq0; simp only [Nat.zero_mul, Nat.add_zero] at y0 y1 y2 y3; go_wp2_with fail
      go_roundw
      case rel => exact ⟨1, rfl, by omega, HRE.out, bel _ _⟩
      case measure => simp [intOf]; omega
    · rw [if_neg hq0] at hre; have hqb : ((q : Int) == 0) = false := by simpa using hq0
      have hqb2 : (q == 0) = false := by simpa using hq0
      generalize x.dir = d at hre y1; rcases d with _ | _
      · simp only [Bool.false_and, Bool.false_eq_true, if_false, Bool.not_false, Bool.true_and] at hre; rcases fq with _ | _
        · simp only [Bool.not_false, Bool.true_and] at hre; by_cases hm : 0 < mq
          · have hmb : decide (0 < mq) = true := decide_eq_true hm; rw [hmb] at hre; simp only [Bool.true_or, if_true] at hre; subst hre; go_wp2_with fail; exact bodyPost_ret (v := .bool false) (by simp [results, Tryz.results39, go_sem]) rfl ⟨rfl, bel _ _⟩
          · have hmb : decide (0 < mq) = false := decide_eq_false hm; rw [hmb, Bool.false_or] at hre; rcases ob with _ | _
            · simp only [Bool.not_false, if_true] at hre; subst hre; go_wp2_with ((go_at_call 72; refine aT (hop _ (bel _ _)) fun p => ?_))
              exact bodyPost_ret (v := .bool false) (by simp [results, Tryz.results39, go_sem]) rfl ⟨rfl, bel _ _⟩
            · simp only [Bool.not_true, Bool.false_eq_true, if_false] at hre; have HRE := Lib.hid hre; clear hre; go_wp2_with ((go_at_call 72; refine aT (hop _ (bel _ _)) fun p => ?_))
              go_roundw
              case rel => exact ⟨q + 1, by go_num, by omega, HRE.out, bel _ _⟩
              case measure => simp [intOf]; omega
        · simp only [Bool.not_true, Bool.false_and, Bool.false_eq_true, if_false] at hre; have HRE := Lib.hid hre; clear hre; go_wp2_with fail
          go_roundw
          case rel => exact ⟨q + 1, by go_num, by omega, HRE.out, bel _ _⟩
          case measure => simp [intOf]; omega
      · simp only [Bool.true_and, Bool.not_true, Bool.false_and, Bool.false_eq_true, if_false] at hre; by_cases hm : mq = 1
        · have hmb : (mq == 1) = true := by simpa using hm
          rw [hmb] at hre; rcases fq with _ | _
          · simp only [Bool.not_true, Bool.not_false, Bool.false_or, if_true] at hre; subst hre; subst hm; go_wp2_with fail; exact bodyPost_ret (v := .bool false) (by simp [results, Tryz.results39, go_sem]) rfl ⟨rfl, bel _ _⟩
          · simp only [Bool.not_true, Bool.false_or, Bool.false_eq_true, if_false] at hre; have HRE := Lib.hid hre; clear hre; subst hm; go_wp2_with fail
            go_roundw
            case rel => exact ⟨q + 1, by go_num, by omega, HRE.out, bel _ _⟩
            case measure => simp [intOf]; omega
        · have hmb : (mq == 1) = false := by simpa using hm
          rw [hmb] at hre; simp only [Bool.not_false, Bool.true_or, if_true] at hre; subst hre; go_wp2_with fail; exact bodyPost_ret (v := .bool false) (by simp [results, Tryz.results39, go_sem]) rfl ⟨rfl, bel _ _⟩
  · rw [List.drop_of_length_le (by omega)] at hre; have hRt : R = true := by rw [← hre]; rfl
    subst hRt; clear hre; go_wp2_with fail; exact bodyPost_ret (v := .bool true) (by simp [results, Tryz.results39, go_sem]) rfl ⟨rfl, bel _ _⟩
structure PCall where
 kind : Int
 core : Int
 fd : Int
 off : Int
 num : Int
 path : ByteArray
 path2 : ByteArray
 data : ByteArray
deriving DecidableEq
def PCall.cells (c : PCall) : List Value := [.int .i64 c.kind, .int .i64 c.core, .int .i64 c.fd, .int .i64 c.off, .int .i64 c.num, .string c.path, .string c.path2, .string c.data]
def PCall.val (c : PCall) : Value := .agg #[.int .i64 c.kind, .int .i64 c.core, .int .i64 c.fd, .int .i64 c.off, .int .i64 c.num, .string c.path, .string c.path2, .string c.data]
def PCall.wf (c : PCall) : Prop := I64 c.kind ∧ I64 c.core ∧ I64 c.fd ∧ I64 c.off ∧ I64 c.num
structure DR (w : World) (d b : Nat) (S : PSt) (c : PCall) : Prop where
 lt : d < w.heap.size
 d0 : w.cell? ⟨d, 0, none⟩ = some (.pointer (some ⟨b, 0, none⟩))
 dc : ∀ (t : Nat) (u : Value), c.cells[t]? = some u → w.cell? ⟨d, 1 + t, none⟩ = some u
 sp : SP w b S
theorem DR.below {w w' : World} {d b B : Nat} {S : PSt} {c : PCall} (h : DR w d b S c) (hb : Below B w w') (hB : w.heap.size ≤ B) : DR w' d b S c := by
 have hs := hb.size
 have hl := h.lt
 exact ⟨by omega, (hb.cell (p := ⟨d, 0, none⟩) (by show d < B; omega)).trans h.d0, fun t u hu => (hb.cell (p := ⟨d, 1 + t, none⟩) (by show d < B; omega)).trans (h.dc t u hu), h.sp.below hb hB⟩
structure Fine (S : PSt) : Prop where
 wf : S.wf
 pos : 0 < S.ins.length
 find : ∀ x ∈ S.ins, ∀ e ∈ x.ents, 0 ≤ findN S.nums e.num
 opens : ∀ d ∈ S.op, 0 ≤ findN S.nums d.num
theorem descB_find (S : PSt) : ∀ (ds : List PDesc) (p : Option PDesc), descB S p ds = true → ∀ d ∈ ds, 0 ≤ findN S.nums d.num
 | [], _, _, d, hd => by simp at hd
 | x :: ds, p, h, d, hd => by
   unfold descB at h
   split at h
   · simp at h
   split at h
   · simp at h
   split at h
   · simp at h
   split at h
   · simp at h
   split at h
   · simp at h
   split at h
   · simp at h
   rename_i h6
   rcases List.mem_cons.1 hd with rfl | hd
   · omega
   · split at h
     · split at h
       · simp at h
       · exact descB_find S ds _ h d hd
     · simp at h
theorem fine_of_may {S : PSt} (hwf : S.wf) (h : mayM S = true) : Fine S := by
 unfold mayM at h
 split at h
 · rename_i h1
   simp only [Bool.and_eq_true] at h1; exact ⟨hwf, (may_len h1.1.1 h1.1.2).1, mayIns_find h1.1.2, descB_find S _ _ h1.2⟩
 · simp at h
theorem walkM_lt {S : PSt} (hf : Fine S) : ∀ (ns : List ByteArray) (k : Nat), k < S.ins.length → (walkM S k ns).1 < S.ins.length
 | [], k, hk => hk
 | n :: r, k, hk => by
   unfold walkM; rw [gE hk]; simp only
   split
   · split
     · split
       · rename_i e he
         have h0 := hf.find S.ins[k] (List.getElem_mem hk) e (mG he); have hb := findN_bounds S.nums e.num; have hnl : S.nums.length = S.ins.length := by unfold PSt.nums; rw [lM]
         exact walkM_lt hf r _ (by omega)
       · exact hf.pos
     · exact hf.pos
   · exact hf.pos
def AtOut (w : World) (b : Nat) (S : PSt) (K : Nat) (C : Int) (e : Ending) : Prop :=
 (C = 0 ∧ ∃ bi off cap, w.cell? ⟨b, 0, none⟩ = some (.slice (some ⟨bi, off, none⟩) S.ins.length cap) ∧ e = .returned (.pointer (some ⟨bi, off + K * 4, none⟩))) ∨ (C ≠ 0 ∧ e = thrown C)
theorem at122 (d b : Nat) (S : PSt) (c : PCall) (s : ByteArray) (w : World) (h : DR w d b S c) (hf : Fine S) (hp : (parseM s).1 = 0) (hpl : (parseM s).2.length ≤ 1000000000) :
 Calls Tryz.prog 178 #[.pointer (some ⟨d, 0, none⟩), .string s] w fun e w' => Below w.heap.size w w' ∧ AtOut w b S (walkM S 0 (parseM s).2).1 (walkM S 0 (parseM s).2).2 e := by
 have hpar : ∀ ww, Calls Tryz.prog 198 #[.string s] ww fun e w' => ∃ v, e = .returned v ∧ Below ww.heap.size ww w' ∧ RowAt w' 1 v ((parseM s).2.map fun n => [.string n]) := fun ww => by
  refine (parse150 s ww).mono ?_; intro e w' h; rcases h with ⟨_, v, h1, h2, h3⟩ | ⟨h, _⟩
  · exact ⟨v, h1, h2, h3⟩
  · exact absurd hp h
 have hwk : ∀ ww v, Below w.heap.size w ww → RowAt ww 1 v ((parseM s).2.map fun n => [.string n]) → Calls Tryz.prog 191 #[.pointer (some ⟨b, 0, none⟩), v] ww _ := fun ww v hb hv => walk151 b S (parseM s).2 v ww (h.sp.below hb (Nat.le_refl _)) hf.wf hf.pos hf.find hv hpl
 have hlt := walkM_lt hf (parseM s).2 0 hf.pos
 have hd0 := h.d0
 have iD : BlockLt d w := ⟨h.lt⟩
 obtain ⟨hl, iv, ov, mv, c0, c1, c2, hr⟩ := h.sp
 have iL : BlockLt b w := ⟨hl⟩
 obtain ⟨ai, capi, rfl, hati⟩ := hr.ins_at2
 obtain ⟨bi, offi, ev, rfl, -⟩ := hati 0 S.ins[0] (gE hf.pos)
 generalize walkM S 0 (parseM s).2 = W at hwk hlt ⊢
 obtain ⟨K, C⟩ := W
 simp only at hwk hlt ⊢
 have HP := Lib.hid (And.intro hpar hwk)
 have hlen := hf.wf.1
 clear hpar hwk h hr hati c1 c2 hp hpl
 have hKI : (K : Int) < S.ins.length := by omega
 go_enter Tryz.func178, Tryz.ntmps178
 go_upto_region 1 with fail
 refine wp_region_eff [5, 6] false (fun w' => w'.cell? ⟨d, 0, none⟩ = some (.pointer (some ⟨b, 0, none⟩))) (by kernel_rfl) (by kernel_rfl) ?_ ?_
 · go_simp
 repeat
  refine wpL_look rfl rfl ?_; apply Exists.intro; refine ⟨?_, ?_⟩
  focus
   rintro w' s0; go_simp
   first | done | rfl
  simp only [Act.put, sA, sZ, sS]
 refine wpL_act rfl rfl ?_
 refine eff_call 198 #[.string s] ?hr ?_
 case hr =>
  go_simp
  first | done | rfl
 refine (HP.out.1 w.drew).mono ?_
 rintro e w1 ⟨v, rfl, hb1, hv1⟩
 have hbw : Below w.heap.size w w1 := (bel w w.drew).trans hb1
 have iB1 : Bel w w1 := ⟨hbw⟩
 have iD1 : BlockLt d w1 := ⟨by have := hbw.size; have := iD.lt; omega⟩
 have x0 : w1.cell? ⟨d, 0, none⟩ = some (.pointer (some ⟨b, 0, none⟩)) := (hbw.cell (p := ⟨d, 0, none⟩) iD.lt).trans hd0
 have hone := hv1.one
 refine ⟨_, rfl, .inl x0, ?_⟩
 simp only [Act.put, sA, sZ, sS]
 refine wpL_act rfl rfl ?_
 refine eff_call 191 #[.pointer (some ⟨b, 0, none⟩), v] ?hr2 ?_
 case hr2 =>
  go_simp
  first | done | rfl
 refine (HP.out.2 w1 v hbw hv1).mono ?_
 rintro e w2 ⟨rfl, hb2⟩
 have hbw2 : Below w.heap.size w w2 := hbw.trans (hb2.mono hbw.size)
 have iB2 : Bel w w2 := ⟨hbw2⟩
 have iD2 : BlockLt d w2 := ⟨by have := hbw2.size; have := iD.lt; omega⟩
 have iL2 : BlockLt b w2 := ⟨by have := hbw2.size; have := iL.lt; omega⟩
 have y0 : w2.cell? ⟨d, 0, none⟩ = some (.pointer (some ⟨b, 0, none⟩)) := (hbw2.cell (p := ⟨d, 0, none⟩) iD.lt).trans hd0
 have z0 : w2.cell? ⟨b, 0, none⟩ = some (.slice (some ⟨bi, offi, none⟩) S.ins.length capi) := (hbw2.cell (p := ⟨b, 0, none⟩) iL.lt).trans c0
 have HC0 := Lib.hid c0
 clear hv1 hb1 hb2 c0
 refine ⟨_, rfl, .inl y0, ?_⟩
 simp only [Act.put, sA, sZ, sS]
 repeat
  refine wpL_look rfl rfl ?_; apply Exists.intro; refine ⟨?_, ?_⟩
  focus
   rintro w' s0; go_simp
   first | done | rfl
  simp only [Act.put, sA, sZ, sS]
 refine wpL_end ?_
 by_cases hC : C = 0
 · subst hC; go_wp2_with ((go_at_call 172; refine aT (throw_no _ _) fun p => ?_))
   go_ret; exact ⟨bel w _, .inl ⟨rfl, _, _, _, HC0.out, rfl⟩⟩
 · have hcb : (C != 0) = true := by simpa using hC
   go_wp2_with ((go_at_call 172; refine aE (throw_yes _ _) fun p => ?_))
   exact ⟨rfl, bel w _, .inr ⟨hC, rfl⟩⟩
def maycM (S : PSt) (c : PCall) : Bool := decide (0 ≤ c.kind) && decide (c.kind ≤ 16) && decide (0 ≤ c.core) && decide (c.core < S.made.length) && mayM S
theorem may38 (b k : Nat) (S : PSt) (c : PCall) (w : World) (h : SP w b S) (hwf : S.wf) (hk : k < w.heap.size) (hc : ∀ (t : Nat) (u : Value), c.cells[t]? = some u → w.cell? ⟨k, t, none⟩ = some u) :
 Calls Tryz.prog 105 #[.pointer (some ⟨b, 0, none⟩), .pointer (some ⟨k, 0, none⟩)] w fun e w' => e = .returned (.bool (maycM S c)) ∧ Below w.heap.size w w' := by
 have iK : BlockLt k w := ⟨hk⟩
 have k0 := hc 0 _ rfl
 have k1 := hc 1 _ rfl
 obtain ⟨hl, iv, ov, mv, c0, c1, c2, hr⟩ := h
 have iL : BlockLt b w := ⟨hl⟩
 have hmay : ∀ ww, Below w.heap.size w ww → Calls Tryz.prog 39 #[.agg #[iv, ov, mv]] ww _ := fun ww hb => may37 iv ov mv S ww (hr.below hb (Nat.le_refl _)) hwf
 have hio : iv.oneCell' = true := by obtain ⟨_, _, _, h3, _⟩ := hr; exact h3.one
 have hoo := hr.1.one
 obtain ⟨am, cm, rfl, -⟩ := hr.2.1
 rw [lM] at c2 hmay
 unfold maycM
 generalize mayM S = M at hmay ⊢
 clear hr hc hwf
 by_cases g1 : 0 ≤ c.kind
 · have b1 : decide (0 ≤ c.kind) = true := decide_eq_true g1; by_cases g2 : c.kind ≤ 16
   · have b2 : decide (c.kind ≤ 16) = true := decide_eq_true g2; by_cases g3 : 0 ≤ c.core
     · have b3 : decide (0 ≤ c.core) = true := decide_eq_true g3; by_cases g4 : c.core < S.made.length
       · have b4 : decide (c.core < (S.made.length : Int)) = true := decide_eq_true g4; simp only [b1, b2, b3, b4, Bool.true_and]
         go_enter Tryz.func105, Tryz.ntmps105
         go_wp2_with fail; refine wp_region_quiet_rest (by kernel_rfl) (by kernel_rfl) ?_
         repeat
          first
           | go_big_quiet_skip
           | (go_big_quiet_want; go_big_quiet_op; first | go_big_quiet_on | (apply Exists.intro; refine ⟨fun _ => ?_, ?_⟩; (focus ((first | refine cI (hmay _ (bel _ _)) | refine cJ (hmay _ (bel _ _))))); go_big_quiet_on))
         refine QN fun p => ?_; go_wp2_with fail; go_ret; exact ⟨rfl, bel _ _⟩
       · have b4 : decide (c.core < (S.made.length : Int)) = false := decide_eq_false g4; simp only [b1, b2, b3, b4, Bool.true_and, Bool.false_and]
         go_enter Tryz.func105, Tryz.ntmps105
         go_wp2_with fail; refine wp_region_quiet_rest (by kernel_rfl) (by kernel_rfl) ?_
         repeat
          first
           | go_big_quiet_skip
           | (go_big_quiet_want; go_big_quiet_op; first | go_big_quiet_on | (apply Exists.intro; refine ⟨fun _ => ?_, ?_⟩; (focus (fail)); go_big_quiet_on))
         refine QN fun p => ?_; go_wp2_with fail; go_ret; exact ⟨rfl, bel _ _⟩
     · have b3 : decide (0 ≤ c.core) = false := decide_eq_false g3; simp only [b1, b2, b3, Bool.true_and, Bool.false_and]
       go_enter Tryz.func105, Tryz.ntmps105
       go_wp2_with fail; refine wp_region_quiet_rest (by kernel_rfl) (by kernel_rfl) ?_
       repeat
        first
         | go_big_quiet_skip
         | (go_big_quiet_want; go_big_quiet_op; first | go_big_quiet_on | (apply Exists.intro; refine ⟨fun _ => ?_, ?_⟩; (focus (fail)); go_big_quiet_on))
       refine QN fun p => ?_; go_wp2_with fail; go_ret; exact ⟨rfl, bel _ _⟩
   · have b2 : decide (c.kind ≤ 16) = false := decide_eq_false g2; simp only [b1, b2, Bool.true_and, Bool.false_and]
     go_enter Tryz.func105, Tryz.ntmps105
     go_wp2_with fail; refine wp_region_quiet_rest (by kernel_rfl) (by kernel_rfl) ?_
     repeat
      first
       | go_big_quiet_skip
       | (go_big_quiet_want; go_big_quiet_op; first | go_big_quiet_on | (apply Exists.intro; refine ⟨fun _ => ?_, ?_⟩; (focus (fail)); go_big_quiet_on))
     refine QN fun p => ?_; go_wp2_with fail; go_ret; exact ⟨rfl, bel _ _⟩
 · have b1 : decide (0 ≤ c.kind) = false := decide_eq_false g1; simp only [b1, Bool.false_and]
   go_enter Tryz.func105, Tryz.ntmps105
   go_wp2_with fail; refine wp_region_quiet_rest (by kernel_rfl) (by kernel_rfl) ?_
   repeat
    first
     | go_big_quiet_skip
     | (go_big_quiet_want; go_big_quiet_op; first | go_big_quiet_on | (apply Exists.intro; refine ⟨fun _ => ?_, ?_⟩; (focus (fail)); go_big_quiet_on))
   refine QN fun p => ?_; go_wp2_with fail; go_ret; exact ⟨rfl, bel _ _⟩
end Go.Proofs.YtmkapobnfigedaaGreatDoor
