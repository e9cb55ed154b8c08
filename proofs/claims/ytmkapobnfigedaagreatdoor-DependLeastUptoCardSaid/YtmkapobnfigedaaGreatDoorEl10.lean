/- May of the model: a directory's entries. Conditions: none. -/
import Derived.Test.YtmkapobnfigedaaGreatDoorEl09
set_option linter.unusedVariables false
set_option linter.unusedSimpArgs false
namespace Go.Proofs.YtmkapobnfigedaaGreatDoor
open Go.RowKit
def cmpN (ns : List Int) (n : Int) (q : Nat) : Int := match ns[q]? with | some x => cmpM x n | none => 0
def bsN (ns : List Int) (n : Int) : Nat := bsFrom (cmpN ns n) ns.length 0 ns.length
def findN (ns : List Int) (n : Int) : Int := if (decide (bsN ns n < ns.length) && (cmpN ns n (bsN ns n) == 0)) = true then (bsN ns n : Int) else -1
theorem find_num (is : List IRec) (n : Int) : findM is n = findN (is.map IRec.num) n := by
 have hc : cmpAt is n = cmpN (is.map IRec.num) n := by
  funext q
  unfold cmpAt cmpN; rw [List.getElem?_map]; cases is[q]? <;> rfl
 unfold findM findN bsHit bsN
 rw [hc]
 unfold bsM
 rw [hc, List.length_map]
theorem findN_bounds (ns : List Int) (n : Int) : findN ns n = -1 ∨ (0 ≤ findN ns n ∧ findN ns n < ns.length) := by
 unfold findN
 by_cases h : (decide (bsN ns n < ns.length) && (cmpN ns n (bsN ns n) == 0)) = true
 · rw [if_pos h]; simp at h; right; omega
 · rw [if_neg h]; exact .inl rfl
def PSt.nums (S : PSt) : List Int := S.ins.map PIn.num
theorem find_sp (b : Nat) (S : PSt) (n : Int) (w : World) (h : SP w b S) (hwf : S.wf) :
 Calls Tryz.prog 102 #[.pointer (some ⟨b, 0, none⟩), .int .i64 n] w fun e w' => e = .returned (.int .i64 (findN S.nums n)) ∧ Below w.heap.size w w' := by
 obtain ⟨hl, iv, ov, mv, c0, c1, c2, _, _, is, h3, h4, h5⟩ := h
 have hn : is.map IRec.num = S.nums := by
  apply List.ext_getElem?; intro q; rw [PSt.nums, List.getElem?_map, List.getElem?_map]; by_cases hq : q < is.length
  · have hq2 : q < S.ins.length := by omega
    have := (h5 q is[q] S.ins[q] (List.getElem?_eq_getElem hq) (List.getElem?_eq_getElem hq2)).1; rw [List.getElem?_eq_getElem hq, List.getElem?_eq_getElem hq2]; simp [this]
  · rw [List.getElem?_eq_none (by omega), List.getElem?_eq_none (by omega)]; rfl
 rw [← hn, ← find_num]
 exact find110 is b 0 iv n w ⟨hl⟩ c0 h3 (by have := hwf.1; omega)
theorem drop_at {α : Type} {zs : List α} {q : Nat} {z : α} (h : zs[q]? = some z) : zs.drop q = z :: zs.drop (q + 1) := by
 obtain ⟨hlt, rfl⟩ := List.getElem?_eq_some_iff.1 h
 exact List.drop_eq_getElem_cons hlt
def prevBad (prev : Option ByteArray) (s : ByteArray) : Bool := match prev with | some p => !Op.bytesLess p.toList s.toList | none => false
def entsB (ns : List Int) : Option ByteArray → List Int → List PEnt → Bool
 | _, _, [] => true
 | prev, sl, e :: r =>
   if nameB e.name = false then false else if prevBad prev e.name = true then false else if e.num = 1 then false else if findN ns e.num < 0 then false else
   match sl[(bucketM e.name).toNat]? with
   | some x => if 4 < x + 1 then false else entsB ns (some e.name) (sl.set (bucketM e.name).toNat (x + 1)) r
   | none => false
def mayEntsM (ns : List Int) (es : List PEnt) : Bool := entsB ns none [0, 0, 0, 0, 0, 0, 0, 0] es
theorem bucketM_lt (s : ByteArray) : 0 ≤ bucketM s ∧ bucketM s < 8 := by unfold bucketM; omega
def prevOf (es : List PEnt) (q : Nat) : Option ByteArray := if q = 0 then none else (es[q - 1]?).map PEnt.name
set_option maxRecDepth 100000 in
set_option maxHeartbeats 4000000 in
theorem mayEnts109 (b : Nat) (S : PSt) (es : List PEnt) (v : Value) (w : World) (h : SP w b S) (hwf : S.wf) (he : RowAt w 2 v (es.map PEnt.cells)) (hlen : es.length ≤ 1000000000) :
 Calls Tryz.prog 101 #[.pointer (some ⟨b, 0, none⟩), v] w fun e w' => e = .returned (.bool (mayEntsM S.nums es)) ∧ Below w.heap.size w w' := by
 have hf : ∀ ww, Below w.heap.size w ww → ∀ n, Calls Tryz.prog 102 #[.pointer (some ⟨b, 0, none⟩), .int .i64 n] ww fun e w' => e = .returned (.int .i64 (findN S.nums n)) ∧ Below ww.heap.size ww w' :=
  fun ww hb n => find_sp b S n ww (h.below hb (Nat.le_refl _)) hwf
 have ib : BlockLt b w := ⟨h.1⟩
 obtain ⟨a, cap, rfl, hat⟩ := he.at_
 have HA := Lib.hid hat
 clear h hwf he hat
 rw [List.length_map]
 generalize S.nums = ns at hf ⊢
 unfold mayEntsM
 obtain ⟨R, hR⟩ : ∃ R, entsB ns none [0, 0, 0, 0, 0, 0, 0, 0] es = R := ⟨_, rfl⟩
 rw [hR]
 have HR := Lib.hid hR
 clear hR
 go_enter Tryz.func101, Tryz.ntmps101
 go_wp2_with fail
 go_loopw [11] (fun i wr => ∃ (q : Nat) (sl : List Int), i = .int .i64 q ∧ q ≤ es.length ∧ sl.length = 8 ∧ (∀ (k : Nat) (x : Int), sl[k]? = some x → 0 ≤ x ∧ x ≤ 4) ∧ entsB ns (prevOf es q) sl (es.drop q) = R ∧ Below w.heap.size w wr ∧ Blk wr w.heap.size (sl.map fun x => .int .i64 x).toArray 158) (fun i _ => (es.length - intOf i).toNat)
 case atStart =>
  refine ⟨0, [0, 0, 0, 0, 0, 0, 0, 0], rfl, by omega, rfl, ?_, HR.out, bel _ _, ?_⟩
  · intro k x hk; have := List.mem_of_getElem? hk; simp at this; omega
  · exact Blk.new w _ 158
 case round =>
  obtain ⟨q, sl, rfl, hq, hsl, hsb, hre, hb, hblk⟩ := hrel; have iB : Bel w wr := ⟨hb⟩
  by_cases hlt : q < es.length
  · obtain ⟨z, hz⟩ : ∃ z, es[q]? = some z := ⟨_, List.getElem?_eq_getElem hlt⟩
    obtain ⟨b1, off, rfl, iG0, iG, hc⟩ := HA.out wr hb q z.cells (by rw [List.getElem?_map, hz]; rfl); have c0 := hc 0 _ rfl; have c1 := hc 1 _ rfl; rw [Nat.add_zero] at c0; have iL : BlockLt w.heap.size wr := hblk.lt; have iL0 : BlockLt b wr := ⟨by have := hb.size; have := ib.lt; omega⟩
    rw [drop_at hz] at hre; unfold entsB at hre; have hnm : ∀ ww, Calls Tryz.prog 132 #[.string z.name] ww _ := fun ww => may148 z.name ww
    have hbk : ∀ ww, Calls Tryz.prog 133 #[.string z.name] ww _ := fun ww => bucket137 z.name ww
    have hfn : ∀ ww, Below w.heap.size w ww → Calls Tryz.prog 102 #[.pointer (some ⟨b, 0, none⟩), .int .i64 z.num] ww fun e w' => e = .returned (.int .i64 (findN ns z.num)) ∧ Below ww.heap.size ww w' := fun ww hww => hf ww hww z.num
    have HZ := Lib.hid hz; have HB := Lib.hid hblk; have HS := Lib.hid (And.intro hsl hsb); clear hc hz hf hblk hsl hsb; by_cases hn : nameB z.name = false
    · rw [hn] at hnm; rw [if_pos hn] at hre; subst hre; clear hn; go_wp2_with fail; refine wp_region_quiet_rest (by kernel_rfl) (by kernel_rfl) (WQ.out ?_)
      repeat
       refine WQ_step (fun K hK => ?_); go_simp
       first
        | (refine hK _ ?_; clear hK K)
        | (apply Exists.intro
           refine ⟨fun _ => ?_, hK _ ?_⟩
           focus (first | (refine calls_in (hnm _) (fun w' hb => ?_); first | exact hb.rest | exact rest1 hb | exact rest2 hb) | (refine calls_in (hfn _ (bel _ _)) (fun w' hb => ?_); first | exact hb.rest | exact rest1 hb | exact rest2 hb))
           clear hK K)
      refine WQ_nil ?_; intro w1 hw1; obtain ⟨p, hw1⟩ := hw1; subst hw1; go_wp2_with fail; exact bodyPost_ret (v := .bool false) (by simp [results, Tryz.results101, go_sem]) rfl ⟨rfl, bel _ _⟩
    · have hn : nameB z.name = true := by simpa using hn
      rw [hn] at hnm; rw [hn, if_neg (by decide)] at hre; have HN := Lib.hid hn; clear hn; have hpv : q = 0 ∧ prevOf es q = none ∨ ∃ (k : Nat) (y : PEnt), q = k + 1 ∧ es[k]? = some y ∧ prevOf es q = some y.name := by
       by_cases hq0 : q = 0
       · exact .inl ⟨hq0, by simp [prevOf, hq0]⟩
       · have hk : q - 1 < es.length := by omega
         refine .inr ⟨q - 1, es[q - 1], by omega, List.getElem?_eq_getElem hk, ?_⟩; unfold prevOf; rw [if_neg hq0, List.getElem?_eq_getElem hk]; rfl
      have hcase : (∃ (qz : (q : Int) = 0), prevBad (prevOf es q) z.name = false) ∨ ∃ (k : Nat) (y : PEnt), (q : Int) - 1 = k ∧ k < es.length ∧ 0 < (q : Int) ∧ prevBad (prevOf es q) z.name = (!Op.bytesLess y.name.toList z.name.toList) ∧ wr.cell? ⟨b1, off + k * 2, none⟩ = some (.string y.name) := by
       rcases hpv with ⟨h0, hp⟩ | ⟨k, y, hk, hy, hp⟩
       · exact .inl ⟨by omega, by rw [hp]; rfl⟩
       · refine .inr ⟨k, y, by omega, by omega, by omega, by rw [hp]; rfl, ?_⟩; obtain ⟨b2, off2, he2, _, _, hc2⟩ := HA.out wr hb k y.cells (by rw [List.getElem?_map, hy]; rfl); cases he2; exact hc2 0 _ rfl
      clear hpv; generalize hpb : prevBad (prevOf es q) z.name = pb at hre hcase; clear hpb; obtain ⟨bk, hbkv⟩ : ∃ bk : Nat, bucketM z.name = bk := ⟨(bucketM z.name).toNat, by have := bucketM_lt z.name; omega⟩
      have hbk8 : bk < 8 := by have := bucketM_lt z.name; omega
      have hbk8I : (bk : Int) < 8 := by omega
      obtain ⟨x, hx⟩ : ∃ x, sl[bk]? = some x := ⟨_, List.getElem?_eq_getElem (by have := HS.out.1; omega)⟩
      obtain ⟨hx0, hx4⟩ := HS.out.2 bk x hx; have c3 : wr.cell? ⟨w.heap.size, bk, none⟩ = some (.int .i64 x) := by rw [HB.out.cell bk]; simp [hx]
      have fz : wr.frozen? ⟨w.heap.size, bk, none⟩ = false := HB.out.frozen bk; rw [hbkv, Int.toNat_natCast, hx] at hre; simp only at hre; rw [hbkv] at hbk; clear hbkv; have HX := Lib.hid hx; clear hx; have ew : IntKind.i64.wrap (x + 1) = x + 1 := I64.wrap ⟨by omega, by omega⟩; have hnx : ∀ (wz : World), Bel w wz → Blk wz w.heap.size ((sl.map fun x => Value.int .i64 x).toArray.setIfInBounds bk (.int .i64 (x + 1))) 158 → ¬ 4 < x + 1 → entsB ns (some z.name) (sl.set bk (x + 1)) (es.drop (q + 1)) = R →
       ∃ (q' : Nat) (sl : List Int), Value.int .i64 ((q : Int) + 1) = .int .i64 q' ∧ q' ≤ es.length ∧ sl.length = 8 ∧ (∀ (k : Nat) (x : Int), sl[k]? = some x → 0 ≤ x ∧ x ≤ 4) ∧ entsB ns (prevOf es q') sl (es.drop q') = R ∧ Below w.heap.size w wz ∧ Blk wz w.heap.size (sl.map fun x => .int .i64 x).toArray 158 := by
       intro wz hwz hbz hx5 hr; refine ⟨q + 1, sl.set bk (x + 1), by rfl, by omega, by rw [List.length_set]; exact HS.out.1, ?_, ?_, hwz.below, ?_⟩
       · intro k u hu; by_cases hkb : bk = k
         · subst hkb; have hl8 : bk < sl.length := by have := HS.out.1; omega
           rw [List.getElem?_set_self hl8] at hu; cases hu; omega
         · rw [List.getElem?_set_ne hkb] at hu; exact HS.out.2 k u hu
       · have hp : prevOf es (q + 1) = some z.name := by
          unfold prevOf; rw [if_neg (by omega), Nat.add_sub_cancel, HZ.out]; rfl
         rw [hp]; exact hr
       · rw [List.setIfInBounds_toArray, ← List.map_set] at hbz; exact hbz
      have HNX := Lib.hid hnx; clear hnx; rcases hcase with ⟨hq0, rfl⟩ | ⟨k, y, hk1, hkl, hq1, rfl, c2⟩
      · obtain rfl : q = 0 := by omega
        simp only [Nat.zero_mul, Nat.add_zero] at c0 c1; rw [if_neg (by decide)] at hre; by_cases h1 : z.num = 1
        · rw [if_pos h1] at hre; subst hre; go_wp2_with fail; refine wp_region_quiet_rest (by kernel_rfl) (by kernel_rfl) (WQ.out ?_)
          repeat
           refine WQ_step (fun K hK => ?_); go_simp
           first
            | (refine hK _ ?_; clear hK K)
            | (apply Exists.intro
               refine ⟨fun _ => ?_, hK _ ?_⟩
               focus (first | (refine calls_in (hnm _) (fun w' hb => ?_); first | exact hb.rest | exact rest1 hb | exact rest2 hb) | (refine calls_in (hfn _ (bel _ _)) (fun w' hb => ?_); first | exact hb.rest | exact rest1 hb | exact rest2 hb))
               clear hK K)
          refine WQ_nil ?_; intro w1 hw1; obtain ⟨p, hw1⟩ := hw1; subst hw1; go_wp2_with fail; exact bodyPost_ret (v := .bool false) (by simp [results, Tryz.results101, go_sem]) rfl ⟨rfl, bel _ _⟩
        · rw [if_neg h1] at hre; have h1b : (z.num == 1) = false := by simpa using h1
          generalize findN ns z.num = fv at hfn hre; by_cases h2 : fv < 0
          · rw [if_pos h2] at hre; subst hre; go_wp2_with fail; refine wp_region_quiet_rest (by kernel_rfl) (by kernel_rfl) (WQ.out ?_)
            repeat
             refine WQ_step (fun K hK => ?_); go_simp
             first
              | (refine hK _ ?_; clear hK K)
              | (apply Exists.intro
                 refine ⟨fun _ => ?_, hK _ ?_⟩
                 focus (first | (refine calls_in (hnm _) (fun w' hb => ?_); first | exact hb.rest | exact rest1 hb | exact rest2 hb) | (refine calls_in (hfn _ (bel _ _)) (fun w' hb => ?_); first | exact hb.rest | exact rest1 hb | exact rest2 hb))
                 clear hK K)
            refine WQ_nil ?_; intro w1 hw1; obtain ⟨p, hw1⟩ := hw1; subst hw1; go_wp2_with fail; exact bodyPost_ret (v := .bool false) (by simp [results, Tryz.results101, go_sem]) rfl ⟨rfl, bel _ _⟩
          · rw [if_neg h2] at hre; by_cases h3 : 4 < x + 1
            · rw [if_pos h3] at hre; subst hre; go_wp2_with fail; refine wp_region_quiet_rest (by kernel_rfl) (by kernel_rfl) (WQ.out ?_)
              repeat
               refine WQ_step (fun K hK => ?_); go_simp
               first
                | (refine hK _ ?_; clear hK K)
                | (apply Exists.intro
                   refine ⟨fun _ => ?_, hK _ ?_⟩
                   focus (first | (refine calls_in (hnm _) (fun w' hb => ?_); first | exact hb.rest | exact rest1 hb | exact rest2 hb) | (refine calls_in (hfn _ (bel _ _)) (fun w' hb => ?_); first | exact hb.rest | exact rest1 hb | exact rest2 hb))
                   clear hK K)
              refine WQ_nil ?_; intro w1 hw1; obtain ⟨p, hw1⟩ := hw1; subst hw1; go_wp2_with ((go_at_call 133; refine (hbk _).mono ?_; rintro e w' ⟨rfl, hb⟩; obtain ⟨p, rfl⟩ := hb.rest; clear hb))
              exact bodyPost_ret (v := .bool false) (by simp [results, Tryz.results101, go_sem]) rfl ⟨rfl, bel _ _⟩
            · rw [if_neg h3] at hre; have HRE := Lib.hid hre; clear hre; go_wp2_with fail; refine wp_region_quiet_rest (by kernel_rfl) (by kernel_rfl) (WQ.out ?_)
              repeat
               refine WQ_step (fun K hK => ?_); go_simp
               first
                | (refine hK _ ?_; clear hK K)
                | (apply Exists.intro
                   refine ⟨fun _ => ?_, hK _ ?_⟩
                   focus (first | (refine calls_in (hnm _) (fun w' hb => ?_); first | exact hb.rest | exact rest1 hb | exact rest2 hb) | (refine calls_in (hfn _ (bel _ _)) (fun w' hb => ?_); first | exact hb.rest | exact rest1 hb | exact rest2 hb))
                   clear hK K)
              refine WQ_nil ?_; intro w1 hw1; obtain ⟨p, hw1⟩ := hw1; subst hw1; go_wp2_with ((go_at_call 133; refine (hbk _).mono ?_; rintro e w' ⟨rfl, hb⟩; obtain ⟨p, rfl⟩ := hb.rest; clear hb))
              go_roundw
              case rel =>
               first | exact HNX.out _ ⟨bel _ _⟩ (((HB.out.set_ _ _).alloc _).junk _) h3 HRE.out | (simpa using HNX.out _ ⟨bel _ _⟩ (((HB.out.set_ _ _).alloc _).junk _) h3 HRE.out)
              case measure => simp [intOf]; omega
      · have hq1N : 0 < q := by omega
        have hwk : IntKind.i64.wrap (k : Int) = k := I64.wrap ⟨by omega, by omega⟩; by_cases h0 : Op.bytesLess y.name.toList z.name.toList = true
        · rw [h0, Bool.not_true, if_neg (by decide)] at hre; by_cases h1 : z.num = 1
          · rw [if_pos h1] at hre; subst hre; go_wp2_with fail; refine wp_region_quiet_rest (by kernel_rfl) (by kernel_rfl) (WQ.out ?_)
            repeat
             refine WQ_step (fun K hK => ?_); go_simp
             first
              | (refine hK _ ?_; clear hK K)
              | (apply Exists.intro
                 refine ⟨fun _ => ?_, hK _ ?_⟩
                 focus (first | (refine calls_in (hnm _) (fun w' hb => ?_); first | exact hb.rest | exact rest1 hb | exact rest2 hb) | (refine calls_in (hfn _ (bel _ _)) (fun w' hb => ?_); first | exact hb.rest | exact rest1 hb | exact rest2 hb))
                 clear hK K)
            refine WQ_nil ?_; intro w1 hw1; obtain ⟨p, hw1⟩ := hw1; subst hw1; go_wp2_with fail; exact bodyPost_ret (v := .bool false) (by simp [results, Tryz.results101, go_sem]) rfl ⟨rfl, bel _ _⟩
          · rw [if_neg h1] at hre; have h1b : (z.num == 1) = false := by simpa using h1
            generalize findN ns z.num = fv at hfn hre; by_cases h2 : fv < 0
            · rw [if_pos h2] at hre; subst hre; go_wp2_with fail; refine wp_region_quiet_rest (by kernel_rfl) (by kernel_rfl) (WQ.out ?_)
              repeat
               refine WQ_step (fun K hK => ?_); go_simp
               first
                | (refine hK _ ?_; clear hK K)
                | (apply Exists.intro
                   refine ⟨fun _ => ?_, hK _ ?_⟩
                   focus (first | (refine calls_in (hnm _) (fun w' hb => ?_); first | exact hb.rest | exact rest1 hb | exact rest2 hb) | (refine calls_in (hfn _ (bel _ _)) (fun w' hb => ?_); first | exact hb.rest | exact rest1 hb | exact rest2 hb))
                   clear hK K)
              refine WQ_nil ?_; intro w1 hw1; obtain ⟨p, hw1⟩ := hw1; subst hw1; go_wp2_with fail; exact bodyPost_ret (v := .bool false) (by simp [results, Tryz.results101, go_sem]) rfl ⟨rfl, bel _ _⟩
            · rw [if_neg h2] at hre; by_cases h3 : 4 < x + 1
              · rw [if_pos h3] at hre; subst hre; go_wp2_with fail; refine wp_region_quiet_rest (by kernel_rfl) (by kernel_rfl) (WQ.out ?_)
                repeat
                 refine WQ_step (fun K hK => ?_); go_simp
                 first
                  | (refine hK _ ?_; clear hK K)
                  | (apply Exists.intro
                     refine ⟨fun _ => ?_, hK _ ?_⟩
                     focus (first | (refine calls_in (hnm _) (fun w' hb => ?_); first | exact hb.rest | exact rest1 hb | exact rest2 hb) | (refine calls_in (hfn _ (bel _ _)) (fun w' hb => ?_); first | exact hb.rest | exact rest1 hb | exact rest2 hb))
                     clear hK K)
                refine WQ_nil ?_; intro w1 hw1; obtain ⟨p, hw1⟩ := hw1; subst hw1; go_wp2_with ((go_at_call 133; refine (hbk _).mono ?_; rintro e w' ⟨rfl, hb⟩; obtain ⟨p, rfl⟩ := hb.rest; clear hb))
                exact bodyPost_ret (v := .bool false) (by simp [results, Tryz.results101, go_sem]) rfl ⟨rfl, bel _ _⟩
              · rw [if_neg h3] at hre; have HRE := Lib.hid hre; clear hre; go_wp2_with fail; refine wp_region_quiet_rest (by kernel_rfl) (by kernel_rfl) (WQ.out ?_)
                repeat
                 refine WQ_step (fun K hK => ?_); go_simp
                 first
                  | (refine hK _ ?_; clear hK K)
                  | (apply Exists.intro
                     refine ⟨fun _ => ?_, hK _ ?_⟩
                     focus (first | (refine calls_in (hnm _) (fun w' hb => ?_); first | exact hb.rest | exact rest1 hb | exact rest2 hb) | (refine calls_in (hfn _ (bel _ _)) (fun w' hb => ?_); first | exact hb.rest | exact rest1 hb | exact rest2 hb))
                     clear hK K)
                refine WQ_nil ?_; intro w1 hw1; obtain ⟨p, hw1⟩ := hw1; subst hw1; go_wp2_with ((go_at_call 133; refine (hbk _).mono ?_; rintro e w' ⟨rfl, hb⟩; obtain ⟨p, rfl⟩ := hb.rest; clear hb))
                go_roundw
                case rel =>
                 first | exact HNX.out _ ⟨bel _ _⟩ (((HB.out.set_ _ _).alloc _).junk _) h3 HRE.out | (simpa using HNX.out _ ⟨bel _ _⟩ (((HB.out.set_ _ _).alloc _).junk _) h3 HRE.out)
                case measure => simp [intOf]; omega
        · have h0 : Op.bytesLess y.name.toList z.name.toList = false := by simpa using h0
          rw [h0, Bool.not_false, if_pos rfl] at hre; subst hre; go_wp2_with fail; refine wp_region_quiet_rest (by kernel_rfl) (by kernel_rfl) (WQ.out ?_)
          repeat
           refine WQ_step (fun K hK => ?_); go_simp
           first
            | (refine hK _ ?_; clear hK K)
            | (apply Exists.intro
               refine ⟨fun _ => ?_, hK _ ?_⟩
               focus (first | (refine calls_in (hnm _) (fun w' hb => ?_); first | exact hb.rest | exact rest1 hb | exact rest2 hb) | (refine calls_in (hfn _ (bel _ _)) (fun w' hb => ?_); first | exact hb.rest | exact rest1 hb | exact rest2 hb))
               clear hK K)
          refine WQ_nil ?_; intro w1 hw1; obtain ⟨p, hw1⟩ := hw1; subst hw1; go_wp2_with fail; exact bodyPost_ret (v := .bool false) (by simp [results, Tryz.results101, go_sem]) rfl ⟨rfl, bel _ _⟩
  · rw [List.drop_of_length_le (by omega)] at hre; have HRe : true = R := by rw [← hre]; rfl
    subst HRe; clear hf hre; go_wp2_with fail; exact bodyPost_ret (v := .bool true) (by simp [results, Tryz.results101, go_sem]) rfl ⟨rfl, bel _ _⟩
end Go.Proofs.YtmkapobnfigedaaGreatDoor
