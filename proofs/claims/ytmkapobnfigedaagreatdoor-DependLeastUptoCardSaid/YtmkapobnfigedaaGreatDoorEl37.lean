/- The reference's look at a directory's entries. Conditions: none. -/
import Derived.Test.YtmkapobnfigedaaGreatDoorEl36
set_option linter.unusedVariables false
set_option linter.unusedSimpArgs false
namespace Go.Proofs.YtmkapobnfigedaaGreatDoor
open Go.RowKit
theorem Blk.apart {w : World} {b b' o : Nat} {c : Array Value} {t : TypeId} {v : Value} (h : Blk w b c t) (hne : b ≠ b') : Blk (w.setCell ⟨b', o, none⟩ v) b c t := by
 unfold Blk
 rw [Below.heap_setCell _ _ _ _ (by show b ≠ b'; exact hne)]
 exact h
theorem bucketR_lt (s : ByteArray) : 0 ≤ bucketR s ∧ bucketR s < 8 := by unfold bucketR; omega
def prevBadR (prev : Option ByteArray) (s : ByteArray) : Bool := match prev with | some p => !belowR p s | none => false
def entsRB (S : PSt) : Option ByteArray → List Int → List PEnt → Bool
 | _, _, [] => true
 | prev, sl, e :: r =>
   if (checkR e.name != 0) = true then false else if prevBadR prev e.name = true then false else if e.num = 1 then false else if atR S e.num < 0 then false else
   match sl[(bucketR e.name).toNat]? with
   | some x => if 4 < x + 1 then false else entsRB S (some e.name) (sl.set (bucketR e.name).toNat (x + 1)) r
   | none => false
def entsR (S : PSt) (es : List PEnt) : Bool := entsRB S none [0, 0, 0, 0, 0, 0, 0, 0] es
theorem checkR_small (s : ByteArray) (h : (checkR s != 0) = false) : s.size ≤ 12 := by
 unfold checkR at h
 by_cases hl : 12 < s.size
 · rw [if_pos hl] at h; simp at h
 · omega
theorem mk8 (u : World) : (Instr.makeSlice 24 (.int .i64 8) (.int .i64 8)).run Tryz.prog u = .ok (.slice (some ⟨u.heap.size, 0, none⟩) 8 8) (u.alloc (.cells (([0, 0, 0, 0, 0, 0, 0, 0] : List Int).map fun x => Value.int .i64 x).toArray 3)) := by
 obtain ⟨i0, hi, hz0, hz1, hz2⟩ := info_parts info3
 have := run_makeSlice (P := Tryz.prog) u 24 3 i0 _ Tryz.underlying24 hi hz0 .i64 .i64 8 8 (by omega) (Int.le_refl _) (by rw [hz1]; omega) (by rw [hz2]; omega) (by omega)
 have e : (([0, 0, 0, 0, 0, 0, 0, 0] : List Int).map fun x => Value.int .i64 x) = (List.replicate 8 (0 : Int)).map fun x => Value.int .i64 x := rfl
 rw [e, ← made_map' (fun x => Value.int .i64 x)]
 simpa [hz1, Value.cells] using this
set_option maxRecDepth 100000 in
set_option maxHeartbeats 8000000 in
theorem entries30 (S : PSt) (iv ov mv : Value) (xn : Int) (xd : Bool) (xs : ByteArray) (ev : Value) (es : List PEnt) (w : World) (h : StRead w iv ov mv S) (hwf : S.wf) (he : RowAt w 2 ev (es.map PEnt.cells)) (hlen : es.length ≤ 1000000000) :
 Calls Tryz.prog 61 #[.agg #[iv, ov, mv], .agg #[.int .i64 xn, .bool xd, ev, .string xs]] w fun e w' => e = .returned (.bool (entsR S es)) ∧ Below w.heap.size w w' := by
 have h51' : ∀ n ww, Below w.heap.size w ww → Calls Tryz.prog 85 #[.agg #[iv, ov, mv], .int .i64 n] ww fun e w' => e = .returned (.int .i64 (atR S n)) ∧ Below ww.heap.size ww w' := fun n ww hb => at51 S iv ov mv n ww (h.below hb (Nat.le_refl _)) hwf.1
 obtain ⟨ai, ni, ci, ao, no, co, am, nm, cm, rfl, rfl, rfl⟩ := h.slices
 obtain ⟨a, cap, rfl, hat⟩ := he.at_
 have HA := Lib.hid hat
 clear h hwf he hat
 rw [List.length_map]
 have hmk := mk8
 unfold entsR
 obtain ⟨R, hR⟩ : ∃ R, entsRB S none [0, 0, 0, 0, 0, 0, 0, 0] es = R := ⟨_, rfl⟩
 rw [hR]
 have HR := Lib.hid hR
 clear hR
 go_enter Tryz.func61, Tryz.ntmps61
 go_wp2_with fail
 go_loopw [6] (fun i wr => ∃ (q : Nat) (sl : List Int), i = .int .i64 q ∧ q ≤ es.length ∧ sl.length = 8 ∧ (∀ (k : Nat) (x : Int), sl[k]? = some x → 0 ≤ x ∧ x ≤ 4) ∧ (∀ p, prevOf es q = some p → p.size ≤ 12) ∧ entsRB S (prevOf es q) sl (es.drop q) = R ∧ Below w.heap.size w wr ∧ Blk wr (w.heap.size + 1 + 1) (sl.map fun x => .int .i64 x).toArray 3 ∧ Blk wr w.heap.size #[.slice ai ni ci, .slice ao no co, .slice am nm cm] 26 ∧ Blk wr (w.heap.size + 1) #[.int .i64 xn, .bool xd, .slice a es.length cap, .string xs] 68) (fun i _ => (es.length - intOf i).toNat)
 case atStart =>
  refine ⟨0, [0, 0, 0, 0, 0, 0, 0, 0], rfl, by omega, rfl, ?_, fun p hp => by simp [prevOf] at hp, HR.out, bel _ _, ?_, ?_, ?_⟩
  · intro k x hk; have := List.mem_of_getElem? hk; simp at this; omega
  · exact Blk.new_i _ _ _ _
  · exact ((Blk.new w _ 26).alloc _).alloc _
  · exact (Blk.new_i _ _ _ _ : Blk ((w.alloc _).alloc _) (w.heap.size + 1) _ _).alloc _
 case round =>
  obtain ⟨q, sl, rfl, hq, hsl, hsb, hpz, hre, hb, hblk, hbs, hbx⟩ := hrel; have iB : Bel w wr := ⟨hb⟩
  have iL := hblk.lt; have iL1 := hbs.lt; have iL2 := hbx.lt; have s0 := hbs.cell 0; have s1 := hbs.cell 1; have s2 := hbs.cell 2; have x2 := hbx.cell 2; simp at s0 s1 s2 x2; have HB := Lib.hid (And.intro hblk (And.intro hbs hbx)); clear hblk hbs hbx; by_cases hlt : q < es.length
  · obtain ⟨z, hz⟩ : ∃ z, es[q]? = some z := ⟨_, List.getElem?_eq_getElem hlt⟩
    obtain ⟨b1, off, rfl, iG0, iG, hc⟩ := HA.out wr hb q z.cells (by rw [List.getElem?_map, hz]; rfl); have c0 := hc 0 _ rfl; have c1 := hc 1 _ rfl; rw [Nat.add_zero] at c0; rw [drop_at hz] at hre; unfold entsRB at hre; have h52 := fun ww => check52 z.name ww
    have h51 := fun ww hww => h51' z.num ww hww
    have HZ := Lib.hid hz; have HS := Lib.hid (And.intro hsl hsb); have hsm := checkR_small z.name; clear hc hz h51' hsl hsb; generalize hck : checkR z.name = ck at h52 hre hsm; rcases hn : (ck != 0) with _ | _
    · have hsm := hsm hn; rw [hn, if_neg (by decide)] at hre; have h35 := fun ww => bucket35 z.name (by omega) ww
      have hpv : (q = 0 ∧ prevOf es q = none) ∨ ∃ (k : Nat) (y : PEnt), (q : Int) - 1 = k ∧ k < es.length ∧ 0 < (q : Int) ∧ prevOf es q = some y.name ∧ wr.cell? ⟨b1, off + k * 2, none⟩ = some (.string y.name) := by
       by_cases hq0 : q = 0
       · exact .inl ⟨hq0, by simp [prevOf, hq0]⟩
       · obtain ⟨y, hy⟩ : ∃ y, es[q - 1]? = some y := ⟨_, List.getElem?_eq_getElem (by omega)⟩
         refine .inr ⟨q - 1, y, by omega, by omega, by omega, by simp [prevOf, hq0, hy], ?_⟩; obtain ⟨b2, off2, he2, _, _, hc2⟩ := HA.out wr hb (q - 1) y.cells (by rw [List.getElem?_map, hy]; rfl); cases he2; exact hc2 0 _ rfl
      obtain ⟨bk, hbkv⟩ : ∃ bk : Nat, bucketR z.name = bk := ⟨(bucketR z.name).toNat, by have := bucketR_lt z.name; omega⟩
      have hbk8 : bk < 8 := by have := bucketR_lt z.name; omega
      have hbk8I : (bk : Int) < 8 := by omega
      obtain ⟨x, hx⟩ : ∃ x, sl[bk]? = some x := ⟨_, List.getElem?_eq_getElem (by have := HS.out.1; omega)⟩
      obtain ⟨hx0, hx4⟩ := HS.out.2 bk x hx; have c3 : wr.cell? ⟨w.heap.size + 1 + 1, bk, none⟩ = some (.int .i64 x) := by rw [HB.out.1.cell bk]; simp [hx]
      have fz : wr.frozen? ⟨w.heap.size + 1 + 1, bk, none⟩ = false := HB.out.1.frozen bk; rw [hbkv, Int.toNat_natCast, hx] at hre; simp only at hre; rw [hbkv] at h35; have ew : IntKind.i64.wrap (x + 1) = x + 1 := I64.wrap ⟨by omega, by omega⟩; have hnx : ∀ (wz : World), Bel w wz → Blk wz (w.heap.size + 1 + 1) ((sl.map fun x => Value.int .i64 x).toArray.setIfInBounds bk (.int .i64 (x + 1))) 3 → Blk wz w.heap.size #[.slice ai ni ci, .slice ao no co, .slice am nm cm] 26 → Blk wz (w.heap.size + 1) #[.int .i64 xn, .bool xd, .slice (some ⟨b1, off, none⟩) es.length cap, .string xs] 68 → ¬ 4 < x + 1 → entsRB S (some z.name) (sl.set bk (x + 1)) (es.drop (q + 1)) = R →
       ∃ (q' : Nat) (sl : List Int), Value.int .i64 ((q : Int) + 1) = .int .i64 q' ∧ q' ≤ es.length ∧ sl.length = 8 ∧ (∀ (k : Nat) (x : Int), sl[k]? = some x → 0 ≤ x ∧ x ≤ 4) ∧ (∀ p, prevOf es q' = some p → p.size ≤ 12) ∧ entsRB S (prevOf es q') sl (es.drop q') = R ∧ Below w.heap.size w wz ∧ Blk wz (w.heap.size + 1 + 1) (sl.map fun x => .int .i64 x).toArray 3 ∧ Blk wz w.heap.size #[.slice ai ni ci, .slice ao no co, .slice am nm cm] 26 ∧ Blk wz (w.heap.size + 1) #[.int .i64 xn, .bool xd, .slice (some ⟨b1, off, none⟩) es.length cap, .string xs] 68 := by
       intro wz hwz hbz hbz1 hbz2 hx5 hr; have hp : prevOf es (q + 1) = some z.name := by
        unfold prevOf; rw [if_neg (by omega), Nat.add_sub_cancel, HZ.out]; rfl
       refine ⟨q + 1, sl.set bk (x + 1), by rfl, by omega, by rw [List.length_set]; exact HS.out.1, ?_, ?_, ?_, hwz.below, ?_, hbz1, hbz2⟩
       · intro k u hu; by_cases hkb : bk = k
         · subst hkb; have hl8 : bk < sl.length := by have := HS.out.1; omega
           rw [List.getElem?_set_self hl8] at hu; cases hu; omega
         · rw [List.getElem?_set_ne hkb] at hu; exact HS.out.2 k u hu
       · intro p hp2; rw [hp] at hp2; cases hp2; exact hsm
       · rw [hp]; exact hr
       · rw [List.setIfInBounds_toArray, ← List.map_set] at hbz; exact hbz
      have HNX := Lib.hid hnx; have HP := Lib.hid hpz; clear hnx hbkv hx hpz; rcases hpv with ⟨rfl, hp⟩ | ⟨k, y, hk1, hkl, hq1, hp, c2⟩
      · rw [hp] at hre; simp only [Nat.zero_mul, Nat.add_zero] at c0 c1; have hpb : prevBadR none z.name = false := rfl; rw [hpb, if_neg (by decide)] at hre; clear hp hpb; by_cases h1 : z.num = 1
        · rw [if_pos h1] at hre; have h1b : (z.num == 1) = true := by simpa using h1
          subst hre; clear h1; go_wp2_with fail; refine wp_region_quiet_rest (by kernel_rfl) (by kernel_rfl) (WQ.out ?_)
          repeat
           refine WQ_step (fun K hK => ?_); go_simp
           first
            | (refine hK _ ?_; clear hK K)
            | (apply Exists.intro
               refine ⟨fun _ => ?_, hK _ ?_⟩
               focus (first | (with_reducible refine calls_in (h52 _) (fun w' hb => ?_); first | exact hb.rest | exact rest1 hb | exact rest2 hb) | (with_reducible refine calls_in (h51 _ (bel _ _)) (fun w' hb => ?_); first | exact hb.rest | exact rest1 hb | exact rest2 hb))
               clear hK K)
          refine WQ_nil ?_; intro w1 hw1; obtain ⟨p, hw1⟩ := hw1; subst hw1; go_wp2_with fail; exact bodyPost_ret (v := .bool false) (by simp [results, Tryz.results61, go_sem]) rfl ⟨rfl, bel _ _⟩
        · rw [if_neg h1] at hre; have h1b : (z.num == 1) = false := by simpa using h1
          generalize atR S z.num = fv at h51 hre; by_cases h2 : fv < 0
          · rw [if_pos h2] at hre; subst hre; go_wp2_with fail; refine wp_region_quiet_rest (by kernel_rfl) (by kernel_rfl) (WQ.out ?_)
            repeat
             refine WQ_step (fun K hK => ?_); go_simp
             first
              | (refine hK _ ?_; clear hK K)
              | (apply Exists.intro
                 refine ⟨fun _ => ?_, hK _ ?_⟩
                 focus (first | (with_reducible refine calls_in (h52 _) (fun w' hb => ?_); first | exact hb.rest | exact rest1 hb | exact rest2 hb) | (with_reducible refine calls_in (h51 _ (bel _ _)) (fun w' hb => ?_); first | exact hb.rest | exact rest1 hb | exact rest2 hb))
                 clear hK K)
            refine WQ_nil ?_; intro w1 hw1; obtain ⟨p, hw1⟩ := hw1; subst hw1; go_wp2_with fail; exact bodyPost_ret (v := .bool false) (by simp [results, Tryz.results61, go_sem]) rfl ⟨rfl, bel _ _⟩
          · rw [if_neg h2] at hre; by_cases h3 : 4 < x + 1
            · rw [if_pos h3] at hre; subst hre; go_wp2_with fail; refine wp_region_quiet_rest (by kernel_rfl) (by kernel_rfl) (WQ.out ?_)
              repeat
               refine WQ_step (fun K hK => ?_); go_simp
               first
                | (refine hK _ ?_; clear hK K)
                | (apply Exists.intro
                   refine ⟨fun _ => ?_, hK _ ?_⟩
                   focus (first | (with_reducible refine calls_in (h52 _) (fun w' hb => ?_); first | exact hb.rest | exact rest1 hb | exact rest2 hb) | (with_reducible refine calls_in (h51 _ (bel _ _)) (fun w' hb => ?_); first | exact hb.rest | exact rest1 hb | exact rest2 hb))
                   clear hK K)
              refine WQ_nil ?_; intro w1 hw1; obtain ⟨p, hw1⟩ := hw1; subst hw1; go_wp2_with ((go_at_call 87; refine (h35 _).mono ?_; rintro e w' ⟨rfl, hb⟩; obtain ⟨p, rfl⟩ := hb.rest; clear hb))
              exact bodyPost_ret (v := .bool false) (by simp [results, Tryz.results61, go_sem]) rfl ⟨rfl, bel _ _⟩
            · rw [if_neg h3] at hre; have HRE := Lib.hid hre; clear hre; go_wp2_with fail; refine wp_region_quiet_rest (by kernel_rfl) (by kernel_rfl) (WQ.out ?_)
              repeat
               refine WQ_step (fun K hK => ?_); go_simp
               first
                | (refine hK _ ?_; clear hK K)
                | (apply Exists.intro
                   refine ⟨fun _ => ?_, hK _ ?_⟩
                   focus (first | (with_reducible refine calls_in (h52 _) (fun w' hb => ?_); first | exact hb.rest | exact rest1 hb | exact rest2 hb) | (with_reducible refine calls_in (h51 _ (bel _ _)) (fun w' hb => ?_); first | exact hb.rest | exact rest1 hb | exact rest2 hb))
                   clear hK K)
              refine WQ_nil ?_; intro w1 hw1; obtain ⟨p, hw1⟩ := hw1; subst hw1; go_wp2_with ((go_at_call 87; refine (h35 _).mono ?_; rintro e w' ⟨rfl, hb⟩; obtain ⟨p, rfl⟩ := hb.rest; clear hb))
              go_roundw
              case rel => exact HNX.out _ ⟨bel _ _⟩ (((HB.out.1.set_ _ _).alloc _).junk _) (((Blk.apart HB.out.2.1 (by omega)).alloc _).junk _) (((Blk.apart HB.out.2.2 (by omega)).alloc _).junk _) h3 HRE.out
              case measure => simp [intOf]; omega
      · have hy12 := HP.out y.name hp; rw [hp] at hre; have hpb : prevBadR (some y.name) z.name = !belowR y.name z.name := rfl; rw [hpb] at hre; clear hp hpb; have hq1N : 0 < q := by omega
        have hwk : IntKind.i64.wrap (k : Int) = k := I64.wrap ⟨by omega, by omega⟩; have h53 := fun ww => below53 y.name z.name (by omega) ww
        generalize belowR y.name z.name = bl at h53 hre; rcases bl with _ | _
        · rw [Bool.not_false, if_pos rfl] at hre; subst hre; go_wp2_with fail; refine wp_region_quiet_rest (by kernel_rfl) (by kernel_rfl) (WQ.out ?_)
          repeat
           refine WQ_step (fun K hK => ?_); go_simp
           first
            | (refine hK _ ?_; clear hK K)
            | (apply Exists.intro
               refine ⟨fun _ => ?_, hK _ ?_⟩
               focus (first | (with_reducible refine calls_in (h52 _) (fun w' hb => ?_); first | exact hb.rest | exact rest1 hb | exact rest2 hb) | (with_reducible refine calls_in (h53 _) (fun w' hb => ?_); first | exact hb.rest | exact rest1 hb | exact rest2 hb) | (with_reducible refine calls_in (h51 _ (bel _ _)) (fun w' hb => ?_); first | exact hb.rest | exact rest1 hb | exact rest2 hb))
               clear hK K)
          refine WQ_nil ?_; intro w1 hw1; obtain ⟨p, hw1⟩ := hw1; subst hw1; go_wp2_with fail; exact bodyPost_ret (v := .bool false) (by simp [results, Tryz.results61, go_sem]) rfl ⟨rfl, bel _ _⟩
        · rw [Bool.not_true, if_neg (by decide)] at hre; by_cases h1 : z.num = 1
          · rw [if_pos h1] at hre; have h1b : (z.num == 1) = true := by simpa using h1
            subst hre; clear h1; go_wp2_with fail; refine wp_region_quiet_rest (by kernel_rfl) (by kernel_rfl) (WQ.out ?_)
            repeat
             refine WQ_step (fun K hK => ?_); go_simp
             first
              | (refine hK _ ?_; clear hK K)
              | (apply Exists.intro
                 refine ⟨fun _ => ?_, hK _ ?_⟩
                 focus (first | (with_reducible refine calls_in (h52 _) (fun w' hb => ?_); first | exact hb.rest | exact rest1 hb | exact rest2 hb) | (with_reducible refine calls_in (h53 _) (fun w' hb => ?_); first | exact hb.rest | exact rest1 hb | exact rest2 hb) | (with_reducible refine calls_in (h51 _ (bel _ _)) (fun w' hb => ?_); first | exact hb.rest | exact rest1 hb | exact rest2 hb))
                 clear hK K)
            refine WQ_nil ?_; intro w1 hw1; obtain ⟨p, hw1⟩ := hw1; subst hw1; go_wp2_with fail; exact bodyPost_ret (v := .bool false) (by simp [results, Tryz.results61, go_sem]) rfl ⟨rfl, bel _ _⟩
          · rw [if_neg h1] at hre; have h1b : (z.num == 1) = false := by simpa using h1
            generalize atR S z.num = fv at h51 hre; by_cases h2 : fv < 0
            · rw [if_pos h2] at hre; subst hre; go_wp2_with fail; refine wp_region_quiet_rest (by kernel_rfl) (by kernel_rfl) (WQ.out ?_)
              repeat
               refine WQ_step (fun K hK => ?_); go_simp
               first
                | (refine hK _ ?_; clear hK K)
                | (apply Exists.intro
                   refine ⟨fun _ => ?_, hK _ ?_⟩
                   focus (first | (with_reducible refine calls_in (h52 _) (fun w' hb => ?_); first | exact hb.rest | exact rest1 hb | exact rest2 hb) | (with_reducible refine calls_in (h53 _) (fun w' hb => ?_); first | exact hb.rest | exact rest1 hb | exact rest2 hb) | (with_reducible refine calls_in (h51 _ (bel _ _)) (fun w' hb => ?_); first | exact hb.rest | exact rest1 hb | exact rest2 hb))
                   clear hK K)
              refine WQ_nil ?_; intro w1 hw1; obtain ⟨p, hw1⟩ := hw1; subst hw1; go_wp2_with fail; exact bodyPost_ret (v := .bool false) (by simp [results, Tryz.results61, go_sem]) rfl ⟨rfl, bel _ _⟩
            · rw [if_neg h2] at hre; by_cases h3 : 4 < x + 1
              · rw [if_pos h3] at hre; subst hre; go_wp2_with fail; refine wp_region_quiet_rest (by kernel_rfl) (by kernel_rfl) (WQ.out ?_)
                repeat
                 refine WQ_step (fun K hK => ?_); go_simp
                 first
                  | (refine hK _ ?_; clear hK K)
                  | (apply Exists.intro
                     refine ⟨fun _ => ?_, hK _ ?_⟩
                     focus (first | (with_reducible refine calls_in (h52 _) (fun w' hb => ?_); first | exact hb.rest | exact rest1 hb | exact rest2 hb) | (with_reducible refine calls_in (h53 _) (fun w' hb => ?_); first | exact hb.rest | exact rest1 hb | exact rest2 hb) | (with_reducible refine calls_in (h51 _ (bel _ _)) (fun w' hb => ?_); first | exact hb.rest | exact rest1 hb | exact rest2 hb))
                     clear hK K)
                refine WQ_nil ?_; intro w1 hw1; obtain ⟨p, hw1⟩ := hw1; subst hw1; go_wp2_with ((go_at_call 87; refine (h35 _).mono ?_; rintro e w' ⟨rfl, hb⟩; obtain ⟨p, rfl⟩ := hb.rest; clear hb))
                exact bodyPost_ret (v := .bool false) (by simp [results, Tryz.results61, go_sem]) rfl ⟨rfl, bel _ _⟩
              · rw [if_neg h3] at hre; have HRE := Lib.hid hre; clear hre; go_wp2_with fail; refine wp_region_quiet_rest (by kernel_rfl) (by kernel_rfl) (WQ.out ?_)
                repeat
                 refine WQ_step (fun K hK => ?_); go_simp
                 first
                  | (refine hK _ ?_; clear hK K)
                  | (apply Exists.intro
                     refine ⟨fun _ => ?_, hK _ ?_⟩
                     focus (first | (with_reducible refine calls_in (h52 _) (fun w' hb => ?_); first | exact hb.rest | exact rest1 hb | exact rest2 hb) | (with_reducible refine calls_in (h53 _) (fun w' hb => ?_); first | exact hb.rest | exact rest1 hb | exact rest2 hb) | (with_reducible refine calls_in (h51 _ (bel _ _)) (fun w' hb => ?_); first | exact hb.rest | exact rest1 hb | exact rest2 hb))
                     clear hK K)
                refine WQ_nil ?_; intro w1 hw1; obtain ⟨p, hw1⟩ := hw1; subst hw1; go_wp2_with ((go_at_call 87; refine (h35 _).mono ?_; rintro e w' ⟨rfl, hb⟩; obtain ⟨p, rfl⟩ := hb.rest; clear hb))
                go_roundw
                case rel => exact HNX.out _ ⟨bel _ _⟩ (((HB.out.1.set_ _ _).alloc _).junk _) (((Blk.apart HB.out.2.1 (by omega)).alloc _).junk _) (((Blk.apart HB.out.2.2 (by omega)).alloc _).junk _) h3 HRE.out
                case measure => simp [intOf]; omega
    · rw [hn, if_pos rfl] at hre; subst hre; go_wp2_with fail; refine wp_region_quiet_rest (by kernel_rfl) (by kernel_rfl) (WQ.out ?_)
      repeat
       refine WQ_step (fun K hK => ?_); go_simp
       first
        | (refine hK _ ?_; clear hK K)
        | (apply Exists.intro
           refine ⟨fun _ => ?_, hK _ ?_⟩
           focus (first | (with_reducible refine calls_in (h52 _) (fun w' hb => ?_); first | exact hb.rest | exact rest1 hb | exact rest2 hb) | (with_reducible refine calls_in (h51 _ (bel _ _)) (fun w' hb => ?_); first | exact hb.rest | exact rest1 hb | exact rest2 hb))
           clear hK K)
      refine WQ_nil ?_; intro w1 hw1; obtain ⟨p, hw1⟩ := hw1; subst hw1; go_wp2_with fail; exact bodyPost_ret (v := .bool false) (by simp [results, Tryz.results61, go_sem]) rfl ⟨rfl, bel _ _⟩
  · rw [List.drop_of_length_le (by omega)] at hre; obtain rfl : R = true := by rw [← hre]; rfl
    go_wp2_with fail; exact bodyPost_ret (v := .bool true) (by simp [results, Tryz.results61, go_sem]) rfl ⟨rfl, bel _ _⟩
end Go.Proofs.YtmkapobnfigedaaGreatDoor
