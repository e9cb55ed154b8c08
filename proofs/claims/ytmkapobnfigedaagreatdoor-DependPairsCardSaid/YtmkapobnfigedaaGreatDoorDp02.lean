/- Part of the proof of a law of chapter 15. Conditions: none. -/
import Derived.Test.YtmkapobnfigedaaGreatDoorDp01
set_option linter.unusedVariables false
set_option linter.unusedSimpArgs false
set_option maxRecDepth 100000
set_option maxHeartbeats 8000000
namespace Go.Proofs.YtmkapobnfigedaaGreatDoor
open Go.RowKit
theorem StRead.ins_at {w : World} {iv ov mv : Value} {S : PSt} (h : StRead w iv ov mv S) :
 ∃ a cap, iv = .slice a S.ins.length cap ∧ ∀ wr, Below w.heap.size w wr → ∀ (q : Nat) (x : PIn), S.ins[q]? = some x → ∃ b off ev, a = some ⟨b, off, none⟩ ∧ BlockLt b w ∧ BlockLt b wr ∧ ev.oneCell' = true ∧ RowAt wr 2 ev (x.ents.map PEnt.cells) ∧
  wr.cell? ⟨b, off + q * 4, none⟩ = some (.int .i64 x.num) ∧ wr.cell? ⟨b, off + q * 4 + 1, none⟩ = some (.bool x.dir) ∧ wr.cell? ⟨b, off + q * 4 + 2, none⟩ = some ev ∧ wr.cell? ⟨b, off + q * 4 + 3, none⟩ = some (.string x.data) := by
 obtain ⟨_, _, is, h3, h4, h5⟩ := h
 obtain ⟨a, cap, rfl, hat⟩ := h3.at_
 rw [lM]
 refine ⟨a, cap, by rw [h4], fun wr hb q x hx => ?_⟩
 obtain ⟨hq, _⟩ := gI.1 hx
 have hr : is[q]? = some is[q] := gE (by omega)
 obtain ⟨b, off, rfl, i1, i2, hc⟩ := hat wr hb q is[q].cells (by rw [gM, hr]; rfl)
 obtain ⟨e1, e2, e3, e4⟩ := h5 q _ x hr hx
 refine ⟨b, off, is[q].ev, rfl, i1, i2, is[q].one, e4.below hb (Nat.le_refl _), ?_, ?_, ?_, ?_⟩
 · rw [← e1]; exact hc 0 _ rfl
 · rw [← e2]; exact hc 1 _ rfl
 · exact hc 2 _ rfl
 · rw [← e3]; exact hc 3 _ rfl
def numsB (made : List Int) : Int → List Int → Bool
 | _, [] => true
 | p, n :: r => if n ≤ p then false else if mayNumM made n = false then false else numsB made n r
def inB (ns : List Int) (x : PIn) : Bool := if x.dir then (x.data.toList.isEmpty && mayEntsM ns x.ents) else (decide (x.ents.length = 0) && decide (x.data.size ≤ 256))
def mayInsM (S : PSt) : Bool :=
 match S.ins with
 | [] => false
 | x :: r => if x.num = 1 then (if x.dir = true then numsB S.made 1 (r.map PIn.num) && S.ins.all (inB S.nums) else false) else false
theorem all_drop {α : Type} {zs : List α} {q : Nat} {z : α} (p : α → Bool) (h : zs[q]? = some z) : (zs.drop q).all p = (p z && (zs.drop (q + 1)).all p) := by rw [drop_at h]; rfl
theorem mayIns63 (b : Nat) (S : PSt) (w : World) (h : SP w b S) (hwf : S.wf) :
 Calls Tryz.prog 69 #[.pointer (some ⟨b, 0, none⟩)] w fun e w' => e = .returned (.bool (mayInsM S)) ∧ Below w.heap.size w w' := by
 have hnum : ∀ ww, Below w.heap.size w ww → ∀ n, I64 n → Calls Tryz.prog 100 #[.pointer (some ⟨b, 0, none⟩), .int .i64 n] ww fun e w' => e = .returned (.bool (mayNumM S.made n)) ∧ Below ww.heap.size ww w' :=
  fun ww hb n hn => mayNum108 b S n ww (h.below hb (Nat.le_refl _)) hwf hn
 have hent : ∀ ww, Below w.heap.size w ww → ∀ ev es, RowAt ww 2 ev (es.map PEnt.cells) → es.length ≤ 1000000000 → Calls Tryz.prog 101 #[.pointer (some ⟨b, 0, none⟩), ev] ww fun e w' => e = .returned (.bool (mayEntsM S.nums es)) ∧ Below ww.heap.size ww w' :=
  fun ww hb ev es he hl => mayEnts109 b S es ev ww (h.below hb (Nat.le_refl _)) hwf he hl
 obtain ⟨hl, iv, ov, mv, c0, c1, c2, hr⟩ := h
 have ib : BlockLt b w := ⟨hl⟩
 have hlen := hwf.1
 have hWF := hwf.2.2.2.1
 obtain ⟨a, cap, rfl, hat⟩ := hr.ins_at
 have HA := Lib.hid hat
 have HW := Lib.hid hWF
 clear hr hwf hat hWF c1 c2
 obtain ⟨R, hR⟩ : ∃ R, mayInsM S = R := ⟨_, rfl⟩
 rw [hR]
 unfold mayInsM at hR
 rcases hins : S.ins with _ | ⟨x, r⟩
 · rw [hins] at hR; simp only at hR; subst hR; have hl0 : S.ins.length = 0 := by rw [hins]; rfl
   rw [hl0] at c0
   go_enter Tryz.func69, Tryz.ntmps69
   go_wp2_with fail; go_ret; exact ⟨rfl, bel _ _⟩
 · rw [hins] at hR; simp only at hR; have hx : S.ins[0]? = some x := by rw [hins]; rfl
   have hpos : 0 < S.ins.length := by rw [hins]; simp
   have hnd : S.nums.drop 1 = r.map PIn.num := by unfold PSt.nums; rw [hins]; rfl
   rw [← hins, ← hnd] at hR; obtain ⟨bi, off, ev, rfl, iG0, -, ho, -, d0, d1, d2, d3⟩ := HA.out w (bel _ _) 0 x hx; rw [Nat.zero_mul, Nat.add_zero] at d0 d1 d2 d3; have hposI : ¬ (S.ins.length : Int) = 0 := by omega
   have hposB : ((S.ins.length : Int) == 0) = false := by simpa using hposI
   have HI := Lib.hid (And.intro hins hx); clear hins hx hnd; by_cases h1 : x.num = 1
   · rw [if_pos h1] at hR; have h1p := h1; rw [h1] at d0; by_cases h2 : x.dir = true
     · rw [if_pos h2] at hR; rw [h2] at d1; clear h1 h2; obtain ⟨N, hN⟩ : ∃ N, numsB S.made 1 (S.nums.drop 1) = N := ⟨_, rfl⟩
       obtain ⟨A, hA⟩ : ∃ A, S.ins.all (inB S.nums) = A := ⟨_, rfl⟩
       rw [hN, hA] at hR; have HN := Lib.hid (And.intro hN (And.intro hA h1p)); clear hN hA h1p
       go_enter Tryz.func69, Tryz.ntmps69
       go_wp2_with fail
       go_loopw [3] (fun i wr => ∃ (q k : Nat) (y : PIn), i = .int .i64 q ∧ q = k + 1 ∧ q ≤ S.ins.length ∧ S.ins[k]? = some y ∧ numsB S.made y.num (S.nums.drop q) = N ∧ Below w.heap.size w wr) (fun i _ => (S.ins.length - intOf i).toNat)
       case atStart => exact ⟨1, 0, x, rfl, rfl, hpos, HI.out.2, by rw [HN.out.2.2]; exact HN.out.1, bel _ _⟩
       case round =>
        obtain ⟨q, k, y, rfl, hqk, hq, hy, hre, hb⟩ := hrel; have iB : Bel w wr := ⟨hb⟩
        have iL0 : BlockLt b wr := ⟨by have := hb.size; have := ib.lt; omega⟩
        have iLi : BlockLt bi wr := ⟨by have := hb.size; have := iG0.lt; omega⟩
        have c0r : wr.cell? ⟨b, 0, none⟩ = some (.slice (some ⟨bi, off, none⟩) S.ins.length cap) := (hb.cell (p := ⟨b, 0, none⟩) ib.lt).trans c0; by_cases hlt : q < S.ins.length
        · obtain ⟨z, hz⟩ : ∃ z, S.ins[q]? = some z := ⟨_, gE hlt⟩
          have hzn : S.nums[q]? = some z.num := by unfold PSt.nums; rw [gM, hz]; rfl
          rw [drop_at hzn] at hre; unfold numsB at hre; obtain ⟨_, _, ev1, he1, _, _, _, _, y0, _, _, _⟩ := HA.out wr hb k y hy; cases he1; obtain ⟨_, _, ev2, he2, _, _, _, _, z0, _, _, _⟩ := HA.out wr hb q z hz; cases he2; have hwz := (HW.out z (mG hz)).1; have hcn : ∀ ww, Below w.heap.size w ww → Calls Tryz.prog 100 #[.pointer (some ⟨b, 0, none⟩), .int .i64 z.num] ww _ := fun ww hww => hnum ww hww z.num hwz
          have e1 : (q : Int) - 1 = k := by omega
          have hkl : k < S.ins.length := by omega
          have e2 : IntKind.i64.wrap (k : Int) = k := I64.wrap ⟨by omega, by omega⟩; have HQK := Lib.hid hqk; have HZ := Lib.hid hz; have hltI : (q : Int) < S.ins.length := by omega
          clear hqk hz hzn hnum hent hy hwz; by_cases h1 : z.num ≤ y.num
          · rw [if_pos h1] at hre; subst hre; simp only [Bool.false_and] at hR; subst hR; go_wp2_with fail; refine wp_region_quiet_rest (by kernel_rfl) (by kernel_rfl) (WQ.out ?_)
            repeat
             refine WQ_step (fun K hK => ?_); go_simp
             first
              | (refine hK _ ?_; clear hK K)
              | (apply Exists.intro
                 refine ⟨fun _ => ?_, hK _ ?_⟩
                 focus ((first | refine cI (hcn _ (bel _ _)) | refine cJ (hcn _ (bel _ _))))
                 clear hK K)
            refine WN fun p => ?_; go_wp2_with fail; exact bodyPost_ret (v := .bool false) (by simp [results, Tryz.results69, go_sem]) rfl ⟨rfl, bel _ _⟩
          · rw [if_neg h1] at hre; generalize mayNumM S.made z.num = mb at hcn hre; rcases mb with _ | _
            · rw [if_pos rfl] at hre; subst hre; simp only [Bool.false_and] at hR; subst hR; go_wp2_with fail; refine wp_region_quiet_rest (by kernel_rfl) (by kernel_rfl) (WQ.out ?_)
              repeat
               refine WQ_step (fun K hK => ?_); go_simp
               first
                | (refine hK _ ?_; clear hK K)
                | (apply Exists.intro
                   refine ⟨fun _ => ?_, hK _ ?_⟩
                   focus ((first | refine cI (hcn _ (bel _ _)) | refine cJ (hcn _ (bel _ _))))
                   clear hK K)
              refine WN fun p => ?_; go_wp2_with fail; exact bodyPost_ret (v := .bool false) (by simp [results, Tryz.results69, go_sem]) rfl ⟨rfl, bel _ _⟩
            · rw [if_neg (by decide)] at hre; have HRE := Lib.hid hre; clear hre; go_wp2_with fail; refine wp_region_quiet_rest (by kernel_rfl) (by kernel_rfl) (WQ.out ?_)
              repeat
               refine WQ_step (fun K hK => ?_); go_simp
               first
                | (refine hK _ ?_; clear hK K)
                | (apply Exists.intro
                   refine ⟨fun _ => ?_, hK _ ?_⟩
                   focus ((first | refine cI (hcn _ (bel _ _)) | refine cJ (hcn _ (bel _ _))))
                   clear hK K)
              refine WN fun p => ?_; go_wp2_with fail
              go_roundw
              case rel => exact ⟨q + 1, q, z, by go_num, rfl, hlt, HZ.out, HRE.out, bel _ _⟩
              case measure => simp [intOf]; omega
        · have hq1 : q = S.ins.length := by omega
          have hnl : S.nums.length = S.ins.length := by unfold PSt.nums; rw [lM]
          rw [List.drop_of_length_le (by omega)] at hre; have HNt : N = true := by rw [← hre]; rfl
          subst HNt; rw [Bool.true_and] at hR; have HQ := Lib.hid hq1; have hltI : ¬ (q : Int) < S.ins.length := by omega
          clear hre hq1 hnl hy hqk; go_wp2_with fail
          go_loopw [77] (fun i w2 => ∃ (q : Nat), i = .int .i64 q ∧ q ≤ S.ins.length ∧ (S.ins.drop q).all (inB S.nums) = A ∧ Below w.heap.size w w2) (fun i _ => (S.ins.length - intOf i).toNat)
          case atStart => exact ⟨0, rfl, by omega, HN.out.2.1, bel _ _⟩
          case round =>
           obtain ⟨q, rfl, hq, hre, hb⟩ := hrel; have iB : Bel w wr := ⟨hb⟩
           have iL0 : BlockLt b wr := ⟨by have := hb.size; have := ib.lt; omega⟩
           have iLi : BlockLt bi wr := ⟨by have := hb.size; have := iG0.lt; omega⟩
           by_cases hlt : q < S.ins.length
           · obtain ⟨z, hz⟩ : ∃ z, S.ins[q]? = some z := ⟨_, gE hlt⟩
             rw [all_drop _ hz] at hre; obtain ⟨_, _, ev1, he1, _, _, ho1, hev, y0, y1, y2, y3⟩ := HA.out wr hb q z hz; cases he1; have hez : z.ents.length ≤ 1000000000 := (HW.out z (mG hz)).2.1; have hce : ∀ ww, Below wr.heap.size wr ww → Calls Tryz.prog 101 #[.pointer (some ⟨b, 0, none⟩), ev1] ww _ := fun ww hww => hent ww (hb.trans (hww.mono hb.size)) ev1 z.ents (hev.below hww (Nat.le_refl _)) hez
             obtain ⟨ae, ce, rfl, -⟩ := hev; rw [lM] at hce y2; have HRE := Lib.hid hre; have HZ := Lib.hid hz; clear hz hre hent hnum ho1; rw [show inB S.nums z = if z.dir then (z.data.toList.isEmpty && mayEntsM S.nums z.ents) else (decide (z.ents.length = 0) && decide (z.data.size ≤ 256)) from rfl] at HRE; by_cases hd : z.dir = true
             · rw [if_pos hd] at HRE; rw [hd] at y1; clear hd; by_cases hdt : z.data.toList.isEmpty = true
               · rw [hdt] at HRE; generalize mayEntsM S.nums z.ents = mb at hce HRE; rcases mb with _ | _
                 · have hA : A = false := by have := HRE.out; simpa using this.symm
                   subst hA; subst hR; go_wp2_with ((go_at_call 101; refine aT (hce _ (bel _ _)) fun p => ?_))
                   exact bodyPost_ret (v := .bool false) (by simp [results, Tryz.results69, go_sem]) rfl ⟨rfl, bel _ _⟩
                 · go_wp2_with ((go_at_call 101; refine aT (hce _ (bel _ _)) fun p => ?_))
                   go_roundw
                   case rel => exact ⟨q + 1, by go_num, by omega, by have := HRE.out; simpa using this, bel _ _⟩
                   case measure => simp [intOf]; omega
               · have hdt : z.data.toList.isEmpty = false := by simpa using hdt
                 have hA : A = false := by have := HRE.out; rw [hdt] at this; simpa using this.symm
                 subst hA; subst hR; go_wp2_with fail; exact bodyPost_ret (v := .bool false) (by simp [results, Tryz.results69, go_sem]) rfl ⟨rfl, bel _ _⟩
             · rw [if_neg hd] at HRE; have hd : z.dir = false := by simpa using hd
               rw [hd] at y1; clear hd; by_cases hl0 : z.ents.length = 0
               · by_cases hsz : z.data.size ≤ 256
                 · have hszI : ¬ (256 : Int) < z.data.size := by omega
                   go_wp2_with fail
                   go_roundw
                   case rel => exact ⟨q + 1, by go_num, by omega, by have := HRE.out; simpa [hl0, hsz] using this, bel _ _⟩
                   case measure => simp [intOf]; omega
                 · have hszI : (256 : Int) < z.data.size := by omega
                   have hA : A = false := by have := HRE.out; simpa [hl0, hsz] using this.symm
                   subst hA; subst hR; go_wp2_with fail; exact bodyPost_ret (v := .bool false) (by simp [results, Tryz.results69, go_sem]) rfl ⟨rfl, bel _ _⟩
               · have hl0I : 0 < (z.ents.length : Int) := by omega
                 have hA : A = false := by have := HRE.out; simpa [hl0] using this.symm
                 subst hA; subst hR; go_wp2_with fail; exact bodyPost_ret (v := .bool false) (by simp [results, Tryz.results69, go_sem]) rfl ⟨rfl, bel _ _⟩
           · rw [List.drop_of_length_le (by omega)] at hre; have hA : A = true := by rw [← hre]; rfl
             subst hA; subst hR; clear hre; go_wp2_with fail; exact bodyPost_ret (v := .bool true) (by simp [results, Tryz.results69, go_sem]) rfl ⟨rfl, bel _ _⟩
     · rw [if_neg h2] at hR; subst hR; have h2 : x.dir = false := by simpa using h2
       rw [h2] at d1
       go_enter Tryz.func69, Tryz.ntmps69
       go_wp2_with fail; go_ret; exact ⟨rfl, bel _ _⟩
   · rw [if_neg h1] at hR; subst hR
     go_enter Tryz.func69, Tryz.ntmps69
     go_wp2_with fail; go_ret; exact ⟨rfl, bel _ _⟩
end Go.Proofs.YtmkapobnfigedaaGreatDoor
