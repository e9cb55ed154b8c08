/- Part of the proof of a law of chapter 15. Conditions: none. -/
import Derived.Test.YtmkapobnfigedaaGreatDoorDp25
set_option linter.unusedVariables false
set_option linter.unusedSimpArgs false
set_option maxRecDepth 100000
set_option maxHeartbeats 8000000
namespace Go.Proofs.YtmkapobnfigedaaGreatDoor
open Go.RowKit
theorem cpC (w : World) (ty : TypeId) (g n cap : Nat) (l : List UInt8) (s : ByteArray) (h : Blk w g (byteAr l) 5) (hl : l.length = n) (hgt : n ≤ s.size) :
 (Builtin.copy_ #[147, 9] ty #[.slice (some ⟨g, 0, none⟩) n cap, .string s]).run Tryz.prog w = .ok (.int .i64 n) (w.setRow g (byteAr (s.data.toList.take n))) := by
 obtain ⟨i, hi, hz, h1, h2⟩ := info_parts info5'
 have hsz : (byteAr l).size = n := by rw [byteAr_size, hl]
 have hln : (Lib.byteCells (s.data.toList.take n)).length = n := by
  rw [Lib.byteCells_length, List.length_take, ← Lib.size_eq]; omega
 have hst := run_storeCells_at Tryz.prog g 0 5 (Lib.byteCells (s.data.toList.take n)) 0 (byteAr l) w h (by rw [hln]; omega) (Lib.byteCells_one _)
 have hmin : Nat.min s.size n = n := Nat.min_eq_right hgt
 have htk : List.take n (List.map (fun b : UInt8 => Value.int IntKind.u8 (b.toNat : Int)) s.data.toList) = Lib.byteCells (s.data.toList.take n) := by
  unfold Lib.byteCells; rw [List.map_take]
 have e : (List.take 0 (byteAr l).toList ++ Lib.byteCells (List.take n s.data.toList) ++ List.drop (0 + n) (byteAr l).toList).toArray = byteAr (s.data.toList.take n) := by
  unfold byteAr; refine congrArg List.toArray ?_; rw [List.take_zero, List.nil_append, List.drop_of_length_le (by have := hsz; unfold byteAr at this; simp at this; simp; omega), List.append_nil]
 rw [hln] at hst
 simp only [Nat.add_zero] at hst
 rw [e] at hst
 have hz1 : i.size = 1 := h1
 simp [Builtin.copy_, run_underlying Tryz.underlying147, Builtin.lenOf, Builtin.firstCells, sizeOf, typeInfo, hi, hmin, hz1]
 rw [htk, hst]
 rfl
def cutB (had : List UInt8) (n : Nat) : List UInt8 := if had.length ≤ n then had ++ List.replicate (n - had.length) 0 else had.take n
def cutM (had : ByteArray) (n : Nat) : ByteArray := ⟨(cutB had.data.toList n).toArray⟩
theorem cutB_len (had : List UInt8) (n : Nat) : (cutB had n).length = n := by
 unfold cutB
 split
 · simp only [lP, List.length_replicate]; omega
 · rw [List.length_take]; omega
theorem cutB_copy (had : ByteArray) (n g : Nat) (W : World) (hB : Blk W g (byteAr (List.replicate n 0)) 5) : ∃ m0 : TypeId → Int, ∀ ty, (Builtin.copy_ #[147, 9] ty #[.slice (some ⟨g, 0, none⟩) n n, .string had]).run Tryz.prog W = .ok (.int .i64 (m0 ty)) (W.setRow g (byteAr (cutB had.data.toList n))) := by
 have hhs : had.data.toList.length = had.size := rfl
 have hcp : ∀ ty, ∃ m : Int, (Builtin.copy_ #[147, 9] ty #[.slice (some ⟨g, 0, none⟩) n n, .string had]).run Tryz.prog W = .ok (.int .i64 m) (W.setRow g (byteAr (cutB had.data.toList n))) := fun ty => by
  unfold cutB; by_cases hle : had.size ≤ n
  · rw [if_pos (by rw [hhs]; exact hle)]; have := cpN W ty g 0 n n (List.replicate n 0) had hB hle (by rw [List.length_replicate]; omega); simp only [List.take_zero, List.nil_append, Nat.zero_add, List.drop_replicate] at this; exact ⟨_, this⟩
  · rw [if_neg (by rw [hhs]; exact hle)]; exact ⟨_, cpC W ty g n n (List.replicate n 0) had hB List.length_replicate (by omega)⟩
 exact ⟨fun ty => Classical.choose (hcp ty), fun ty => Classical.choose_spec (hcp ty)⟩
theorem cut129 (had : ByteArray) (n : Nat) (w : World) (hh : had.size ≤ 1000000) (hn : n ≤ 1000000) :
 Calls Tryz.prog 186 #[.string had, .int .i64 n] w fun e w' => e = .returned (.string (cutM had n)) ∧ Below w.heap.size w w' := by
 have hmk := fun u => mkN n (by omega) u
 have hcpy := cutB_copy had n
 have hlen := cutB_len had.data.toList n
 unfold cutM
 generalize cutB had.data.toList n = L1 at hcpy hlen ⊢
 have HC := Lib.hid hcpy
 clear hcpy
 go_enter Tryz.func186, Tryz.ntmps186
 go_upto_region 2 with fail
 refine abs_world (F := fun W => Blk W w.heap.size (byteAr (List.replicate n 0)) 5 ∧ Below w.heap.size w W) ⟨Blk.new _ _ _, bel _ _⟩ ?_
 obtain ⟨g, hg⟩ : ∃ g, w.heap.size = g := ⟨_, rfl⟩
 rw [hg]
 rintro W ⟨hB, hbW⟩
 have iG := hB.lt
 obtain ⟨m0, hm0⟩ := HC.out g W hB
 have HW := Lib.hid (And.intro hB hbW)
 have HG := Lib.hid hg
 clear hB hbW hg hmk
 go_upto_region 3 with fail
 refine abs_world (F := fun W2 => Blk W2 g (byteAr L1) 5 ∧ Below g w W2) ⟨blk_setRow HW.out.1 _, below_row HW.out.2 (Nat.le_refl _) _⟩ ?_
 clear hm0 iG
 rintro W2 ⟨hB2, hbW2⟩
 have iG := hB2.lt
 have hcv := cvN W2 g n n L1 hB2 hlen
 have HW2 := Lib.hid (And.intro hB2 hbW2)
 clear hB2 hbW2
 go_wp2_with fail
 go_ret
 exact ⟨rfl, by rw [HG.out]; exact HW2.out.2⟩
def vR8x (d : Nat) (OO1 : Int) (SS1 : ByteArray) : Nat → Value
 | 0 => .pointer (some ⟨d, 0, none⟩)
 | 1 => .pointer (some ⟨d, 0, none⟩)
 | 2 => .pointer (some ⟨d, 1, none⟩)
 | 3 => .pointer (some ⟨d, 4, none⟩)
 | 4 => .int .i64 OO1
 | 5 => .pointer (some ⟨d, 0, none⟩)
 | 6 => .pointer (some ⟨d, 0, none⟩)
 | 7 => .pointer (some ⟨d, 1, none⟩)
 | 8 => .pointer (some ⟨d, 8, none⟩)
 | 9 => .string SS1
 | 10 => .int .i64 SS1.size
 | 11 => .int .i64 (OO1 + SS1.size)
 | 12 => .bool true
 | _ => undef
def writeX (S : PSt) (c : PCall) (r : PRes) : Except Int (PSt × PRes) := match fileX S c with
 | none => .error 4
 | some y => if (inM c.off && inM (c.data.size : Int)) = true then (if 256 < c.off + c.data.size then .error 5 else .ok ({ S with ins := S.ins.set y.1 { y.2 with data := layM y.2.data c.off.toNat c.data } }, { r with num := c.data.size })) else .error 9
def truncM (S : PSt) (c : PCall) (r : PRes) : Except Int (PSt × PRes) := match fileX S c with
 | none => .error 4
 | some y => if inM c.num = true then .ok ({ S with ins := S.ins.set y.1 { y.2 with data := cutM y.2.data c.num.toNat } }, r) else .error 9
theorem bytes_writeX (B d b : Nat) (S : PSt) (c : PCall) (r : PRes) (w : World) (h : DoAt B w d b S c r) (hB : B ≤ w.heap.size) (hf : Fine S) (hk : c.kind = 5) (hsz : ∀ x ∈ S.ins, x.data.size ≤ 1000000) (hcd : c.data.size ≤ 1000000000000000000) :
 Calls Tryz.prog 146 #[.pointer (some ⟨d, 0, none⟩)] w (RunOut B w d b c (writeX S c r)) := by
 unfold writeX
 by_cases hin : (inM c.off && inM (c.data.size : Int)) = true
 · have hin' := hin; unfold inM at hin'; simp only [Bool.and_eq_true, decide_eq_true_eq] at hin'; obtain ⟨⟨ho0, ho1⟩, hd0, hd1⟩ := hin'; simp only [hin, if_true]; by_cases hsum : 256 < c.off + c.data.size
   · simp only [hsum, if_true]; obtain ⟨bi, cap, ov, mv, nv, hP⟩ := h.part hf.pos; have ht := hP.file hf; have iD := hP.hD.lt; unfold fileE at ht; generalize hX : fileX S c = X at ht ⊢; rcases X with _ | ⟨K, x⟩
     · simp only at ht ⊢
       go_enter Tryz.func146, Tryz.ntmps146
       go_wp2_with (go_at_call 143; refine ht.mono ?_; rintro e w1 ⟨hb1, rfl⟩)
       exact ⟨rfl, hb1.mono hB, rfl⟩
     simp only at ht ⊢; generalize idxM (isFd c) S.op = I at ht; have hoff := fun ww => in126 c.off ww
     have hnum := fun ww => in126 (c.data.size : Int) ww
     simp only [Bool.and_eq_true] at hin; rw [hin.1] at hoff; rw [hin.2] at hnum; have HP := Lib.hid hP; clear h hP hX hsz
     go_enter Tryz.func146, Tryz.ntmps146
     go_upto_region 1 with (go_at_call 143; refine ht.mono ?_; rintro e w1 ⟨hb1, rfl⟩; have HB := Lib.hid hb1; clear hb1)
     refine abs_world (F := fun wA => DPart B wA d b bi cap ov mv nv S c r ∧ Below w.heap.size w wA) ⟨HP.out.below HB.out, HB.out⟩ ?_; clear ht iD HP HB; rintro wA ⟨hA, hbA⟩; have iD := hA.hD.lt; have a1 : wA.cell? ⟨d, 1, none⟩ = some (.int .i64 c.kind) := hA.hD.cell 1; rw [hk] at a1; have a4 : wA.cell? ⟨d, 4, none⟩ = some (.int .i64 c.off) := hA.hD.cell 4; have a8 : wA.cell? ⟨d, 8, none⟩ = some (.string c.data) := hA.hD.cell 8; have HA := Lib.hid (And.intro hA (And.intro hbA (And.intro a4 a8))); clear hA hbA
     go_upto_region 8 with (first | (go_at_call 183; with_reducible refine aT (hoff _) fun p => ?_) | (go_at_call 183; with_reducible refine aT (hnum _) fun p => ?_) | (go_at_call 172; with_reducible refine aT (throw_no _ _) fun p => ?_))
     refine abs_world (F := fun wz => Below wA.heap.size wA wz) (bel _ _) ?_; intro wz hbz; have z4 := (hbz.cell (p := ⟨d, 4, none⟩) iD.lt).trans HA.out.2.2.1; have z8 := (hbz.cell (p := ⟨d, 8, none⟩) iD.lt).trans HA.out.2.2.2; have hBA : B ≤ wA.heap.size := Nat.le_trans hB HA.out.2.1.size; have hBz : Below B w wz := (HA.out.2.1.mono hB).trans (hbz.mono hBA); have hBl : B ≤ wz.heap.size := Nat.le_trans hBA hbz.size; have jD := Nat.lt_of_lt_of_le iD.lt hbz.size; have hwr : IntKind.i64.wrap (c.off + c.data.size) = c.off + c.data.size := I64.wrap ⟨by omega, by omega⟩; have hgt : decide ((256 : Int) < c.off + c.data.size) = true := decide_eq_true hsum; clear a1 a4 a8; refine wp_region_invW (RV 13 (vR8x d c.off c.data) wz) (by kernel_rfl) (by kernel_rfl) (by kernel_rfl) ?_ ?_ ?_
     · intro σ; exact RV.zero (by decide) (bel wz _)
     · refine ⟨?_, ?_, ?_, ?_, ?_, ?_, ?_, ?_, ?_, ?_, ?_, ?_, ?_, ?_, trivial⟩
       · intro D σ w1 a hnd hw hR hin hout hdf; refine ⟨fun _ => ?_, fun h => absurd h (by simp [Region.wanted])⟩; have e0 : (a.tmps[0]?).getD undef = .pointer (some ⟨d, 0, none⟩) := (evT a 0).symm.trans ((hout 0 (by kernel_rfl)).trans (by kernel_rfl)); refine Oper.wpW (eff_v (v := .pointer (some ⟨d, 0, none⟩)) ?_ (hR.val 0 (by decide))); clear hin hout hw; go_simp
         first | done | rfl
       · intro D σ w1 a hnd hw hR hin hout hdf; refine ⟨fun _ => ?_, fun h => absurd h (by simp [Region.wanted])⟩; have e81 : (a.tmps[81]?).getD undef = .pointer (some ⟨d, 0, none⟩) := (evT a 81).symm.trans ((hin 0 _ 81 rfl rfl).trans (hR.vals 0 (by decide) (hw 0 (by kernel_rfl)))); refine Oper.wpW (eff_v (v := .pointer (some ⟨d, 0, none⟩)) ?_ (hR.val 1 (by decide))); clear hin hout hw; go_simp
         first | done | rfl
       · intro D σ w1 a hnd hw hR hin hout hdf; refine ⟨fun _ => ?_, fun h => absurd h (by simp [Region.wanted])⟩; have e82 : (a.tmps[82]?).getD undef = .pointer (some ⟨d, 0, none⟩) := (evT a 82).symm.trans ((hin 1 _ 82 rfl rfl).trans (hR.vals 1 (by decide) (hw 1 (by kernel_rfl)))); refine Oper.wpW (eff_v (v := .pointer (some ⟨d, 1, none⟩)) ?_ (hR.val 2 (by decide))); clear hin hout hw; go_simp
         first | done | rfl
       · intro D σ w1 a hnd hw hR hin hout hdf; refine ⟨fun _ => ?_, fun h => absurd h (by simp [Region.wanted])⟩; have e83 : (a.tmps[83]?).getD undef = .pointer (some ⟨d, 1, none⟩) := (evT a 83).symm.trans ((hin 2 _ 83 rfl rfl).trans (hR.vals 2 (by decide) (hw 2 (by kernel_rfl)))); refine Oper.wpW (eff_v (v := .pointer (some ⟨d, 4, none⟩)) ?_ (hR.val 3 (by decide))); clear hin hout hw; go_simp
         first | done | rfl
       · intro D σ w1 a hnd hw hR hin hout hdf; refine ⟨fun _ => ?_, fun h => absurd h (by simp [Region.wanted])⟩; have e84 : (a.tmps[84]?).getD undef = .pointer (some ⟨d, 4, none⟩) := (evT a 84).symm.trans ((hin 3 _ 84 rfl rfl).trans (hR.vals 3 (by decide) (hw 3 (by kernel_rfl)))); have hl := (hR.below.cell (by exact jD)).trans z4; have iX : BlockLt d w1 := ⟨Nat.lt_of_lt_of_le jD hR.below.size⟩
         refine Oper.wpW (eff_v (v := .int .i64 c.off) ?_ (hR.val 4 (by decide))); clear hin hout hw; go_simp
         first | done | rfl
       · intro D σ w1 a hnd hw hR hin hout hdf; refine ⟨fun _ => ?_, fun h => absurd h (by simp [Region.wanted])⟩; have e0 : (a.tmps[0]?).getD undef = .pointer (some ⟨d, 0, none⟩) := (evT a 0).symm.trans ((hout 0 (by kernel_rfl)).trans (by kernel_rfl)); refine Oper.wpW (eff_v (v := .pointer (some ⟨d, 0, none⟩)) ?_ (hR.val 5 (by decide))); clear hin hout hw; go_simp
         first | done | rfl
       · intro D σ w1 a hnd hw hR hin hout hdf; refine ⟨fun _ => ?_, fun h => absurd h (by simp [Region.wanted])⟩; have e86 : (a.tmps[86]?).getD undef = .pointer (some ⟨d, 0, none⟩) := (evT a 86).symm.trans ((hin 5 _ 86 rfl rfl).trans (hR.vals 5 (by decide) (hw 5 (by kernel_rfl)))); refine Oper.wpW (eff_v (v := .pointer (some ⟨d, 0, none⟩)) ?_ (hR.val 6 (by decide))); clear hin hout hw; go_simp
         first | done | rfl
       · intro D σ w1 a hnd hw hR hin hout hdf; refine ⟨fun _ => ?_, fun h => absurd h (by simp [Region.wanted])⟩; have e87 : (a.tmps[87]?).getD undef = .pointer (some ⟨d, 0, none⟩) := (evT a 87).symm.trans ((hin 6 _ 87 rfl rfl).trans (hR.vals 6 (by decide) (hw 6 (by kernel_rfl)))); refine Oper.wpW (eff_v (v := .pointer (some ⟨d, 1, none⟩)) ?_ (hR.val 7 (by decide))); clear hin hout hw; go_simp
         first | done | rfl
       · intro D σ w1 a hnd hw hR hin hout hdf; refine ⟨fun _ => ?_, fun h => absurd h (by simp [Region.wanted])⟩; have e88 : (a.tmps[88]?).getD undef = .pointer (some ⟨d, 1, none⟩) := (evT a 88).symm.trans ((hin 7 _ 88 rfl rfl).trans (hR.vals 7 (by decide) (hw 7 (by kernel_rfl)))); refine Oper.wpW (eff_v (v := .pointer (some ⟨d, 8, none⟩)) ?_ (hR.val 8 (by decide))); clear hin hout hw; go_simp
         first | done | rfl
       · intro D σ w1 a hnd hw hR hin hout hdf; refine ⟨fun _ => ?_, fun h => absurd h (by simp [Region.wanted])⟩; have e89 : (a.tmps[89]?).getD undef = .pointer (some ⟨d, 8, none⟩) := (evT a 89).symm.trans ((hin 8 _ 89 rfl rfl).trans (hR.vals 8 (by decide) (hw 8 (by kernel_rfl)))); have hl := (hR.below.cell (by exact jD)).trans z8; have iX : BlockLt d w1 := ⟨Nat.lt_of_lt_of_le jD hR.below.size⟩
         refine Oper.wpW (eff_v (v := .string c.data) ?_ (hR.val 9 (by decide))); clear hin hout hw; go_simp
         first | done | rfl
       · intro D σ w1 a hnd hw hR hin hout hdf; refine ⟨fun _ => ?_, fun h => absurd h (by simp [Region.wanted])⟩; have e90 : (a.tmps[90]?).getD undef = .string c.data := (evT a 90).symm.trans ((hin 9 _ 90 rfl rfl).trans (hR.vals 9 (by decide) (hw 9 (by kernel_rfl)))); refine Oper.wpW (eff_v (v := .int .i64 c.data.size) ?_ (hR.val 10 (by decide))); clear hin hout hw; go_simp
         first | done | rfl
       · intro D σ w1 a hnd hw hR hin hout hdf; refine ⟨fun _ => ?_, fun h => absurd h (by simp [Region.wanted])⟩; have e85 : (a.tmps[85]?).getD undef = .int .i64 c.off := (evT a 85).symm.trans ((hin 4 _ 85 rfl rfl).trans (hR.vals 4 (by decide) (hw 4 (by kernel_rfl)))); have e91 : (a.tmps[91]?).getD undef = .int .i64 c.data.size := (evT a 91).symm.trans ((hin 10 _ 91 rfl rfl).trans (hR.vals 10 (by decide) (hw 10 (by kernel_rfl)))); refine Oper.wpW (eff_v (v := .int .i64 (c.off + c.data.size)) ?_ (hR.val 11 (by decide))); clear hin hout hw; go_simp
         first | done | rfl
       · intro D σ w1 a hnd hw hR hin hout hdf; refine ⟨fun _ => ?_, fun h => absurd h (by simp [Region.wanted])⟩; have e92 : (a.tmps[92]?).getD undef = .int .i64 (c.off + c.data.size) := (evT a 92).symm.trans ((hin 11 _ 92 rfl rfl).trans (hR.vals 11 (by decide) (hw 11 (by kernel_rfl)))); refine Oper.wpW (eff_v (v := .bool true) ?_ (hR.val 12 (by decide))); clear hin hout hw; go_simp
         first | done | rfl
       · intro D σ w1 a hnd hw hR hin hout hdf; refine ⟨fun _ => ?_, fun h => absurd h (by simp [Region.wanted])⟩; have e93 : (a.tmps[93]?).getD undef = .bool true := (evT a 93).symm.trans ((hin 12 _ 93 rfl rfl).trans (hR.vals 12 (by decide) (hw 12 (by kernel_rfl)))); intro nx _; refine Oper.wpX 172 #[.bool true, .int .i64 5] ?_ ((throw_yes 5 w1).mono fun e w' ⟨he, hb2⟩ => ⟨_, he, hdf, hBz.trans ((hR.below.trans (hb2.mono hR.below.size)).mono hBl), rfl⟩); clear hin hout hw; go_simp
         first | done | rfl
     · intro σ w1 hR; exact absurd trivial hR.no
   · simp only [hsum, if_false]; have := bytes_write B d b S c r w h hB hf hk ho0 (by omega) hsz; unfold writeM at this; exact this
 · simp only [hin, if_false]; obtain ⟨bi, cap, ov, mv, nv, hP⟩ := h.part hf.pos; have ht := hP.file hf; have iD := hP.hD.lt; unfold fileE at ht; generalize hX : fileX S c = X at ht ⊢; rcases X with _ | ⟨K, x⟩
   · simp only at ht ⊢
     go_enter Tryz.func146, Tryz.ntmps146
     go_wp2_with (go_at_call 143; refine ht.mono ?_; rintro e w1 ⟨hb1, rfl⟩)
     exact ⟨rfl, hb1.mono hB, rfl⟩
   simp only at ht ⊢; generalize idxM (isFd c) S.op = I at ht; have hoff := fun ww => in126 c.off ww
   have hnum := fun ww => in126 (c.data.size : Int) ww
   generalize inM c.off = i1 at hin hoff; generalize inM (c.data.size : Int) = i2 at hin hnum; have HP := Lib.hid hP; clear h hP hX hsz
   go_enter Tryz.func146, Tryz.ntmps146
   go_upto_region 1 with (go_at_call 143; refine ht.mono ?_; rintro e w1 ⟨hb1, rfl⟩; have HB := Lib.hid hb1; clear hb1)
   refine abs_world (F := fun wA => DPart B wA d b bi cap ov mv nv S c r ∧ Below w.heap.size w wA) ⟨HP.out.below HB.out, HB.out⟩ ?_; clear ht iD HP HB; rintro wA ⟨hA, hbA⟩; have iD := hA.hD.lt; have a1 : wA.cell? ⟨d, 1, none⟩ = some (.int .i64 c.kind) := hA.hD.cell 1; rw [hk] at a1; have a4 : wA.cell? ⟨d, 4, none⟩ = some (.int .i64 c.off) := hA.hD.cell 4; have a8 : wA.cell? ⟨d, 8, none⟩ = some (.string c.data) := hA.hD.cell 8; have HA := Lib.hid (And.intro hA hbA); clear hA; rcases i1 with _ | _
   · go_wp2_with (first | (go_at_call 183; with_reducible refine aT (hoff _) fun p => ?_) | (go_at_call 172; with_reducible refine aE (throw_yes _ _) fun p => ?_))
     exact ⟨rfl, (hbA.mono hB).trans ((bel wA _).mono (Nat.le_trans hB hbA.size)), rfl⟩
   · rcases i2 with _ | _
     · go_wp2_with (first | (go_at_call 183; with_reducible refine aT (hoff _) fun p => ?_) | (go_at_call 183; with_reducible refine aT (hnum _) fun p => ?_) | (go_at_call 172; with_reducible refine aE (throw_yes _ _) fun p => ?_))
       exact ⟨rfl, (hbA.mono hB).trans ((bel wA _).mono (Nat.le_trans hB hbA.size)), rfl⟩
     · exact absurd rfl hin
theorem bytes_trunc (B d b : Nat) (S : PSt) (c : PCall) (r : PRes) (w : World) (h : DoAt B w d b S c r) (hB : B ≤ w.heap.size) (hf : Fine S) (hk : c.kind = 6) (hsz : ∀ x ∈ S.ins, x.data.size ≤ 1000000) :
 Calls Tryz.prog 146 #[.pointer (some ⟨d, 0, none⟩)] w (RunOut B w d b c (truncM S c r)) := by
 unfold truncM
 obtain ⟨bi, cap, ov, mv, nv, hP⟩ := h.part hf.pos
 have ht := hP.file hf
 have iD := hP.hD.lt
 unfold fileE at ht
 generalize hX : fileX S c = X at ht ⊢
 rcases X with _ | ⟨K, x⟩
 · simp only at ht ⊢
   go_enter Tryz.func146, Tryz.ntmps146
   go_wp2_with (go_at_call 143; refine ht.mono ?_; rintro e w1 ⟨hb1, rfl⟩)
   exact ⟨rfl, hb1.mono hB, rfl⟩
 · simp only at ht ⊢; obtain ⟨hx, hKl⟩ := fileX_at hX; have hxs := hsz x (mG hx); generalize idxM (isFd c) S.op = I at ht; have hoff := fun ww => in126 c.num ww
   rcases hi : inM c.num with _ | _
   · rw [hi] at hoff; simp only [Bool.false_eq_true, if_false]; have HP := Lib.hid hP; clear h hP hX hsz
     go_enter Tryz.func146, Tryz.ntmps146
     go_upto_region 1 with (go_at_call 143; refine ht.mono ?_; rintro e w1 ⟨hb1, rfl⟩; have HB := Lib.hid hb1; clear hb1)
     refine abs_world (F := fun wA => DPart B wA d b bi cap ov mv nv S c r ∧ Below w.heap.size w wA) ⟨HP.out.below HB.out, HB.out⟩ ?_; clear ht iD HP HB; rintro wA ⟨hA, hbA⟩; have iD := hA.hD.lt; have a1 : wA.cell? ⟨d, 1, none⟩ = some (.int .i64 c.kind) := hA.hD.cell 1; rw [hk] at a1; have a5 : wA.cell? ⟨d, 5, none⟩ = some (.int .i64 c.num) := hA.hD.cell 5; clear hA; go_wp2_with (first | (go_at_call 183; with_reducible refine aT (hoff _) fun p => ?_) | (go_at_call 172; with_reducible refine aE (throw_yes _ _) fun p => ?_))
     exact ⟨rfl, (hbA.mono hB).trans ((bel wA _).mono (Nat.le_trans hB hbA.size)), rfl⟩
   · rw [hi] at hoff; simp only [if_true]; have hi' := hi; unfold inM at hi'; simp only [Bool.and_eq_true, decide_eq_true_eq] at hi'; obtain ⟨o, ho⟩ : ∃ o : Nat, c.num = o := ⟨c.num.toNat, by omega⟩
     have hcu := fun ww => cut129 x.data o ww (by omega) (by omega)
     have eo : c.num.toNat = o := by omega
     rw [eo]; rw [ho] at hoff; generalize cutM x.data o = z at hcu ⊢; have HO := Lib.hid ho; clear eo ho hi hi'; have HP := Lib.hid hP; clear h hP hX hsz
     go_enter Tryz.func146, Tryz.ntmps146
     go_upto_region 1 with (go_at_call 143; refine ht.mono ?_; rintro e w1 ⟨hb1, rfl⟩; have HB := Lib.hid hb1; clear hb1)
     refine abs_world (F := fun wA => DPart B wA d b bi cap ov mv nv S c r ∧ Below w.heap.size w wA) ⟨HP.out.below HB.out, HB.out⟩ ?_; clear ht iD HP HB; rintro wA ⟨hA, hbA⟩; have iD := hA.hD.lt; have a1 : wA.cell? ⟨d, 1, none⟩ = some (.int .i64 c.kind) := hA.hD.cell 1; rw [hk] at a1; have a5 : wA.cell? ⟨d, 5, none⟩ = some (.int .i64 c.num) := hA.hD.cell 5; rw [HO.out] at a5; obtain ⟨iI, x0, x1, x3⟩ := hA.dat hx; obtain ⟨hge, cc, hcc⟩ := hA.ge_bi hx; have f3 := hcc.frozen (K * 4 + 3); have nbd : ¬ bi = d := hcc.ne_ hA.hD (by decide); have nbd2 : ¬ d = bi := fun e => nbd e.symm
     have HA := Lib.hid (And.intro hA (And.intro hbA (And.intro hx hge))); clear hA hbA hx hge hcc
     go_upto_region 13 with (first | (go_at_call 183; with_reducible refine aT (hoff _) fun p => ?_) | (go_at_call 172; with_reducible refine aT (throw_no _ _) fun p => ?_))
     refine wp_region_eff [10, 13] true (fun w' => w'.cell? ⟨d, 5, none⟩ = some (.int .i64 o) ∧ w'.cell? ⟨bi, K * 4 + 3, none⟩ = some (.string x.data)) (by kernel_rfl) (by kernel_rfl) ?_ ?_
     · (try dsimp only); (repeat' apply And.intro) <;> go_simp
     repeat
      refine wpL_look rfl rfl ?_; apply Exists.intro; refine ⟨?_, ?_⟩
      focus
       rintro w' ⟨s0, s1⟩; go_simp
       first | done | rfl
      simp only [Act.put, sA, sZ, sS]
     refine wpL_act rfl rfl ?_; refine eff_call 186 #[.string x.data, .int .i64 o] ?hr ?_
     case hr =>
      go_simp
      first | done | rfl
     refine aT (hcu _) fun q1 => ?_; refine ⟨_, rfl, .inl ?_, ?_⟩
     · (try dsimp only); (repeat' apply And.intro) <;> go_simp
     simp only [Act.put, sA, sZ, sS]
     repeat
      refine wpL_look rfl rfl ?_; apply Exists.intro; refine ⟨?_, ?_⟩
      focus
       rintro w' ⟨s0, s1⟩; go_simp
       first | done | rfl
      simp only [Act.put, sA, sZ, sS]
     refine wpL_skip rfl rfl ?_; apply Exists.intro; refine ⟨?_, .inr ⟨rfl, rfl⟩, ?_⟩
     focus
      go_simp; rfl
     simp only [Act.put, sA, sZ, sS]; refine wpL_end ?_; clear a5 x0 x1 x3; go_wp2_with fail; have hbs : Below B w (wA.setCell ⟨bi, K * 4 + 3, none⟩ (.string z)) := (HA.out.2.1.mono hB).setCell (p := ⟨bi, K * 4 + 3, none⟩) HA.out.2.2.2 _; exact bodyPost_end (v := .tuple #[]) (by simp [results, go_sem]) rfl ⟨hbs.trans ((bel _ _).mono (Nat.le_trans hB hbs.size)), rfl, ((HA.out.1.setData HA.out.2.2.1 z).below (bel _ _)).at_⟩
end Go.Proofs.YtmkapobnfigedaaGreatDoor
