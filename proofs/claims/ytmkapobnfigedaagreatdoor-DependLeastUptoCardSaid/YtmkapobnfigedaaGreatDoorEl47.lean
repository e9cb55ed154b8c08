/- A doer's bytes at Write and Truncate, whatever they come to. Conditions: none. model.Do, whatever the call and the state. Conditions: none. Keys of calls, as they are gathered. Conditions: none. What a call that is done tells of its paths; the state behind it is of a fit size. Conditions: none. path.Print. Conditions: none. model.Find. Conditions: none. A gatherer of keys as it lies; add, inode. Conditions: none. The gatherer's inode, entry, opened. Conditions: none. The gatherer's walk, entry. Conditions: none. The state behind a call is of a fit size. Conditions: none. -/
import Derived.Test.YtmkapobnfigedaaGreatDoorEl39
import Derived.Test.YtmkapobnfigedaaGreatDoorEl40
import Derived.Test.YtmkapobnfigedaaGreatDoorEl46
import Derived.Test.YtmkapobnfigedaaGreatDoorEl32
import Derived.Test.YtmkapobnfigedaaGreatDoorEl31
set_option linter.unusedVariables false
set_option linter.unusedSimpArgs false
namespace Go.Proofs.YtmkapobnfigedaaGreatDoor
open Go.RowKit
theorem cpC (w : World) (ty : TypeId) (g n cap : Nat) (l : List UInt8) (s : ByteArray) (h : Blk w g (byteAr l) 5) (hl : l.length = n) (hgt : n ≤ s.size) :
 (Builtin.copy_ #[147, 9] ty #[.slice (some ⟨g, 0, none⟩) n cap, .string s]).run Tryz.prog w = .ok (.int .i64 n) (w.setRow g (byteAr (s.data.toList.take n))) := by
 obtain ⟨i, hi, hz, h1, h2⟩ := info_parts info5'
 have hsz : (byteAr l).size = n := by rw [byteAr_size, hl]
 have hln : (Lib.byteCells (s.data.toList.take n)).length = n := by
  rw [Lib.byteCells_length, List.length_take, ← Lib.size_eq]; omega
 have hst := run_storeCells_at Tryz.prog g 0 5 (Lib.byteCells (s.data.toList.take n)) 0 (byteAr l) w h (by rw [hln]; omega) (Lib.byteCells_one _)
 have hmin : Nat.min s.size n = n := Nat.min_eq_right hgt
 have htk : List.take n (List.map (fun b : UInt8 => Value.int IntKind.u8 (b.toNat : Int)) s.data.toList) = Lib.byteCells (s.data.toList.take n) := by
  unfold Lib.byteCells; rw [List.map_take]
 have e : (List.take 0 (byteAr l).toList ++ Lib.byteCells (List.take n s.data.toList) ++ List.drop (0 + n) (byteAr l).toList).toArray = byteAr (s.data.toList.take n) := by
  unfold byteAr; refine congrArg List.toArray ?_; rw [List.take_zero, List.nil_append, List.drop_of_length_le (by have := hsz; unfold byteAr at this; simp at this; simp; omega), List.append_nil]
 rw [hln] at hst
 simp only [Nat.add_zero] at hst
 rw [e] at hst
 have hz1 : i.size = 1 := h1
 simp [Builtin.copy_, run_underlying Tryz.underlying147, Builtin.lenOf, Builtin.firstCells, sizeOf, typeInfo, hi, hmin, hz1]
 rw [htk, hst]
 rfl
def cutB (had : List UInt8) (n : Nat) : List UInt8 := if had.length ≤ n then had ++ List.replicate (n - had.length) 0 else had.take n
def cutM (had : ByteArray) (n : Nat) : ByteArray := ⟨(cutB had.data.toList n).toArray⟩
theorem cutB_len (had : List UInt8) (n : Nat) : (cutB had n).length = n := by
 unfold cutB
 split
 · simp only [List.length_append, List.length_replicate]; omega
 · rw [List.length_take]; omega
theorem cutB_copy (had : ByteArray) (n g : Nat) (W : World) (hB : Blk W g (byteAr (List.replicate n 0)) 5) : ∃ m0 : TypeId → Int, ∀ ty, (Builtin.copy_ #[147, 9] ty #[.slice (some ⟨g, 0, none⟩) n n, .string had]).run Tryz.prog W = .ok (.int .i64 (m0 ty)) (W.setRow g (byteAr (cutB had.data.toList n))) := by
 have hhs : had.data.toList.length = had.size := rfl
 have hcp : ∀ ty, ∃ m : Int, (Builtin.copy_ #[147, 9] ty #[.slice (some ⟨g, 0, none⟩) n n, .string had]).run Tryz.prog W = .ok (.int .i64 m) (W.setRow g (byteAr (cutB had.data.toList n))) := fun ty => by
  unfold cutB; by_cases hle : had.size ≤ n
  · rw [if_pos (by rw [hhs]; exact hle)]; have := cpN W ty g 0 n n (List.replicate n 0) had hB hle (by rw [List.length_replicate]; omega); simp only [List.take_zero, List.nil_append, Nat.zero_add, List.drop_replicate] at this; exact ⟨_, this⟩
  · rw [if_neg (by rw [hhs]; exact hle)]; exact ⟨_, cpC W ty g n n (List.replicate n 0) had hB List.length_replicate (by omega)⟩
 exact ⟨fun ty => Classical.choose (hcp ty), fun ty => Classical.choose_spec (hcp ty)⟩
set_option maxRecDepth 100000 in
set_option maxHeartbeats 4000000 in
theorem cut129 (had : ByteArray) (n : Nat) (w : World) (hh : had.size ≤ 1000000) (hn : n ≤ 1000000) :
 Calls Tryz.prog 186 #[.string had, .int .i64 n] w fun e w' => e = .returned (.string (cutM had n)) ∧ Below w.heap.size w w' := by
 have hmk := fun u => mkN n (by omega) u
 have hcpy := cutB_copy had n
 have hlen := cutB_len had.data.toList n
 unfold cutM
 generalize cutB had.data.toList n = L1 at hcpy hlen ⊢
 have HC := Lib.hid hcpy
 clear hcpy
 go_enter Tryz.func186, Tryz.ntmps186
 go_upto_region 2 with fail
 refine abs_world (F := fun W => Blk W w.heap.size (byteAr (List.replicate n 0)) 5 ∧ Below w.heap.size w W) ⟨Blk.new _ _ _, bel _ _⟩ ?_
 obtain ⟨g, hg⟩ : ∃ g, w.heap.size = g := ⟨_, rfl⟩
 rw [hg]
 rintro W ⟨hB, hbW⟩
 have iG := hB.lt
 obtain ⟨m0, hm0⟩ := HC.out g W hB
 have HW := Lib.hid (And.intro hB hbW)
 have HG := Lib.hid hg
 clear hB hbW hg hmk
 go_upto_region 3 with fail
 refine abs_world (F := fun W2 => Blk W2 g (byteAr L1) 5 ∧ Below g w W2) ⟨blk_setRow HW.out.1 _, below_row HW.out.2 (Nat.le_refl _) _⟩ ?_
 clear hm0 iG
 rintro W2 ⟨hB2, hbW2⟩
 have iG := hB2.lt
 have hcv := cvN W2 g n n L1 hB2 hlen
 have HW2 := Lib.hid (And.intro hB2 hbW2)
 clear hB2 hbW2
 go_wp2_with fail
 go_ret
 exact ⟨rfl, by rw [HG.out]; exact HW2.out.2⟩
structure R8x (d : Nat) (OO1 : Int) (SS1 : ByteArray) (w0 : World) (D : Nat → Prop) (σ : Nat → Value) (w : World) : Prop where
 c0 : D 0 → σ 0 = .pointer (some ⟨d, 0, none⟩)
 c1 : D 1 → σ 1 = .pointer (some ⟨d, 0, none⟩)
 c2 : D 2 → σ 2 = .pointer (some ⟨d, 1, none⟩)
 c3 : D 3 → σ 3 = .pointer (some ⟨d, 4, none⟩)
 c4 : D 4 → σ 4 = .int .i64 OO1
 c5 : D 5 → σ 5 = .pointer (some ⟨d, 0, none⟩)
 c6 : D 6 → σ 6 = .pointer (some ⟨d, 0, none⟩)
 c7 : D 7 → σ 7 = .pointer (some ⟨d, 1, none⟩)
 c8 : D 8 → σ 8 = .pointer (some ⟨d, 8, none⟩)
 c9 : D 9 → σ 9 = .string SS1
 c10 : D 10 → σ 10 = .int .i64 SS1.size
 c11 : D 11 → σ 11 = .int .i64 (OO1 + SS1.size)
 c12 : D 12 → σ 12 = .bool true
 no : ¬ D 13
 below : Below w0.heap.size w0 w
def writeX (S : PSt) (c : PCall) (r : PRes) : Except Int (PSt × PRes) := match fileX S c with
 | none => .error 4
 | some y => if (inM c.off && inM (c.data.size : Int)) = true then (if 256 < c.off + c.data.size then .error 5 else .ok ({ S with ins := S.ins.set y.1 { y.2 with data := layM y.2.data c.off.toNat c.data } }, { r with num := c.data.size })) else .error 9
def truncM (S : PSt) (c : PCall) (r : PRes) : Except Int (PSt × PRes) := match fileX S c with
 | none => .error 4
 | some y => if inM c.num = true then .ok ({ S with ins := S.ins.set y.1 { y.2 with data := cutM y.2.data c.num.toNat } }, r) else .error 9
set_option maxRecDepth 100000 in
set_option maxHeartbeats 4000000 in
theorem bytes_writeX (B d b : Nat) (S : PSt) (c : PCall) (r : PRes) (w : World) (h : DoAt B w d b S c r) (hB : B ≤ w.heap.size) (hf : Fine S) (hk : c.kind = 5) (hsz : ∀ x ∈ S.ins, x.data.size ≤ 1000000) (hcd : c.data.size ≤ 1000000000000000000) :
 Calls Tryz.prog 146 #[.pointer (some ⟨d, 0, none⟩)] w (RunOut B w d b c (writeX S c r)) := by
 unfold writeX
 by_cases hin : (inM c.off && inM (c.data.size : Int)) = true
 · have hin' := hin; unfold inM at hin'; simp only [Bool.and_eq_true, decide_eq_true_eq] at hin'; obtain ⟨⟨ho0, ho1⟩, hd0, hd1⟩ := hin'; simp only [hin, if_true]; by_cases hsum : 256 < c.off + c.data.size
   · simp only [hsum, if_true]; obtain ⟨bi, cap, ov, mv, nv, hP⟩ := h.part hf.pos; have ht := hP.file hf; have iD := hP.hD.lt; unfold fileE at ht; generalize hX : fileX S c = X at ht ⊢; rcases X with _ | ⟨K, x⟩
     · simp only at ht ⊢
       go_enter Tryz.func146, Tryz.ntmps146
       go_wp2_with (go_at_call 143; refine ht.mono ?_; rintro e w1 ⟨hb1, rfl⟩)
       exact ⟨rfl, hb1.mono hB, rfl⟩
     simp only at ht ⊢; generalize idxM (isFd c) S.op = I at ht; have hoff := fun ww => in126 c.off ww
     have hnum := fun ww => in126 (c.data.size : Int) ww
     simp only [Bool.and_eq_true] at hin; rw [hin.1] at hoff; rw [hin.2] at hnum; have HP := Lib.hid hP; clear h hP hX hsz
     go_enter Tryz.func146, Tryz.ntmps146
     go_upto_region 1 with (go_at_call 143; refine ht.mono ?_; rintro e w1 ⟨hb1, rfl⟩; have HB := Lib.hid hb1; clear hb1)
     refine abs_world (F := fun wA => DPart B wA d b bi cap ov mv nv S c r ∧ Below w.heap.size w wA) ⟨HP.out.below HB.out, HB.out⟩ ?_; clear ht iD HP HB; rintro wA ⟨hA, hbA⟩; have iD := hA.hD.lt; have a1 : wA.cell? ⟨d, 1, none⟩ = some (.int .i64 c.kind) := hA.hD.cell 1; rw [hk] at a1; have a4 : wA.cell? ⟨d, 4, none⟩ = some (.int .i64 c.off) := hA.hD.cell 4; have a8 : wA.cell? ⟨d, 8, none⟩ = some (.string c.data) := hA.hD.cell 8; have HA := Lib.hid (And.intro hA (And.intro hbA (And.intro a4 a8))); clear hA hbA
     go_upto_region 8 with (first | (go_at_call 183; with_reducible refine (hoff _).mono ?_; rintro e w' ⟨rfl, hb⟩; obtain ⟨p, rfl⟩ := hb.rest; clear hb) | (go_at_call 183; with_reducible refine (hnum _).mono ?_; rintro e w' ⟨rfl, hb⟩; obtain ⟨p, rfl⟩ := hb.rest; clear hb) | (go_at_call 172; with_reducible refine (throw_no _ _).mono ?_; rintro e w' ⟨rfl, hb⟩; obtain ⟨p, rfl⟩ := hb.rest; clear hb))
     refine abs_world (F := fun wz => Below wA.heap.size wA wz) (bel _ _) ?_; intro wz hbz; have z4 := (hbz.cell (p := ⟨d, 4, none⟩) iD.lt).trans HA.out.2.2.1; have z8 := (hbz.cell (p := ⟨d, 8, none⟩) iD.lt).trans HA.out.2.2.2; have hBA : B ≤ wA.heap.size := Nat.le_trans hB HA.out.2.1.size; have hBz : Below B w wz := (HA.out.2.1.mono hB).trans (hbz.mono hBA); have hBl : B ≤ wz.heap.size := Nat.le_trans hBA hbz.size; have jD := Nat.lt_of_lt_of_le iD.lt hbz.size; have hwr : IntKind.i64.wrap (c.off + c.data.size) = c.off + c.data.size := I64.wrap ⟨by omega, by omega⟩; have hgt : decide ((256 : Int) < c.off + c.data.size) = true := decide_eq_true hsum; clear a1 a4 a8; refine wp_region_invW (R8x d c.off c.data wz) (by kernel_rfl) (by kernel_rfl) (by kernel_rfl) ?_ ?_ ?_
     · intro σ; have no : ∀ {k : Nat}, k < 14 → ∀ {p : Prop}, 14 ≤ k → p := fun h _ h2 => absurd h2 (by omega)
       exact ⟨no (by decide), no (by decide), no (by decide), no (by decide), no (by decide), no (by decide), no (by decide), no (by decide), no (by decide), no (by decide), no (by decide), no (by decide), no (by decide), no (by decide), bel wz _⟩
     · refine ⟨?_, ?_, ?_, ?_, ?_, ?_, ?_, ?_, ?_, ?_, ?_, ?_, ?_, ?_, trivial⟩
       · intro D σ w1 a hnd hw hR hin hout hdf; refine ⟨fun _ => ?_, fun h => absurd h (by simp [Region.wanted])⟩; have e0 : (a.tmps[0]?).getD undef = .pointer (some ⟨d, 0, none⟩) := (evT a 0).symm.trans ((hout 0 (by kernel_rfl)).trans (by kernel_rfl)); refine Oper.wpW (eff_v (v := .pointer (some ⟨d, 0, none⟩)) ?_ ⟨fun _ => rfl, fun h => hR.c1 (h.resolve_left (by decide)), fun h => hR.c2 (h.resolve_left (by decide)), fun h => hR.c3 (h.resolve_left (by decide)), fun h => hR.c4 (h.resolve_left (by decide)), fun h => hR.c5 (h.resolve_left (by decide)), fun h => hR.c6 (h.resolve_left (by decide)), fun h => hR.c7 (h.resolve_left (by decide)), fun h => hR.c8 (h.resolve_left (by decide)), fun h => hR.c9 (h.resolve_left (by decide)), fun h => hR.c10 (h.resolve_left (by decide)), fun h => hR.c11 (h.resolve_left (by decide)), fun h => hR.c12 (h.resolve_left (by decide)), fun h => hR.no (h.resolve_left (by decide)), hR.below⟩); clear hin hout hw; go_simp
         first | done | rfl
       · intro D σ w1 a hnd hw hR hin hout hdf; refine ⟨fun _ => ?_, fun h => absurd h (by simp [Region.wanted])⟩; have e81 : (a.tmps[81]?).getD undef = .pointer (some ⟨d, 0, none⟩) := (evT a 81).symm.trans ((hin 0 _ 81 rfl rfl).trans (hR.c0 (hw 0 (by kernel_rfl)))); refine Oper.wpW (eff_v (v := .pointer (some ⟨d, 0, none⟩)) ?_ ⟨fun h => hR.c0 (h.resolve_left (by decide)), fun _ => rfl, fun h => hR.c2 (h.resolve_left (by decide)), fun h => hR.c3 (h.resolve_left (by decide)), fun h => hR.c4 (h.resolve_left (by decide)), fun h => hR.c5 (h.resolve_left (by decide)), fun h => hR.c6 (h.resolve_left (by decide)), fun h => hR.c7 (h.resolve_left (by decide)), fun h => hR.c8 (h.resolve_left (by decide)), fun h => hR.c9 (h.resolve_left (by decide)), fun h => hR.c10 (h.resolve_left (by decide)), fun h => hR.c11 (h.resolve_left (by decide)), fun h => hR.c12 (h.resolve_left (by decide)), fun h => hR.no (h.resolve_left (by decide)), hR.below⟩); clear hin hout hw; go_simp
         first | done | rfl
       · intro D σ w1 a hnd hw hR hin hout hdf; refine ⟨fun _ => ?_, fun h => absurd h (by simp [Region.wanted])⟩; have e82 : (a.tmps[82]?).getD undef = .pointer (some ⟨d, 0, none⟩) := (evT a 82).symm.trans ((hin 1 _ 82 rfl rfl).trans (hR.c1 (hw 1 (by kernel_rfl)))); refine Oper.wpW (eff_v (v := .pointer (some ⟨d, 1, none⟩)) ?_ ⟨fun h => hR.c0 (h.resolve_left (by decide)), fun h => hR.c1 (h.resolve_left (by decide)), fun _ => rfl, fun h => hR.c3 (h.resolve_left (by decide)), fun h => hR.c4 (h.resolve_left (by decide)), fun h => hR.c5 (h.resolve_left (by decide)), fun h => hR.c6 (h.resolve_left (by decide)), fun h => hR.c7 (h.resolve_left (by decide)), fun h => hR.c8 (h.resolve_left (by decide)), fun h => hR.c9 (h.resolve_left (by decide)), fun h => hR.c10 (h.resolve_left (by decide)), fun h => hR.c11 (h.resolve_left (by decide)), fun h => hR.c12 (h.resolve_left (by decide)), fun h => hR.no (h.resolve_left (by decide)), hR.below⟩); clear hin hout hw; go_simp
         first | done | rfl
       · intro D σ w1 a hnd hw hR hin hout hdf; refine ⟨fun _ => ?_, fun h => absurd h (by simp [Region.wanted])⟩; have e83 : (a.tmps[83]?).getD undef = .pointer (some ⟨d, 1, none⟩) := (evT a 83).symm.trans ((hin 2 _ 83 rfl rfl).trans (hR.c2 (hw 2 (by kernel_rfl)))); refine Oper.wpW (eff_v (v := .pointer (some ⟨d, 4, none⟩)) ?_ ⟨fun h => hR.c0 (h.resolve_left (by decide)), fun h => hR.c1 (h.resolve_left (by decide)), fun h => hR.c2 (h.resolve_left (by decide)), fun _ => rfl, fun h => hR.c4 (h.resolve_left (by decide)), fun h => hR.c5 (h.resolve_left (by decide)), fun h => hR.c6 (h.resolve_left (by decide)), fun h => hR.c7 (h.resolve_left (by decide)), fun h => hR.c8 (h.resolve_left (by decide)), fun h => hR.c9 (h.resolve_left (by decide)), fun h => hR.c10 (h.resolve_left (by decide)), fun h => hR.c11 (h.resolve_left (by decide)), fun h => hR.c12 (h.resolve_left (by decide)), fun h => hR.no (h.resolve_left (by decide)), hR.below⟩); clear hin hout hw; go_simp
         first | done | rfl
       · intro D σ w1 a hnd hw hR hin hout hdf; refine ⟨fun _ => ?_, fun h => absurd h (by simp [Region.wanted])⟩; have e84 : (a.tmps[84]?).getD undef = .pointer (some ⟨d, 4, none⟩) := (evT a 84).symm.trans ((hin 3 _ 84 rfl rfl).trans (hR.c3 (hw 3 (by kernel_rfl)))); have hl := (hR.below.cell (by exact jD)).trans z4; have iX : BlockLt d w1 := ⟨Nat.lt_of_lt_of_le jD hR.below.size⟩
         refine Oper.wpW (eff_v (v := .int .i64 c.off) ?_ ⟨fun h => hR.c0 (h.resolve_left (by decide)), fun h => hR.c1 (h.resolve_left (by decide)), fun h => hR.c2 (h.resolve_left (by decide)), fun h => hR.c3 (h.resolve_left (by decide)), fun _ => rfl, fun h => hR.c5 (h.resolve_left (by decide)), fun h => hR.c6 (h.resolve_left (by decide)), fun h => hR.c7 (h.resolve_left (by decide)), fun h => hR.c8 (h.resolve_left (by decide)), fun h => hR.c9 (h.resolve_left (by decide)), fun h => hR.c10 (h.resolve_left (by decide)), fun h => hR.c11 (h.resolve_left (by decide)), fun h => hR.c12 (h.resolve_left (by decide)), fun h => hR.no (h.resolve_left (by decide)), hR.below⟩); clear hin hout hw; go_simp
         first | done | rfl
       · intro D σ w1 a hnd hw hR hin hout hdf; refine ⟨fun _ => ?_, fun h => absurd h (by simp [Region.wanted])⟩; have e0 : (a.tmps[0]?).getD undef = .pointer (some ⟨d, 0, none⟩) := (evT a 0).symm.trans ((hout 0 (by kernel_rfl)).trans (by kernel_rfl)); refine Oper.wpW (eff_v (v := .pointer (some ⟨d, 0, none⟩)) ?_ ⟨fun h => hR.c0 (h.resolve_left (by decide)), fun h => hR.c1 (h.resolve_left (by decide)), fun h => hR.c2 (h.resolve_left (by decide)), fun h => hR.c3 (h.resolve_left (by decide)), fun h => hR.c4 (h.resolve_left (by decide)), fun _ => rfl, fun h => hR.c6 (h.resolve_left (by decide)), fun h => hR.c7 (h.resolve_left (by decide)), fun h => hR.c8 (h.resolve_left (by decide)), fun h => hR.c9 (h.resolve_left (by decide)), fun h => hR.c10 (h.resolve_left (by decide)), fun h => hR.c11 (h.resolve_left (by decide)), fun h => hR.c12 (h.resolve_left (by decide)), fun h => hR.no (h.resolve_left (by decide)), hR.below⟩); clear hin hout hw; go_simp
         first | done | rfl
       · intro D σ w1 a hnd hw hR hin hout hdf; refine ⟨fun _ => ?_, fun h => absurd h (by simp [Region.wanted])⟩; have e86 : (a.tmps[86]?).getD undef = .pointer (some ⟨d, 0, none⟩) := (evT a 86).symm.trans ((hin 5 _ 86 rfl rfl).trans (hR.c5 (hw 5 (by kernel_rfl)))); refine Oper.wpW (eff_v (v := .pointer (some ⟨d, 0, none⟩)) ?_ ⟨fun h => hR.c0 (h.resolve_left (by decide)), fun h => hR.c1 (h.resolve_left (by decide)), fun h => hR.c2 (h.resolve_left (by decide)), fun h => hR.c3 (h.resolve_left (by decide)), fun h => hR.c4 (h.resolve_left (by decide)), fun h => hR.c5 (h.resolve_left (by decide)), fun _ => rfl, fun h => hR.c7 (h.resolve_left (by decide)), fun h => hR.c8 (h.resolve_left (by decide)), fun h => hR.c9 (h.resolve_left (by decide)), fun h => hR.c10 (h.resolve_left (by decide)), fun h => hR.c11 (h.resolve_left (by decide)), fun h => hR.c12 (h.resolve_left (by decide)), fun h => hR.no (h.resolve_left (by decide)), hR.below⟩); clear hin hout hw; go_simp
         first | done | rfl
       · intro D σ w1 a hnd hw hR hin hout hdf; refine ⟨fun _ => ?_, fun h => absurd h (by simp [Region.wanted])⟩; have e87 : (a.tmps[87]?).getD undef = .pointer (some ⟨d, 0, none⟩) := (evT a 87).symm.trans ((hin 6 _ 87 rfl rfl).trans (hR.c6 (hw 6 (by kernel_rfl)))); refine Oper.wpW (eff_v (v := .pointer (some ⟨d, 1, none⟩)) ?_ ⟨fun h => hR.c0 (h.resolve_left (by decide)), fun h => hR.c1 (h.resolve_left (by decide)), fun h => hR.c2 (h.resolve_left (by decide)), fun h => hR.c3 (h.resolve_left (by decide)), fun h => hR.c4 (h.resolve_left (by decide)), fun h => hR.c5 (h.resolve_left (by decide)), fun h => hR.c6 (h.resolve_left (by decide)), fun _ => rfl, fun h => hR.c8 (h.resolve_left (by decide)), fun h => hR.c9 (h.resolve_left (by decide)), fun h => hR.c10 (h.resolve_left (by decide)), fun h => hR.c11 (h.resolve_left (by decide)), fun h => hR.c12 (h.resolve_left (by decide)), fun h => hR.no (h.resolve_left (by decide)), hR.below⟩); clear hin hout hw; go_simp
         first | done | rfl
       · intro D σ w1 a hnd hw hR hin hout hdf; refine ⟨fun _ => ?_, fun h => absurd h (by simp [Region.wanted])⟩; have e88 : (a.tmps[88]?).getD undef = .pointer (some ⟨d, 1, none⟩) := (evT a 88).symm.trans ((hin 7 _ 88 rfl rfl).trans (hR.c7 (hw 7 (by kernel_rfl)))); refine Oper.wpW (eff_v (v := .pointer (some ⟨d, 8, none⟩)) ?_ ⟨fun h => hR.c0 (h.resolve_left (by decide)), fun h => hR.c1 (h.resolve_left (by decide)), fun h => hR.c2 (h.resolve_left (by decide)), fun h => hR.c3 (h.resolve_left (by decide)), fun h => hR.c4 (h.resolve_left (by decide)), fun h => hR.c5 (h.resolve_left (by decide)), fun h => hR.c6 (h.resolve_left (by decide)), fun h => hR.c7 (h.resolve_left (by decide)), fun _ => rfl, fun h => hR.c9 (h.resolve_left (by decide)), fun h => hR.c10 (h.resolve_left (by decide)), fun h => hR.c11 (h.resolve_left (by decide)), fun h => hR.c12 (h.resolve_left (by decide)), fun h => hR.no (h.resolve_left (by decide)), hR.below⟩); clear hin hout hw; go_simp
         first | done | rfl
       · intro D σ w1 a hnd hw hR hin hout hdf; refine ⟨fun _ => ?_, fun h => absurd h (by simp [Region.wanted])⟩; have e89 : (a.tmps[89]?).getD undef = .pointer (some ⟨d, 8, none⟩) := (evT a 89).symm.trans ((hin 8 _ 89 rfl rfl).trans (hR.c8 (hw 8 (by kernel_rfl)))); have hl := (hR.below.cell (by exact jD)).trans z8; have iX : BlockLt d w1 := ⟨Nat.lt_of_lt_of_le jD hR.below.size⟩
         refine Oper.wpW (eff_v (v := .string c.data) ?_ ⟨fun h => hR.c0 (h.resolve_left (by decide)), fun h => hR.c1 (h.resolve_left (by decide)), fun h => hR.c2 (h.resolve_left (by decide)), fun h => hR.c3 (h.resolve_left (by decide)), fun h => hR.c4 (h.resolve_left (by decide)), fun h => hR.c5 (h.resolve_left (by decide)), fun h => hR.c6 (h.resolve_left (by decide)), fun h => hR.c7 (h.resolve_left (by decide)), fun h => hR.c8 (h.resolve_left (by decide)), fun _ => rfl, fun h => hR.c10 (h.resolve_left (by decide)), fun h => hR.c11 (h.resolve_left (by decide)), fun h => hR.c12 (h.resolve_left (by decide)), fun h => hR.no (h.resolve_left (by decide)), hR.below⟩); clear hin hout hw; go_simp
         first | done | rfl
       · intro D σ w1 a hnd hw hR hin hout hdf; refine ⟨fun _ => ?_, fun h => absurd h (by simp [Region.wanted])⟩; have e90 : (a.tmps[90]?).getD undef = .string c.data := (evT a 90).symm.trans ((hin 9 _ 90 rfl rfl).trans (hR.c9 (hw 9 (by kernel_rfl)))); refine Oper.wpW (eff_v (v := .int .i64 c.data.size) ?_ ⟨fun h => hR.c0 (h.resolve_left (by decide)), fun h => hR.c1 (h.resolve_left (by decide)), fun h => hR.c2 (h.resolve_left (by decide)), fun h => hR.c3 (h.resolve_left (by decide)), fun h => hR.c4 (h.resolve_left (by decide)), fun h => hR.c5 (h.resolve_left (by decide)), fun h => hR.c6 (h.resolve_left (by decide)), fun h => hR.c7 (h.resolve_left (by decide)), fun h => hR.c8 (h.resolve_left (by decide)), fun h => hR.c9 (h.resolve_left (by decide)), fun _ => rfl, fun h => hR.c11 (h.resolve_left (by decide)), fun h => hR.c12 (h.resolve_left (by decide)), fun h => hR.no (h.resolve_left (by decide)), hR.below⟩); clear hin hout hw; go_simp
         first | done | rfl
       · intro D σ w1 a hnd hw hR hin hout hdf; refine ⟨fun _ => ?_, fun h => absurd h (by simp [Region.wanted])⟩; have e85 : (a.tmps[85]?).getD undef = .int .i64 c.off := (evT a 85).symm.trans ((hin 4 _ 85 rfl rfl).trans (hR.c4 (hw 4 (by kernel_rfl)))); have e91 : (a.tmps[91]?).getD undef = .int .i64 c.data.size := (evT a 91).symm.trans ((hin 10 _ 91 rfl rfl).trans (hR.c10 (hw 10 (by kernel_rfl)))); refine Oper.wpW (eff_v (v := .int .i64 (c.off + c.data.size)) ?_ ⟨fun h => hR.c0 (h.resolve_left (by decide)), fun h => hR.c1 (h.resolve_left (by decide)), fun h => hR.c2 (h.resolve_left (by decide)), fun h => hR.c3 (h.resolve_left (by decide)), fun h => hR.c4 (h.resolve_left (by decide)), fun h => hR.c5 (h.resolve_left (by decide)), fun h => hR.c6 (h.resolve_left (by decide)), fun h => hR.c7 (h.resolve_left (by decide)), fun h => hR.c8 (h.resolve_left (by decide)), fun h => hR.c9 (h.resolve_left (by decide)), fun h => hR.c10 (h.resolve_left (by decide)), fun _ => rfl, fun h => hR.c12 (h.resolve_left (by decide)), fun h => hR.no (h.resolve_left (by decide)), hR.below⟩); clear hin hout hw; go_simp
         first | done | rfl
       · intro D σ w1 a hnd hw hR hin hout hdf; refine ⟨fun _ => ?_, fun h => absurd h (by simp [Region.wanted])⟩; have e92 : (a.tmps[92]?).getD undef = .int .i64 (c.off + c.data.size) := (evT a 92).symm.trans ((hin 11 _ 92 rfl rfl).trans (hR.c11 (hw 11 (by kernel_rfl)))); refine Oper.wpW (eff_v (v := .bool true) ?_ ⟨fun h => hR.c0 (h.resolve_left (by decide)), fun h => hR.c1 (h.resolve_left (by decide)), fun h => hR.c2 (h.resolve_left (by decide)), fun h => hR.c3 (h.resolve_left (by decide)), fun h => hR.c4 (h.resolve_left (by decide)), fun h => hR.c5 (h.resolve_left (by decide)), fun h => hR.c6 (h.resolve_left (by decide)), fun h => hR.c7 (h.resolve_left (by decide)), fun h => hR.c8 (h.resolve_left (by decide)), fun h => hR.c9 (h.resolve_left (by decide)), fun h => hR.c10 (h.resolve_left (by decide)), fun h => hR.c11 (h.resolve_left (by decide)), fun _ => rfl, fun h => hR.no (h.resolve_left (by decide)), hR.below⟩); clear hin hout hw; go_simp
         first | done | rfl
       · intro D σ w1 a hnd hw hR hin hout hdf; refine ⟨fun _ => ?_, fun h => absurd h (by simp [Region.wanted])⟩; have e93 : (a.tmps[93]?).getD undef = .bool true := (evT a 93).symm.trans ((hin 12 _ 93 rfl rfl).trans (hR.c12 (hw 12 (by kernel_rfl)))); intro nx _; refine Oper.wpX 172 #[.bool true, .int .i64 5] ?_ ((throw_yes 5 w1).mono fun e w' ⟨he, hb2⟩ => ⟨_, he, hdf, hBz.trans ((hR.below.trans (hb2.mono hR.below.size)).mono hBl), rfl⟩); clear hin hout hw; go_simp
         first | done | rfl
     · intro σ w1 hR; exact absurd trivial hR.no
   · simp only [hsum, if_false]; have := bytes_write B d b S c r w h hB hf hk ho0 (by omega) hsz; unfold writeM at this; exact this
 · simp only [hin, if_false]; obtain ⟨bi, cap, ov, mv, nv, hP⟩ := h.part hf.pos; have ht := hP.file hf; have iD := hP.hD.lt; unfold fileE at ht; generalize hX : fileX S c = X at ht ⊢; rcases X with _ | ⟨K, x⟩
   · simp only at ht ⊢
     go_enter Tryz.func146, Tryz.ntmps146
     go_wp2_with (go_at_call 143; refine ht.mono ?_; rintro e w1 ⟨hb1, rfl⟩)
     exact ⟨rfl, hb1.mono hB, rfl⟩
   simp only at ht ⊢; generalize idxM (isFd c) S.op = I at ht; have hoff := fun ww => in126 c.off ww
   have hnum := fun ww => in126 (c.data.size : Int) ww
   generalize inM c.off = i1 at hin hoff; generalize inM (c.data.size : Int) = i2 at hin hnum; have HP := Lib.hid hP; clear h hP hX hsz
   go_enter Tryz.func146, Tryz.ntmps146
   go_upto_region 1 with (go_at_call 143; refine ht.mono ?_; rintro e w1 ⟨hb1, rfl⟩; have HB := Lib.hid hb1; clear hb1)
   refine abs_world (F := fun wA => DPart B wA d b bi cap ov mv nv S c r ∧ Below w.heap.size w wA) ⟨HP.out.below HB.out, HB.out⟩ ?_; clear ht iD HP HB; rintro wA ⟨hA, hbA⟩; have iD := hA.hD.lt; have a1 : wA.cell? ⟨d, 1, none⟩ = some (.int .i64 c.kind) := hA.hD.cell 1; rw [hk] at a1; have a4 : wA.cell? ⟨d, 4, none⟩ = some (.int .i64 c.off) := hA.hD.cell 4; have a8 : wA.cell? ⟨d, 8, none⟩ = some (.string c.data) := hA.hD.cell 8; have HA := Lib.hid (And.intro hA hbA); clear hA; rcases i1 with _ | _
   · go_wp2_with (first | (go_at_call 183; with_reducible refine (hoff _).mono ?_; rintro e w' ⟨rfl, hb⟩; obtain ⟨p, rfl⟩ := hb.rest; clear hb) | (go_at_call 172; with_reducible refine (throw_yes _ _).mono ?_; rintro e w' ⟨rfl, hb⟩; obtain ⟨p, rfl⟩ := hb.rest; clear hb))
     exact ⟨rfl, (hbA.mono hB).trans ((bel wA _).mono (Nat.le_trans hB hbA.size)), rfl⟩
   · rcases i2 with _ | _
     · go_wp2_with (first | (go_at_call 183; with_reducible refine (hoff _).mono ?_; rintro e w' ⟨rfl, hb⟩; obtain ⟨p, rfl⟩ := hb.rest; clear hb) | (go_at_call 183; with_reducible refine (hnum _).mono ?_; rintro e w' ⟨rfl, hb⟩; obtain ⟨p, rfl⟩ := hb.rest; clear hb) | (go_at_call 172; with_reducible refine (throw_yes _ _).mono ?_; rintro e w' ⟨rfl, hb⟩; obtain ⟨p, rfl⟩ := hb.rest; clear hb))
       exact ⟨rfl, (hbA.mono hB).trans ((bel wA _).mono (Nat.le_trans hB hbA.size)), rfl⟩
     · exact absurd rfl hin
set_option maxRecDepth 100000 in
set_option maxHeartbeats 4000000 in
theorem bytes_trunc (B d b : Nat) (S : PSt) (c : PCall) (r : PRes) (w : World) (h : DoAt B w d b S c r) (hB : B ≤ w.heap.size) (hf : Fine S) (hk : c.kind = 6) (hsz : ∀ x ∈ S.ins, x.data.size ≤ 1000000) :
 Calls Tryz.prog 146 #[.pointer (some ⟨d, 0, none⟩)] w (RunOut B w d b c (truncM S c r)) := by
 unfold truncM
 obtain ⟨bi, cap, ov, mv, nv, hP⟩ := h.part hf.pos
 have ht := hP.file hf
 have iD := hP.hD.lt
 unfold fileE at ht
 generalize hX : fileX S c = X at ht ⊢
 rcases X with _ | ⟨K, x⟩
 · simp only at ht ⊢
   go_enter Tryz.func146, Tryz.ntmps146
   go_wp2_with (go_at_call 143; refine ht.mono ?_; rintro e w1 ⟨hb1, rfl⟩)
   exact ⟨rfl, hb1.mono hB, rfl⟩
 · simp only at ht ⊢; obtain ⟨hx, hKl⟩ := fileX_at hX; have hxs := hsz x (List.mem_of_getElem? hx); generalize idxM (isFd c) S.op = I at ht; have hoff := fun ww => in126 c.num ww
   rcases hi : inM c.num with _ | _
   · rw [hi] at hoff; simp only [Bool.false_eq_true, if_false]; have HP := Lib.hid hP; clear h hP hX hsz
     go_enter Tryz.func146, Tryz.ntmps146
     go_upto_region 1 with (go_at_call 143; refine ht.mono ?_; rintro e w1 ⟨hb1, rfl⟩; have HB := Lib.hid hb1; clear hb1)
     refine abs_world (F := fun wA => DPart B wA d b bi cap ov mv nv S c r ∧ Below w.heap.size w wA) ⟨HP.out.below HB.out, HB.out⟩ ?_; clear ht iD HP HB; rintro wA ⟨hA, hbA⟩; have iD := hA.hD.lt; have a1 : wA.cell? ⟨d, 1, none⟩ = some (.int .i64 c.kind) := hA.hD.cell 1; rw [hk] at a1; have a5 : wA.cell? ⟨d, 5, none⟩ = some (.int .i64 c.num) := hA.hD.cell 5; clear hA; go_wp2_with (first | (go_at_call 183; with_reducible refine (hoff _).mono ?_; rintro e w' ⟨rfl, hb⟩; obtain ⟨p, rfl⟩ := hb.rest; clear hb) | (go_at_call 172; with_reducible refine (throw_yes _ _).mono ?_; rintro e w' ⟨rfl, hb⟩; obtain ⟨p, rfl⟩ := hb.rest; clear hb))
     exact ⟨rfl, (hbA.mono hB).trans ((bel wA _).mono (Nat.le_trans hB hbA.size)), rfl⟩
   · rw [hi] at hoff; simp only [if_true]; have hi' := hi; unfold inM at hi'; simp only [Bool.and_eq_true, decide_eq_true_eq] at hi'; obtain ⟨o, ho⟩ : ∃ o : Nat, c.num = o := ⟨c.num.toNat, by omega⟩
     have hcu := fun ww => cut129 x.data o ww (by omega) (by omega)
     have eo : c.num.toNat = o := by omega
     rw [eo]; rw [ho] at hoff; generalize cutM x.data o = z at hcu ⊢; have HO := Lib.hid ho; clear eo ho hi hi'; have HP := Lib.hid hP; clear h hP hX hsz
     go_enter Tryz.func146, Tryz.ntmps146
     go_upto_region 1 with (go_at_call 143; refine ht.mono ?_; rintro e w1 ⟨hb1, rfl⟩; have HB := Lib.hid hb1; clear hb1)
     refine abs_world (F := fun wA => DPart B wA d b bi cap ov mv nv S c r ∧ Below w.heap.size w wA) ⟨HP.out.below HB.out, HB.out⟩ ?_; clear ht iD HP HB; rintro wA ⟨hA, hbA⟩; have iD := hA.hD.lt; have a1 : wA.cell? ⟨d, 1, none⟩ = some (.int .i64 c.kind) := hA.hD.cell 1; rw [hk] at a1; have a5 : wA.cell? ⟨d, 5, none⟩ = some (.int .i64 c.num) := hA.hD.cell 5; rw [HO.out] at a5; obtain ⟨iI, x0, x1, x3⟩ := hA.dat hx; obtain ⟨hge, cc, hcc⟩ := hA.ge_bi hx; have f3 := hcc.frozen (K * 4 + 3); have nbd : ¬ bi = d := hcc.ne_ hA.hD (by decide); have nbd2 : ¬ d = bi := fun e => nbd e.symm
     have HA := Lib.hid (And.intro hA (And.intro hbA (And.intro hx hge))); clear hA hbA hx hge hcc
     go_upto_region 13 with (first | (go_at_call 183; with_reducible refine (hoff _).mono ?_; rintro e w' ⟨rfl, hb⟩; obtain ⟨p, rfl⟩ := hb.rest; clear hb) | (go_at_call 172; with_reducible refine (throw_no _ _).mono ?_; rintro e w' ⟨rfl, hb⟩; obtain ⟨p, rfl⟩ := hb.rest; clear hb))
     refine wp_region_eff [10, 13] true (fun w' => w'.cell? ⟨d, 5, none⟩ = some (.int .i64 o) ∧ w'.cell? ⟨bi, K * 4 + 3, none⟩ = some (.string x.data)) (by kernel_rfl) (by kernel_rfl) ?_ ?_
     · (try dsimp only); (repeat' apply And.intro) <;> go_simp
     repeat
      refine wpL_look rfl rfl ?_; apply Exists.intro; refine ⟨?_, ?_⟩
      focus
       rintro w' ⟨s0, s1⟩; go_simp
       first | done | rfl
      simp only [Act.put, List.setIfInBounds_toArray, List.set_cons_zero, List.set_cons_succ]
     refine wpL_act rfl rfl ?_; refine eff_call 186 #[.string x.data, .int .i64 o] ?hr ?_
     case hr =>
      go_simp
      first | done | rfl
     refine (hcu _).mono ?_; rintro e w' ⟨rfl, hb⟩; obtain ⟨q1, rfl⟩ := hb.rest; clear hb; refine ⟨_, rfl, .inl ?_, ?_⟩
     · (try dsimp only); (repeat' apply And.intro) <;> go_simp
     simp only [Act.put, List.setIfInBounds_toArray, List.set_cons_zero, List.set_cons_succ]
     repeat
      refine wpL_look rfl rfl ?_; apply Exists.intro; refine ⟨?_, ?_⟩
      focus
       rintro w' ⟨s0, s1⟩; go_simp
       first | done | rfl
      simp only [Act.put, List.setIfInBounds_toArray, List.set_cons_zero, List.set_cons_succ]
     refine wpL_skip rfl rfl ?_; apply Exists.intro; refine ⟨?_, .inr ⟨rfl, rfl⟩, ?_⟩
     focus
      go_simp; rfl
     simp only [Act.put, List.setIfInBounds_toArray, List.set_cons_zero, List.set_cons_succ]; refine wpL_end ?_; clear a5 x0 x1 x3; go_wp2_with fail; have hbs : Below B w (wA.setCell ⟨bi, K * 4 + 3, none⟩ (.string z)) := (HA.out.2.1.mono hB).setCell (p := ⟨bi, K * 4 + 3, none⟩) HA.out.2.2.2 _; exact bodyPost_end (v := .tuple #[]) (by simp [results, go_sem]) rfl ⟨hbs.trans ((bel _ _).mono (Nat.le_trans hB hbs.size)), rfl, ((HA.out.1.setData HA.out.2.2.1 z).below (bel _ _)).at_⟩
end Go.Proofs.YtmkapobnfigedaaGreatDoor
namespace Go.Proofs.YtmkapobnfigedaaGreatDoor
open Go.RowKit
theorem descB_len (S : PSt) : ∀ (l : List PDesc) (p : Option PDesc), descB S p l = true → (match p with | none => True | some q => q.fd < 4) → ((match p with | none => 0 | some q => q.core * 4 + q.fd + 1 : Int) ≤ (S.made.length : Int) * 4) → (match p with | none => 0 | some q => q.core * 4 + q.fd + 1 : Int) + (l.length : Int) ≤ (S.made.length : Int) * 4
 | [], p, _, _, h => by simpa using h
 | d :: l, p, h, hq, hp => by
   unfold descB at h
   split at h
   · cases h
   split at h
   · cases h
   split at h
   · cases h
   split at h
   · cases h
   split at h
   · cases h
   split at h
   · cases h
   rename_i c0 c1 f0 f1 hpr _
   split at h
   · split at h
     · cases h
     · have ih := descB_len S l (some d) h (by show d.fd < 4; omega) (by show d.core * 4 + d.fd + 1 ≤ (S.made.length : Int) * 4; omega); have ih' : d.core * 4 + d.fd + 1 + (l.length : Int) ≤ (S.made.length : Int) * 4 := ih; rw [List.length_cons]; rcases p with _ | q
       · show (0 : Int) + ((l.length + 1 : Nat) : Int) ≤ _
         push_cast
         omega
       · show q.core * 4 + q.fd + 1 + ((l.length + 1 : Nat) : Int) ≤ _; have hq4 : q.fd < 4 := hq; unfold prevDB at hpr; simp only [Bool.or_eq_true, decide_eq_true_eq, Bool.and_eq_true] at hpr; have hp' : q.core * 4 + q.fd + 1 ≤ (S.made.length : Int) * 4 := hp
         push_cast
         by_cases e : q.core = d.core
         · have : ¬ d.fd ≤ q.fd := fun h => hpr (.inr ⟨e, h⟩)
           omega
         · have : ¬ d.core < q.core := fun h => hpr (.inl h)
           omega
   · cases h
structure MayBounds (S : PSt) : Prop where
 small : Small S
 op : S.op.length ≤ 32
 data : ∀ x ∈ S.ins, x.data.size ≤ 256
 made0 : 0 < S.made.length
theorem may_bounds {S : PSt} (hwf : S.wf) (hm : mayM S = true) : MayBounds S := by
 have T := tree_of_may hwf hm
 have hm' := hm
 unfold mayM at hm'
 split at hm'
 · rename_i h1
   simp only [Bool.and_eq_true] at h1; obtain ⟨⟨hmd, _⟩, hop⟩ := h1; unfold mayMadeM at hmd; simp only [Bool.and_eq_true, Bool.not_eq_true', Bool.or_eq_false_iff, decide_eq_false_iff_not] at hmd; obtain ⟨⟨m1, m8⟩, hall⟩ := hmd; refine ⟨⟨T.small, fun x hx => Nat.le_trans (T.many x hx) (by decide), by omega, fun m hm => ?_⟩, ?_, T.data, by omega⟩
   · have := List.any_eq_false.1 hall m hm; unfold badMade at this; simp at this; omega
   · have := descB_len S S.op none hop trivial (by show (0 : Int) ≤ (S.made.length : Int) * 4; omega); have this' : (0 : Int) + (S.op.length : Int) ≤ (S.made.length : Int) * 4 := this; omega
 · cases hm'
def openX (S : PSt) (c : PCall) (r : PRes) : Except Int (PSt × PRes) := if (parseM c.path).1 ≠ 0 then .error (codeM (parseM c.path).1) else openDo S c r
set_option maxRecDepth 100000 in
set_option maxHeartbeats 2000000 in
theorem open72x (B d b : Nat) (S : PSt) (c : PCall) (r : PRes) (w : World) (h : DoAt B w d b S c r) (hB : B ≤ w.heap.size) (hf : Fine S) (hop : S.op.length ≤ 100000) :
 Calls Tryz.prog 142 #[.pointer (some ⟨d, 0, none⟩)] w (RunOut B w d b c (openX S c r)) := by
 unfold openX
 by_cases hp : (parseM c.path).1 = 0
 · rw [if_neg (by simpa using hp)]; exact open72 B d b S c r w h hB hf hop hp (Nat.le_trans (parse_len hp) (by decide))
 · rw [if_pos hp]; have hpar1 : ∀ ww, Below w.heap.size w ww → Calls Tryz.prog 178 #[.pointer (some ⟨d, 0, none⟩), .string c.path] ww _ := fun ww hb => at122x d b S c c.path ww (h.read.below hb (Nat.le_refl _)) hp
   obtain ⟨iv, ov, mv, nv, hBb, hBd, hD, hbk, hst, hnv⟩ := h; have d6 : w.cell? ⟨d, 6, none⟩ = some (.string c.path) := hD.cell 6; have iD := hD.lt; clear hD hbk hst hnv hf
   go_enter Tryz.func142, Tryz.ntmps142
   go_wp2_with (go_at_call 178; refine (hpar1 _ (bel _ _)).mono ?_; rintro e w' ⟨rfl, hb⟩; obtain ⟨p, rfl⟩ := hb.rest; clear hb)
   exact ⟨rfl, (bel w _).mono hB, rfl⟩
set_option maxRecDepth 100000 in
set_option maxHeartbeats 4000000 in
theorem run_made (B d b : Nat) (S : PSt) (c : PCall) (r : PRes) (w : World) (h : DoAt B w d b S c r) (hk : c.kind = 0 ∨ c.kind = 1) (R : Except Int (PSt × PRes)) (ht : Calls Tryz.prog 141 #[.pointer (some ⟨d, 0, none⟩)] w (RunOut B w d b c R)) :
 Calls Tryz.prog 108 #[.pointer (some ⟨d, 0, none⟩)] w (RunOut B w d b c R) := by
 obtain ⟨iD, d1⟩ := h.kind
 rcases hk with hk | hk
 all_goals
  rw [hk] at d1; clear h; rcases R with k | ⟨S', r'⟩
  all_goals (go_enter Tryz.func108, Tryz.ntmps108)
  · go_wp2_with (go_at_call 141; refine ht.mono ?_; rintro e w1 ⟨hb1, hr1⟩; obtain rfl : e = thrown k := hr1)
    exact ⟨rfl, hb1, rfl⟩
  · go_wp2_with (go_at_call 141; refine ht.mono ?_; rintro e w1 ⟨hb1, hr1⟩; have hr2 : e = .returned (.tuple #[]) ∧ DoAt B w1 d b S' c r' := hr1; clear hr1; obtain ⟨rfl, hd1⟩ := hr2; have HD := Lib.hid hd1; clear hd1)
    exact bodyPost_end (v := .tuple #[]) (by simp [results, go_sem]) rfl ⟨hb1, rfl, HD.out⟩
set_option maxRecDepth 100000 in
set_option maxHeartbeats 4000000 in
theorem run_bytes6 (B d b : Nat) (S : PSt) (c : PCall) (r : PRes) (w : World) (h : DoAt B w d b S c r) (hk : c.kind = 6) (R : Except Int (PSt × PRes)) (ht : Calls Tryz.prog 146 #[.pointer (some ⟨d, 0, none⟩)] w (RunOut B w d b c R)) :
 Calls Tryz.prog 108 #[.pointer (some ⟨d, 0, none⟩)] w (RunOut B w d b c R) := by
 obtain ⟨iD, d1⟩ := h.kind
 all_goals
  rw [hk] at d1; clear h; rcases R with k | ⟨S', r'⟩
  all_goals (go_enter Tryz.func108, Tryz.ntmps108)
  · go_wp2_with (go_at_call 146; refine ht.mono ?_; rintro e w1 ⟨hb1, hr1⟩; obtain rfl : e = thrown k := hr1)
    exact ⟨rfl, hb1, rfl⟩
  · go_wp2_with (go_at_call 146; refine ht.mono ?_; rintro e w1 ⟨hb1, hr1⟩; have hr2 : e = .returned (.tuple #[]) ∧ DoAt B w1 d b S' c r' := hr1; clear hr1; obtain ⟨rfl, hd1⟩ := hr2; have HD := Lib.hid hd1; clear hd1)
    exact bodyPost_end (v := .tuple #[]) (by simp [results, go_sem]) rfl ⟨hb1, rfl, HD.out⟩
set_option maxRecDepth 100000 in
set_option maxHeartbeats 4000000 in
theorem run_linked (B d b : Nat) (S : PSt) (c : PCall) (r : PRes) (w : World) (h : DoAt B w d b S c r) (hk : c.kind = 8) (R : Except Int (PSt × PRes)) (ht : Calls Tryz.prog 147 #[.pointer (some ⟨d, 0, none⟩)] w (RunOut B w d b c R)) :
 Calls Tryz.prog 108 #[.pointer (some ⟨d, 0, none⟩)] w (RunOut B w d b c R) := by
 obtain ⟨iD, d1⟩ := h.kind
 all_goals
  rw [hk] at d1; clear h; rcases R with k | ⟨S', r'⟩
  all_goals (go_enter Tryz.func108, Tryz.ntmps108)
  · go_wp2_with (go_at_call 147; refine ht.mono ?_; rintro e w1 ⟨hb1, hr1⟩; obtain rfl : e = thrown k := hr1)
    exact ⟨rfl, hb1, rfl⟩
  · go_wp2_with (go_at_call 147; refine ht.mono ?_; rintro e w1 ⟨hb1, hr1⟩; have hr2 : e = .returned (.tuple #[]) ∧ DoAt B w1 d b S' c r' := hr1; clear hr1; obtain ⟨rfl, hd1⟩ := hr2; have HD := Lib.hid hd1; clear hd1)
    exact bodyPost_end (v := .tuple #[]) (by simp [results, go_sem]) rfl ⟨hb1, rfl, HD.out⟩
set_option maxRecDepth 100000 in
set_option maxHeartbeats 4000000 in
theorem run_removed (B d b : Nat) (S : PSt) (c : PCall) (r : PRes) (w : World) (h : DoAt B w d b S c r) (hk : c.kind = 9 ∨ c.kind = 10) (R : Except Int (PSt × PRes)) (ht : Calls Tryz.prog 148 #[.pointer (some ⟨d, 0, none⟩)] w (RunOut B w d b c R)) :
 Calls Tryz.prog 108 #[.pointer (some ⟨d, 0, none⟩)] w (RunOut B w d b c R) := by
 obtain ⟨iD, d1⟩ := h.kind
 rcases hk with hk | hk
 all_goals
  rw [hk] at d1; clear h; rcases R with k | ⟨S', r'⟩
  all_goals (go_enter Tryz.func108, Tryz.ntmps108)
  · go_wp2_with (go_at_call 148; refine ht.mono ?_; rintro e w1 ⟨hb1, hr1⟩; obtain rfl : e = thrown k := hr1)
    exact ⟨rfl, hb1, rfl⟩
  · go_wp2_with (go_at_call 148; refine ht.mono ?_; rintro e w1 ⟨hb1, hr1⟩; have hr2 : e = .returned (.tuple #[]) ∧ DoAt B w1 d b S' c r' := hr1; clear hr1; obtain ⟨rfl, hd1⟩ := hr2; have HD := Lib.hid hd1; clear hd1)
    exact bodyPost_end (v := .tuple #[]) (by simp [results, go_sem]) rfl ⟨hb1, rfl, HD.out⟩
set_option maxRecDepth 100000 in
set_option maxHeartbeats 4000000 in
theorem run_renamed (B d b : Nat) (S : PSt) (c : PCall) (r : PRes) (w : World) (h : DoAt B w d b S c r) (hk : c.kind = 11) (R : Except Int (PSt × PRes)) (ht : Calls Tryz.prog 149 #[.pointer (some ⟨d, 0, none⟩)] w (RunOut B w d b c R)) :
 Calls Tryz.prog 108 #[.pointer (some ⟨d, 0, none⟩)] w (RunOut B w d b c R) := by
 obtain ⟨iD, d1⟩ := h.kind
 all_goals
  rw [hk] at d1; clear h; rcases R with k | ⟨S', r'⟩
  all_goals (go_enter Tryz.func108, Tryz.ntmps108)
  · go_wp2_with (go_at_call 149; refine ht.mono ?_; rintro e w1 ⟨hb1, hr1⟩; obtain rfl : e = thrown k := hr1)
    exact ⟨rfl, hb1, rfl⟩
  · go_wp2_with (go_at_call 149; refine ht.mono ?_; rintro e w1 ⟨hb1, hr1⟩; have hr2 : e = .returned (.tuple #[]) ∧ DoAt B w1 d b S' c r' := hr1; clear hr1; obtain ⟨rfl, hd1⟩ := hr2; have HD := Lib.hid hd1; clear hd1)
    exact bodyPost_end (v := .tuple #[]) (by simp [results, go_sem]) rfl ⟨hb1, rfl, HD.out⟩
theorem run_look {S : PSt} {c : PCall} (hwf : S.wf) (hc : Looks c) (hm : maycM S c = true) {B : Nat} {ww : World} {d b : Nat} (hd : DoAt B ww d b S c PRes.zero) (hB : B ≤ ww.heap.size) : Calls Tryz.prog 108 #[.pointer (some ⟨d, 0, none⟩)] ww (RunOut B ww d b c (lookM S c)) := by
 have hmay := (mayc_may hm).1
 have hf := fine_of_may hwf hmay
 have hdat := may_data hmay
 unfold lookM
 by_cases k4 : c.kind = 4
 · rw [if_pos k4]; exact run_bytes B d b S c PRes.zero ww hd (.inl k4) _ (bytes_read B d b S c PRes.zero ww hd hB hf k4 fun x hx => by have := hdat x hx; omega)
 rw [if_neg k4]
 by_cases k7 : c.kind = 7
 · rw [if_pos k7]; exact run_bytes B d b S c PRes.zero ww hd (.inr (.inr k7)) _ (bytes_size B d b S c PRes.zero ww hd hB hf k7)
 rw [if_neg k7]
 have hk : c.kind = 12 ∨ c.kind = 13 ∨ c.kind = 14 := by
  rcases hc with h | h | h | h | h
  · exact absurd h k4
  · exact absurd h k7
  · exact .inl h
  · exact .inr (.inl h)
  · exact .inr (.inr h)
 refine run_told B d b S c PRes.zero ww hd hk _ ?_
 by_cases hp : (parseM c.path).1 = 0
 · rw [if_neg (by simpa using hp)]; have hl := parse_len hp; rcases hk with k | k | k
   · rw [if_pos k]; exact tell_list B d b S c PRes.zero ww hd hB hf k (by simp [PRes.zero]) hp (by omega)
   · rw [if_neg (by omega), if_pos k]; exact tell_stat B d b S c PRes.zero ww hd hB hf k hp (by omega)
   · rw [if_neg (by omega), if_neg (by omega)]; exact tell_links B d b S c PRes.zero ww hd hB hf k hp
 · rw [if_pos hp]; exact tell_x B d b S c PRes.zero ww hd hB hp
def runX (S : PSt) (c : PCall) : Except Int (PSt × PRes) :=
 if c.kind = 0 ∨ c.kind = 1 then createX S c PRes.zero else if c.kind = 2 then openX S c PRes.zero else if c.kind = 3 then closeA S c PRes.zero else
 if c.kind = 5 then writeX S c PRes.zero else if c.kind = 6 then truncM S c PRes.zero else if c.kind = 8 then linkX S c PRes.zero else
 if c.kind = 9 ∨ c.kind = 10 then removeM S c PRes.zero else if c.kind = 11 then renameX S c PRes.zero else
 if c.kind = 15 then fsyncM S c PRes.zero else if c.kind = 16 then .ok (S, PRes.zero) else lookM S c
def doX (S : PSt) (c : PCall) : PSt × PRes := doM S c (runX S c)
theorem did_all {S : PSt} {c : PCall} (hwf : S.wf) (hcd : c.data.size ≤ 1000000000000000000) : Did S c (doX S c).1 (doX S c).2 := by
 refine did_of (runX S c) hwf (by rfl) fun hm B ww d b hd hB => ?_
 obtain ⟨hmay, hc0, hc1⟩ := mayc_may hm
 have hf := fine_of_may hwf hmay
 obtain ⟨hs, hop, hdat, hmd⟩ := may_bounds hwf hmay
 have hdat' : ∀ x ∈ S.ins, x.data.size ≤ 1000000 := fun x hx => by have := hdat x hx; omega
 have hk : 0 ≤ c.kind ∧ c.kind ≤ 16 := by
  unfold maycM at hm; simp only [Bool.and_eq_true, decide_eq_true_eq] at hm; exact ⟨hm.1.1.1.1, hm.1.1.1.2⟩
 unfold runX
 by_cases k1 : c.kind = 0 ∨ c.kind = 1
 · rw [if_pos k1]; exact run_made B d b S c PRes.zero ww hd k1 _ (create71x B d b S c PRes.zero ww hd hB hf hs hc0 hc1)
 rw [if_neg k1]
 by_cases k2 : c.kind = 2
 · rw [if_pos k2]; exact run_open B d b S c PRes.zero ww hd k2 _ (open72x B d b S c PRes.zero ww hd hB hf (by omega))
 rw [if_neg k2]
 by_cases k3 : c.kind = 3
 · rw [if_pos k3]; exact run_closeA B d b S c PRes.zero ww hd hB hf k3
 rw [if_neg k3]
 by_cases k5 : c.kind = 5
 · rw [if_pos k5]; exact run_bytes B d b S c PRes.zero ww hd (.inr (.inl k5)) _ (bytes_writeX B d b S c PRes.zero ww hd hB hf k5 hdat' hcd)
 rw [if_neg k5]
 by_cases k6 : c.kind = 6
 · rw [if_pos k6]; exact run_bytes6 B d b S c PRes.zero ww hd k6 _ (bytes_trunc B d b S c PRes.zero ww hd hB hf k6 hdat')
 rw [if_neg k6]
 by_cases k8 : c.kind = 8
 · rw [if_pos k8]; exact run_linked B d b S c PRes.zero ww hd k8 _ (link77x B d b S c PRes.zero ww hd hB hf hs hmd)
 rw [if_neg k8]
 by_cases k9 : c.kind = 9 ∨ c.kind = 10
 · rw [if_pos k9]; exact run_removed B d b S c PRes.zero ww hd k9 _ (remove78 B d b S c PRes.zero ww hd hB hf hs hmd)
 rw [if_neg k9]
 by_cases k11 : c.kind = 11
 · rw [if_pos k11]; exact run_renamed B d b S c PRes.zero ww hd k11 _ (rename79x B d b S c PRes.zero ww hd hB hf hs hmd)
 rw [if_neg k11]
 by_cases k15 : c.kind = 15
 · rw [if_pos k15]; exact run_fsync B d b S c PRes.zero ww hd hB hf k15
 rw [if_neg k15]
 by_cases k16 : c.kind = 16
 · rw [if_pos k16]; exact run_sync B d b S c PRes.zero ww hd hB k16
 rw [if_neg k16]
 exact run_look hwf (show Looks c by unfold Looks; omega) hm hd hB
end Go.Proofs.YtmkapobnfigedaaGreatDoor
namespace Go.Proofs.YtmkapobnfigedaaGreatDoor
open Go.RowKit
def joinP : List ByteArray → ByteArray → ByteArray
 | [], s => s
 | n :: r, s => joinP r (s ++ (⟨#[47]⟩ ++ n))
def printM (ns : List ByteArray) : ByteArray × Int := if ns.all nameB = true then (if 4 < ns.length then (⟨#[]⟩, 1102) else if 64 < (joinP ns ⟨#[]⟩).size then (⟨#[]⟩, 1101) else if (joinP ns ⟨#[]⟩).size = 0 then (⟨#[47]⟩, 0) else (joinP ns ⟨#[]⟩, 0)) else (⟨#[]⟩, 1100)
def findP (S : PSt) (p : ByteArray) : Int × Int := if (parseM p).1 ≠ 0 then (0, codeM (parseM p).1) else if mayM S = true then (if (walkM S 0 (parseM p).2).2 ≠ 0 then (0, (walkM S 0 (parseM p).2).2) else (numAt S (walkM S 0 (parseM p).2).1, 0)) else (0, 9)
def thruK (S : PSt) (ns : List ByteArray) : List PKey := (List.range ns.length).map fun k => ⟨(findP S (printM (ns.take k)).1).1, ⟨#[46]⟩⟩
def lastNum (S : PSt) (ns : List ByteArray) : Int := (findP S (printM (ns.take (ns.length - 1))).1).1
def bktName (n : ByteArray) : ByteArray := ⟨#[47, UInt8.ofNat (48 + (bucketM n).toNat)]⟩
def walkK (S : PSt) (p : ByteArray) : List PKey := thruK S (parseM p).2
def entryK (S : PSt) (p : ByteArray) : List PKey := walkK S p ++ [⟨lastNum S (parseM p).2, bktName ((parseM p).2.getLastD ⟨#[]⟩)⟩]
def inodeK (S : PSt) (p : ByteArray) : List PKey := [⟨(findP S p).1, ⟨#[]⟩⟩]
def openedK (S : PSt) (c : PCall) : List PKey := [⟨match S.op[(idxM (isFd c) S.op).toNat]? with | some d => d.num | none => 0, ⟨#[]⟩⟩]
def gatherK (S S' : PSt) (c : PCall) : Option (List PKey) :=
 let l : Option (List PKey) := if c.kind = 0 ∨ c.kind = 1 then some (entryK S c.path ++ inodeK S' c.path) else if c.kind = 2 then some (walkK S c.path ++ inodeK S c.path) else
  if c.kind = 3 ∨ c.kind = 6 then some (openedK S c) else if c.kind = 5 then (if c.data.size = 0 then none else some (openedK S c)) else
  if c.kind = 8 then some (walkK S c.path ++ entryK S c.path2 ++ inodeK S c.path) else if c.kind = 9 ∨ c.kind = 10 then some (entryK S c.path ++ inodeK S c.path) else
  if c.kind = 11 then some (entryK S c.path ++ entryK S c.path2 ++ inodeK S c.path) else none
 l.map fun l => l ++ [⟨-1 - c.core, ⟨#[]⟩⟩]
end Go.Proofs.YtmkapobnfigedaaGreatDoor
namespace Go.Proofs.YtmkapobnfigedaaGreatDoor
open Go.RowKit
def PathOk (p : ByteArray) : Prop := (parseM p).1 = 0 ∧ (parseM p).2 ≠ []
structure GatherOk (S : PSt) (c : PCall) : Prop where
 may : mayM S = true
 core : 0 ≤ c.core ∧ c.core < S.made.length
 kind : 0 ≤ c.kind ∧ c.kind ≤ 16
 path : (c.kind = 0 ∨ c.kind = 1 ∨ c.kind = 2 ∨ c.kind = 8 ∨ c.kind = 9 ∨ c.kind = 10 ∨ c.kind = 11) → PathOk c.path
 path2 : (c.kind = 8 ∨ c.kind = 11) → PathOk c.path2
 fd : (c.kind = 3 ∨ c.kind = 5 ∨ c.kind = 6) → 0 ≤ idxM (isFd c) S.op
theorem codeM_ne {c : Int} (h : c ≠ 0) : codeM c ≠ 0 := by
 unfold codeM
 rw [if_neg h]
 split <;> decide
theorem parentM_ne {S : PSt} {ns : List ByteArray} {k : Int} (h : parentM S ns = .error k) : k ≠ 0 := by
 unfold parentM at h
 split at h
 · cases h; decide
 split at h
 · rename_i hc; cases h; exact hc
 split at h
 · split at h
   · cases h
   · cases h; decide
 · cases h; decide
theorem parentM_cons {S : PSt} {ns : List ByteArray} {x : Nat × ByteArray} (h : parentM S ns = .ok x) : ns ≠ [] := by
 intro e
 subst e
 cases h
theorem parentM_some {S : PSt} {ns : List ByteArray} {K : Nat} {l : ByteArray} (h : parentM S ns = .ok (K, l)) : ∃ x, S.ins[K]? = some x ∧ x.dir = true := by
 unfold parentM at h
 split at h
 · cases h
 split at h
 · cases h
 split at h
 · rename_i x hx
   split at h
   · rename_i hd
     simp only [Except.ok.injEq, Prod.mk.injEq] at h; rw [← h.1]; exact ⟨x, hx, hd⟩
   · cases h
 · cases h
theorem parX_path {S : PSt} {s : ByteArray} {x : Nat × ByteArray} (h : parX S s = .ok x) : PathOk s := by
 unfold parX at h
 split at h
 · cases h
 · rename_i hp
   exact ⟨Decidable.of_not_not hp, parentM_cons h⟩
theorem parX_ne {S : PSt} {s : ByteArray} {k : Int} (h : parX S s = .error k) : k ≠ 0 := by
 unfold parX at h
 split at h
 · rename_i hp
   cases h; exact codeM_ne hp
 · exact parentM_ne h
theorem atX_ne {S : PSt} {s : ByteArray} {k : Int} (h : atX S s = .error k) : k ≠ 0 := by
 unfold atX at h
 split at h
 · rename_i hp
   cases h; exact codeM_ne hp
 split at h
 · rename_i hp
   cases h; exact hp
 · cases h
theorem root_dir {S : PSt} (hm : mayM S = true) : ∃ x, S.ins[0]? = some x ∧ x.num = 1 ∧ x.dir = true := by
 unfold mayM at hm
 split at hm
 rotate_left
 · cases hm
 rename_i h1
 simp only [Bool.and_eq_true] at h1
 obtain ⟨⟨-, hins⟩, -⟩ := h1
 unfold mayInsM at hins
 rcases e : S.ins with _ | ⟨x0, r⟩
 · rw [e] at hins; cases hins
 rw [e] at hins
 simp only at hins
 split at hins
 rotate_left
 · cases hins
 rename_i h2
 refine ⟨x0, rfl, ?_, ?_⟩
 · simp_all
 · simp_all
theorem fileX_fd {S : PSt} {c : PCall} {y : Nat × PIn} (h : fileX S c = some y) : 0 ≤ idxM (isFd c) S.op := by
 unfold fileX at h
 split at h
 · cases h
 · omega
theorem doX_ok {S : PSt} {c : PCall} (h : (doX S c).2.code = 0) : maycM S c = true ∧ ((∃ y, runX S c = .ok y ∧ doX S c = y) ∨ (runX S c = .error 0 ∧ (doX S c).1 = S)) := by
 unfold doX doM at h ⊢
 split at h
 rotate_left
 · cases h
 rename_i hm
 refine ⟨hm, ?_⟩
 rw [if_pos hm]
 split at h
 · rename_i y e
   exact .inl ⟨y, e, rfl⟩
 · rename_i k e
   have hk : k = 0 := h; subst hk; exact .inr ⟨e, rfl⟩
theorem hit_some {es : List PEnt} {s : ByteArray} (h : hitE es s = true) : ∃ e, es[bsE es s]? = some e := ⟨_, List.getElem?_eq_getElem (hitE_lt h)⟩
theorem run_path {S : PSt} {c : PCall} (hm : mayM S = true) (h : runX S c ≠ .error 0 → ∀ k, runX S c ≠ .error k) (hk : c.kind = 0 ∨ c.kind = 1 ∨ c.kind = 2 ∨ c.kind = 8 ∨ c.kind = 9 ∨ c.kind = 10 ∨ c.kind = 11) : PathOk c.path := by
 have key : ∀ k, k ≠ 0 → runX S c = .error k → False := fun k h0 e => by
  refine h ?_ k e; rw [e]; intro e2; cases e2; exact h0 rfl
 unfold runX at key
 by_cases k1 : c.kind = 0 ∨ c.kind = 1
 · rw [if_pos k1] at key; unfold createX createM at key; by_cases hp : (parseM c.path).1 = 0
   · refine ⟨hp, fun e => ?_⟩; rw [if_neg (by simpa using hp), e] at key; exact key 9 (by decide) rfl
   · rw [if_pos hp] at key; exact (key _ (codeM_ne hp) rfl).elim
 rw [if_neg k1] at key
 by_cases k2 : c.kind = 2
 · rw [if_pos k2] at key; unfold openX openDo at key; by_cases hp : (parseM c.path).1 = 0
   · refine ⟨hp, fun e => ?_⟩; rw [if_neg (by simpa using hp), e] at key; obtain ⟨x0, h0, -, h2⟩ := root_dir hm; rw [if_neg (by unfold walkM; simp)] at key; have h3 : S.ins[(walkM S 0 []).1]? = some x0 := h0; rw [h3] at key; simp only [h2, if_true] at key; exact key 8 (by decide) rfl
   · rw [if_pos hp] at key; exact (key _ (codeM_ne hp) rfl).elim
 rw [if_neg k2, if_neg (by omega), if_neg (by omega), if_neg (by omega)] at key
 by_cases k8 : c.kind = 8
 · rw [if_pos k8] at key; unfold linkX at key; rcases ha : atX S c.path with k | K
   · rw [ha] at key; exact (key k (atX_ne ha) rfl).elim
   rw [ha] at key; simp only at key; have hp : (parseM c.path).1 = 0 := by
    unfold atX at ha
    split at ha
    · cases ha
    · rename_i hp; exact Decidable.of_not_not hp
   refine ⟨hp, fun e => ?_⟩; unfold atX at ha; rw [e, if_neg (by simpa using hp), if_neg (by unfold walkM; simp)] at ha; obtain ⟨x0, h0, -, h2⟩ := root_dir hm; cases ha; have h3 : S.ins[(walkM S 0 []).1]? = some x0 := h0; rw [h3] at key; simp only [h2, if_true] at key; exact key 8 (by decide) rfl
 rw [if_neg k8] at key
 by_cases k9 : c.kind = 9 ∨ c.kind = 10
 · rw [if_pos k9] at key; unfold removeM at key; rcases ha : parX S c.path with k | y
   · rw [ha] at key; exact (key k (parX_ne ha) rfl).elim
   · exact parX_path ha
 rw [if_neg k9, if_pos (by omega)] at key
 unfold renameX renameM at key
 by_cases hp : (parseM c.path).1 = 0
 · refine ⟨hp, fun e => ?_⟩; rw [if_neg (by simpa using hp), e] at key; by_cases hp2 : (parseM c.path2).1 = 0
   · rw [if_pos hp2] at key; exact key 9 (by decide) rfl
   · rw [if_neg hp2] at key; unfold renBad at key; rw [e] at key; exact key 9 (by decide) rfl
 · rw [if_pos hp] at key; exact (key _ (codeM_ne hp) rfl).elim
theorem run_path2 {S : PSt} {c : PCall} (hwf : S.wf) (hm : mayM S = true) (h : runX S c ≠ .error 0 → ∀ k, runX S c ≠ .error k) (hk : c.kind = 8 ∨ c.kind = 11) (hpo : PathOk c.path) : PathOk c.path2 := by
 have key : ∀ k, k ≠ 0 → runX S c = .error k → False := fun k h0 e => by
  refine h ?_ k e; rw [e]; intro e2; cases e2; exact h0 rfl
 unfold runX at key
 rw [if_neg (by omega), if_neg (by omega), if_neg (by omega), if_neg (by omega), if_neg (by omega)] at key
 by_cases k8 : c.kind = 8
 · rw [if_pos k8] at key; unfold linkX at key; rcases ha : atX S c.path with k | K
   · rw [ha] at key; exact (key k (atX_ne ha) rfl).elim
   rw [ha] at key; simp only at key; rcases hx : S.ins[K]? with _ | x
   · exfalso; obtain ⟨x, hx2⟩ := atX_ok (fine_of_may hwf hm) ha; rw [hx] at hx2; cases hx2
   rw [hx] at key; simp only at key; by_cases hd : x.dir = true
   · rw [if_pos hd] at key; exact (key 8 (by decide) rfl).elim
   rw [if_neg hd] at key; rcases hq : parX S c.path2 with k | y
   · rw [hq] at key; exact (key k (parX_ne hq) rfl).elim
   · exact parX_path hq
 rw [if_neg k8, if_neg (by omega), if_pos (by omega)] at key
 unfold renameX renameM at key
 rw [if_neg (by simpa using hpo.1)] at key
 rcases ha : parentM S (parseM c.path).2 with k | ⟨K, s⟩
 · rw [ha] at key; by_cases hp2 : (parseM c.path2).1 = 0
   · rw [if_pos hp2] at key; exact (key k (parentM_ne ha) rfl).elim
   · rw [if_neg hp2] at key; unfold renBad at key; rw [ha] at key; exact (key k (parentM_ne ha) rfl).elim
 obtain ⟨x, hx, hxd⟩ := parentM_some ha
 unfold renBad at key
 rw [ha] at key
 simp only [hx] at key
 by_cases hp2 : (parseM c.path2).1 = 0
 · refine ⟨hp2, fun e => ?_⟩; rw [if_pos hp2, e] at key; unfold renFrom at key; rcases hh : hitE x.ents s with _ | _
   · rw [if_pos hh] at key; exact key 1 (by decide) rfl
   rw [if_neg (by rw [hh]; decide)] at key; obtain ⟨en, hen⟩ := hit_some hh; rw [hen] at key; exact key 9 (by decide) rfl
 · rw [if_neg hp2] at key; exfalso; rcases hh : hitE x.ents s with _ | _
   · rw [hh] at key; exact key 1 (by decide) rfl
   · rw [if_neg (by rw [hh]; decide)] at key; exact key _ (codeM_ne hp2) rfl
theorem run_fd {S : PSt} {c : PCall} (h : runX S c ≠ .error 0 → ∀ k, runX S c ≠ .error k) (hk : c.kind = 3 ∨ c.kind = 5 ∨ c.kind = 6) : 0 ≤ idxM (isFd c) S.op := by
 have key : ∀ k, k ≠ 0 → runX S c = .error k → False := fun k h0 e => by
  refine h ?_ k e; rw [e]; intro e2; cases e2; exact h0 rfl
 unfold runX at key
 rw [if_neg (by omega), if_neg (by omega)] at key
 rcases hf : fileX S c with _ | y
 · exfalso; rcases hk with hk | hk | hk
   · rw [if_pos hk] at key; unfold closeA at key; rw [hf] at key; exact key 4 (by decide) rfl
   · rw [if_neg (by omega), if_pos hk] at key; unfold writeX at key; rw [hf] at key; exact key 4 (by decide) rfl
   · rw [if_neg (by omega), if_neg (by omega), if_pos hk] at key; unfold truncM at key; rw [hf] at key; exact key 4 (by decide) rfl
 · exact fileX_fd hf
theorem gather_ok {S : PSt} {c : PCall} (hwf : S.wf) (h : (doX S c).2.code = 0) : GatherOk S c := by
 obtain ⟨hm, hr⟩ := doX_ok h
 obtain ⟨hmay, h0, h1⟩ := mayc_may hm
 have hk : 0 ≤ c.kind ∧ c.kind ≤ 16 := by
  unfold maycM at hm; simp only [Bool.and_eq_true, decide_eq_true_eq] at hm; exact ⟨hm.1.1.1.1, hm.1.1.1.2⟩
 have hq : runX S c ≠ .error 0 → ∀ k, runX S c ≠ .error k := fun h0 k e => by
  rcases hr with ⟨y, e2, -⟩ | ⟨e2, -⟩
  · rw [e2] at e; cases e
  · exact h0 e2
 exact ⟨hmay, ⟨h0, h1⟩, hk, fun k => run_path hmay hq k, fun k => run_path2 hwf hmay hq k (run_path hmay hq (by omega)), fun k => run_fd hq k⟩
end Go.Proofs.YtmkapobnfigedaaGreatDoor
namespace Go.Proofs.YtmkapobnfigedaaGreatDoor
open Go.RowKit
theorem all_dropP {α : Type} (p : α → Bool) (l : List α) (q : Nat) {x : α} (h : l[q]? = some x) : (l.drop q).all p = (p x && (l.drop (q + 1)).all p) := by
 obtain ⟨hl, rfl⟩ := List.getElem?_eq_some_iff.1 h
 rw [List.drop_eq_getElem_cons hl, List.all_cons]
theorem joinP_drop (l : List ByteArray) (q : Nat) {x : ByteArray} (h : l[q]? = some x) (s : ByteArray) : joinP (l.drop q) s = joinP (l.drop (q + 1)) (s ++ ((⟨#[47]⟩ : ByteArray) ++ x)) := by
 obtain ⟨hl, rfl⟩ := List.getElem?_eq_some_iff.1 h
 rw [List.drop_eq_getElem_cons hl]
 rfl
theorem joinP_end (l : List ByteArray) (q : Nat) (h : ¬ q < l.length) (s : ByteArray) : joinP (l.drop q) s = s := by
 rw [List.drop_eq_nil_of_le (by omega)]
 rfl
set_option maxRecDepth 100000 in
set_option maxHeartbeats 8000000 in
theorem print154 (ns : List ByteArray) (v : Value) (w : World) (h : RowAt w 1 v (ns.map fun n => [.string n])) (hlen : ns.length ≤ 1000000) :
 Calls Tryz.prog 154 #[v] w fun e w' => e = .returned (.tuple #[.string (printM ns).1, .int .i64 (printM ns).2]) ∧ Below w.heap.size w w' := by
 obtain ⟨a, cap, rfl, hat⟩ := h.at_
 rw [List.length_map]
 have HA := Lib.hid hat
 obtain ⟨R, hR⟩ : ∃ R, printM ns = R := ⟨_, rfl⟩
 have HR := Lib.hid hR
 rw [hR]
 clear hat h hR
 have hmay := fun n ww => may148 n ww
 go_enter Tryz.func154, Tryz.ntmps154
 go_wp2_with fail
 go_loopw [11] (fun vi wr => ∃ q : Nat, vi = .int .i64 q ∧ q ≤ ns.length ∧ ns.all nameB = (ns.drop q).all nameB ∧ Below w.heap.size w wr) (fun vi _ => (ns.length - intOf vi).toNat)
 case atStart => exact ⟨0, rfl, by omega, by simp, bel _ _⟩
 case round =>
  obtain ⟨q, rfl, hq, hre, hbr⟩ := hrel; have iB : Bel w wr := ⟨hbr⟩
  by_cases hlt : q < ns.length
  · obtain ⟨x, hx⟩ : ∃ x, ns[q]? = some x := ⟨_, List.getElem?_eq_getElem hlt⟩
    obtain ⟨be, offe, rfl, iE0, iE, hce⟩ := HA.out wr hbr q [.string x] (by rw [List.getElem?_map, hx]; rfl); have e0 := hce 0 _ rfl; rw [Nat.add_zero, Nat.mul_one] at e0; rw [all_dropP _ _ _ hx] at hre; rcases hm : nameB x with _ | _
    · have hRb : R = (⟨#[]⟩, 1100) := by
       rw [← HR.out]; unfold printM; rw [hre, hm, Bool.false_and, if_neg (by decide)]
      subst hRb; have h1 := hmay x; rw [hm] at h1; clear hre hx hce hm; go_wp2_with (go_at_call 132; refine (h1 _).mono ?_; rintro e w' ⟨rfl, hb⟩; obtain ⟨p, rfl⟩ := hb.rest; clear hb)
      refine bodyPost_ret (v := .tuple #[.string ⟨#[]⟩, .int .i64 1100]) (by simp [results, Tryz.results154, go_sem]) rfl ⟨rfl, bel _ _⟩
    · have h1 := hmay x; rw [hm] at h1 hre; rw [Bool.true_and] at hre; have HE := Lib.hid hre; clear hre hx hce hm; go_wp2_with (go_at_call 132; refine (h1 _).mono ?_; rintro e w' ⟨rfl, hb⟩; obtain ⟨p, rfl⟩ := hb.rest; clear hb)
      go_roundw
      case rel => exact ⟨q + 1, by go_num, by omega, HE.out, bel _ _⟩
      case measure => simp [intOf]; omega
  · rw [List.drop_eq_nil_of_le (by omega)] at hre; have HE := Lib.hid hre; clear hre; by_cases h4 : 4 < ns.length
    · have hRb : R = (⟨#[]⟩, 1102) := by
       rw [← HR.out]; unfold printM; rw [HE.out, List.all_nil, if_pos rfl, if_pos h4]
      subst hRb; have h4I : (4 : Int) < ns.length := by omega
      go_wp2_with fail; refine bodyPost_ret (v := .tuple #[.string ⟨#[]⟩, .int .i64 1102]) (by simp [results, Tryz.results154, go_sem]) rfl ⟨rfl, bel _ _⟩
    have h4I : ¬ (4 : Int) < ns.length := by omega
    have hRj : R = if 64 < (joinP ns ⟨#[]⟩).size then (⟨#[]⟩, 1101) else if (joinP ns ⟨#[]⟩).size = 0 then (⟨#[47]⟩, 0) else (joinP ns ⟨#[]⟩, 0) := by
     rw [← HR.out]; unfold printM; rw [HE.out, List.all_nil, if_pos rfl, if_neg h4]
    have HJ := Lib.hid hRj; clear hRj; go_wp2_with fail
    go_loopw [4, 24] (fun vs vi wr => ∃ (q : Nat) (s : ByteArray), vi = .int .i64 q ∧ vs = .string s ∧ q ≤ ns.length ∧ s.size ≤ 13 * q ∧ joinP ns ⟨#[]⟩ = joinP (ns.drop q) s ∧ Below w.heap.size w wr) (fun _ vi _ => (ns.length - intOf vi).toNat)
    case atStart => exact ⟨0, ⟨#[]⟩, rfl, rfl, by omega, by decide, by simp, bel _ _⟩
    case round =>
     obtain ⟨q, s, rfl, rfl, hq, hsz, hre, hbr⟩ := hrel; have iB : Bel w wr := ⟨hbr⟩
     by_cases hlt : q < ns.length
     · obtain ⟨x, hx⟩ : ∃ x, ns[q]? = some x := ⟨_, List.getElem?_eq_getElem hlt⟩
       obtain ⟨be, offe, rfl, iE0, iE, hce⟩ := HA.out wr hbr q [.string x] (by rw [List.getElem?_map, hx]; rfl); have e0 := hce 0 _ rfl; rw [Nat.add_zero, Nat.mul_one] at e0; rw [joinP_drop _ _ hx] at hre; have hxs : x.size ≤ 12 := name_small (List.all_eq_true.1 (HE.out.trans rfl) x (List.mem_of_getElem? hx)); have n1 : ¬ 9223372036854775807 < 1 + x.size := by omega
       have n2 : ¬ 9223372036854775807 < s.size + (1 + x.size) := by omega
       have HE2 := Lib.hid hre; clear hre hx hce; go_wp2_with fail
       go_roundw
       case rel => exact ⟨q + 1, _, by go_num, rfl, by omega, by rw [ByteArray.size_append, ByteArray.size_append]; show s.size + (1 + x.size) ≤ _; omega, HE2.out, bel _ _⟩
       case measure => simp [intOf]; omega
     · rw [joinP_end _ _ hlt] at hre; rw [hre] at HJ; clear hre; by_cases h64 : 64 < s.size
       · have hRb : R = (⟨#[]⟩, 1101) := by rw [HJ.out, if_pos h64]
         subst hRb; have i64 : (64 : Int) < s.size := by omega
         go_wp2_with fail; refine bodyPost_ret (v := .tuple #[.string ⟨#[]⟩, .int .i64 1101]) (by simp [results, Tryz.results154, go_sem]) rfl ⟨rfl, bel _ _⟩
       have i64 : ¬ (64 : Int) < s.size := by omega
       by_cases h0 : s.size = 0
       · have hRb : R = (⟨#[47]⟩, 0) := by rw [HJ.out, if_neg h64, if_pos h0]
         subst hRb; have i0 : s.toList.isEmpty = true := by
          rw [ByteArray.toList_eq, List.isEmpty_iff]; exact List.eq_nil_of_length_eq_zero h0
         clear h0; go_wp2_with fail; refine bodyPost_ret (v := .tuple #[.string ⟨#[47]⟩, .int .i64 0]) (by simp [results, Tryz.results154, go_sem]) rfl ⟨rfl, bel _ _⟩
       · have hRb : R = (s, 0) := by rw [HJ.out, if_neg h64, if_neg h0]
         subst hRb; have i0 : s.toList.isEmpty = false := by
          rw [ByteArray.toList_eq, Bool.eq_false_iff]; intro h; rw [List.isEmpty_iff] at h; apply h0; show s.data.toList.length = 0; rw [h]; rfl
         clear h0; go_wp2_with fail; refine bodyPost_ret (v := .tuple #[.string s, .int .i64 0]) (by simp [results, Tryz.results154, go_sem]) rfl ⟨rfl, bel _ _⟩
end Go.Proofs.YtmkapobnfigedaaGreatDoor
namespace Go.Proofs.YtmkapobnfigedaaGreatDoor
open Go.RowKit
theorem parse_own (s : ByteArray) (w : World) : Calls Tryz.prog 153 #[.string s] w fun e w' => ∃ v, e = .returned (.tuple #[v, .int .i64 (parseM s).1]) ∧ Below w.heap.size w w' ∧ OwnP 0 w' 9 1 v ((parseM s).2.map fun n => [.string n]) ∧ ∀ b, v.ownBlock = some b → w.heap.size ≤ b := by
 refine (parse136 s w).mono ?_
 rintro e w' ⟨v, he, hb, ho, hg⟩
 have := (OwnP.of_own (rows := (parseM s).2.map fun n => [.string n]) (by rw [List.length_map, flat_one]; exact ho) (by decide) (by intro cs h; obtain ⟨x, _, rfl⟩ := List.mem_map.1 h; rfl))
 exact ⟨v, he, hb, this, hg⟩
set_option maxRecDepth 100000 in
set_option maxHeartbeats 8000000 in
theorem find152 (iv ov mv : Value) (S : PSt) (p : ByteArray) (w : World) (h : StRead w iv ov mv S) (hwf : S.wf) :
 Calls Tryz.prog 152 #[.agg #[iv, ov, mv], .string p] w fun e w' => e = .returned (.tuple #[.int .i64 (findP S p).1, .int .i64 (findP S p).2]) ∧ Below w.heap.size w w' := by
 have hsp := h.box 26
 have h1 := h.1.one
 have h2 := h.2.1.one
 have h3 : iv.oneCell' = true := by obtain ⟨_, _, _, h3, _⟩ := h; exact h3.one
 have hpar := fun ww => parse_own p ww
 have hcode := fun c ww => code167 c ww
 have hmay := fun ww (hb : Below w.heap.size w ww) => may37 iv ov mv S ww (h.below hb (Nat.le_refl _)) hwf
 obtain ⟨R, hR⟩ : ∃ R, findP S p = R := ⟨_, rfl⟩
 rw [hR]
 have HR := Lib.hid hR
 clear hR
 by_cases hp : (parseM p).1 = 0
 · have hpl := parse_len hp; rw [hp] at hpar; rcases hm : mayM S with _ | _
   · have hRe : R = (0, 9) := by
      rw [← HR.out]; unfold findP; rw [if_neg (by simpa using hp), if_neg (by rw [hm]; decide)]
     subst hRe; rw [hm] at hmay; generalize (parseM p).2 = ns at *; clear h hp hsp hcode hm
     go_enter Tryz.func152, Tryz.ntmps152
     go_wp2_with (first | (go_at_call 153; refine (hpar _).mono ?_; rintro e w1 ⟨nv, rfl, hb1, hnm, hng⟩; obtain ⟨p1, rfl⟩ := hb1.rest; clear hb1; obtain ⟨an, cn, rfl, -⟩ := hnm.row) | (go_at_call 39; refine (hmay _ (bel _ _)).mono ?_; rintro e w' ⟨rfl, hb⟩; obtain ⟨p, rfl⟩ := hb.rest; clear hb))
     refine bodyPost_ret (v := .tuple #[.int .i64 0, .int .i64 9]) (by simp [results, Tryz.results152, go_sem]) rfl ⟨rfl, bel _ _⟩
   · have hf := fine_of_may hwf hm; have hRe : R = if (walkM S 0 (parseM p).2).2 ≠ 0 then (0, (walkM S 0 (parseM p).2).2) else (numAt S (walkM S 0 (parseM p).2).1, 0) := by
      rw [← HR.out]; unfold findP; rw [if_neg (by simpa using hp), if_pos hm]
     have hkl := walkM_lt hf (parseM p).2 0 hf.pos; have hwk : ∀ ww v, Below (w.alloc (.cells #[iv, ov, mv] 26)).heap.size (w.alloc (.cells #[iv, ov, mv] 26)) ww → RowAt ww 1 v ((parseM p).2.map fun n => [.string n]) → Calls Tryz.prog 191 #[.pointer (some ⟨w.heap.size, 0, none⟩), v] ww _ := fun ww v hb hv => walk151 w.heap.size S (parseM p).2 v ww (hsp.below hb (Nat.le_refl _)) hf.wf hf.pos hf.find hv (Nat.le_trans hpl (by decide))
     rw [hm] at hmay; obtain ⟨ai, capi, rfl, hati⟩ := h.ins_at2; have HI := Lib.hid hati; generalize (parseM p).2 = ns at *; generalize hwr : walkM S 0 ns = WR at *; obtain ⟨k, cd⟩ := WR; simp only at hRe hkl hwk; have HN := Lib.hid hwr; clear h hp hsp hcode hm hati hwr; by_cases hcd : cd = 0
     · subst hcd; obtain ⟨x, hx⟩ : ∃ x, S.ins[k]? = some x := ⟨_, List.getElem?_eq_getElem hkl⟩
       have hRf : R = (x.num, 0) := by
        rw [hRe, if_neg (by simp)]; unfold numAt; rw [hx]
       subst hRf; clear hRe; obtain ⟨bi, off, ev, rfl, iG0, ho1, hev, hcl⟩ := HI.out k x hx; have hklI : (k : Int) < S.ins.length := by omega
       clear hev
       go_enter Tryz.func152, Tryz.ntmps152
       go_upto_region 2 with (go_at_call 153; refine (hpar _).mono ?_; rintro e w1 ⟨nv, rfl, hb1, hnm, hng⟩; obtain ⟨p1, rfl⟩ := hb1.rest; clear hb1; have hrow := hnm.row; obtain ⟨an, cn, rfl, -⟩ := hnm.row)
       rw [List.length_map] at hrow; refine abs_world (F := fun wA => Below (w.alloc (.cells #[.slice (some ⟨bi, off, none⟩) S.ins.length capi, ov, mv] 26)).heap.size (w.alloc (.cells #[.slice (some ⟨bi, off, none⟩) S.ins.length capi, ov, mv] 26)) wA ∧ RowAt wA 1 (.slice an ns.length cn) (ns.map fun n => [.string n])) ⟨bel _ _, hrow⟩ ?_; clear hrow hnm hpar; rintro wA ⟨hbA, hrA⟩; have hbk : Blk wA w.heap.size #[.slice (some ⟨bi, off, none⟩) S.ins.length capi, ov, mv] 26 := (Blk.new w _ 26).below hbA (by simp); have b0 : wA.cell? ⟨w.heap.size, 0, none⟩ = some (.slice (some ⟨bi, off, none⟩) S.ins.length capi) := hbk.cell 0; have b1 : wA.cell? ⟨w.heap.size, 1, none⟩ = some ov := hbk.cell 1; have b2 : wA.cell? ⟨w.heap.size, 2, none⟩ = some mv := hbk.cell 2; have iB := hbk.lt; have hbw : Below w.heap.size w wA := (bel w (w.alloc (.cells #[.slice (some ⟨bi, off, none⟩) S.ins.length capi, ov, mv] 26))).trans (hbA.mono (by simp)); have hmay2 := fun ww (hb : Below wA.heap.size wA ww) => hmay ww (hbw.trans (hb.mono hbw.size))
       have hwk2 := fun ww (hb : Below wA.heap.size wA ww) => hwk ww _ (hbA.trans (hb.mono hbA.size)) (hrA.below hb (Nat.le_refl _))
       obtain ⟨iGA, y0, -⟩ := hcl wA hbw; clear hcl; have HB := Lib.hid hbw; clear hwk hmay hbA hrA hbk hbw; go_wp2_with (first | (go_at_call 39; refine (hmay2 _ (bel _ _)).mono ?_; rintro e w' ⟨rfl, hb⟩; obtain ⟨p, rfl⟩ := hb.rest; clear hb) | (go_at_call 191; refine (hwk2 _ (bel _ _)).mono ?_; rintro e w' ⟨rfl, hb⟩; obtain ⟨p, rfl⟩ := hb.rest; clear hb))
       refine bodyPost_ret (v := .tuple #[.int .i64 x.num, .int .i64 0]) (by simp [results, Tryz.results152, go_sem]) rfl ⟨rfl, HB.out.trans ((bel wA _).mono HB.out.size)⟩
     · have hRf : R = (0, cd) := by
        rw [hRe, if_pos hcd]
       subst hRf; clear hRe; have hcb : (cd != 0) = true := by simpa using hcd
       clear hcd
       go_enter Tryz.func152, Tryz.ntmps152
       go_upto_region 2 with (go_at_call 153; refine (hpar _).mono ?_; rintro e w1 ⟨nv, rfl, hb1, hnm, hng⟩; obtain ⟨p1, rfl⟩ := hb1.rest; clear hb1; have hrow := hnm.row; obtain ⟨an, cn, rfl, -⟩ := hnm.row)
       rw [List.length_map] at hrow; refine abs_world (F := fun wA => Below (w.alloc (.cells #[.slice ai S.ins.length capi, ov, mv] 26)).heap.size (w.alloc (.cells #[.slice ai S.ins.length capi, ov, mv] 26)) wA ∧ RowAt wA 1 (.slice an ns.length cn) (ns.map fun n => [.string n])) ⟨bel _ _, hrow⟩ ?_; clear hrow hnm hpar; rintro wA ⟨hbA, hrA⟩; have hbk : Blk wA w.heap.size #[.slice ai S.ins.length capi, ov, mv] 26 := (Blk.new w _ 26).below hbA (by simp); have b0 : wA.cell? ⟨w.heap.size, 0, none⟩ = some (.slice ai S.ins.length capi) := hbk.cell 0; have b1 : wA.cell? ⟨w.heap.size, 1, none⟩ = some ov := hbk.cell 1; have b2 : wA.cell? ⟨w.heap.size, 2, none⟩ = some mv := hbk.cell 2; have iB := hbk.lt; have hbw : Below w.heap.size w wA := (bel w (w.alloc (.cells #[.slice ai S.ins.length capi, ov, mv] 26))).trans (hbA.mono (by simp)); have hmay2 := fun ww (hb : Below wA.heap.size wA ww) => hmay ww (hbw.trans (hb.mono hbw.size))
       have hwk2 := fun ww (hb : Below wA.heap.size wA ww) => hwk ww _ (hbA.trans (hb.mono hbA.size)) (hrA.below hb (Nat.le_refl _))
       have HB := Lib.hid hbw; clear hwk hmay hbA hrA hbk hbw; go_wp2_with (first | (go_at_call 39; refine (hmay2 _ (bel _ _)).mono ?_; rintro e w' ⟨rfl, hb⟩; obtain ⟨p, rfl⟩ := hb.rest; clear hb) | (go_at_call 191; refine (hwk2 _ (bel _ _)).mono ?_; rintro e w' ⟨rfl, hb⟩; obtain ⟨p, rfl⟩ := hb.rest; clear hb))
       refine bodyPost_ret (v := .tuple #[.int .i64 0, .int .i64 cd]) (by simp [results, Tryz.results152, go_sem]) rfl ⟨rfl, HB.out.trans ((bel wA _).mono HB.out.size)⟩
 · have hRe : R = (0, codeM (parseM p).1) := by
    rw [← HR.out]; unfold findP; rw [if_pos hp]
   subst hRe; generalize (parseM p).1 = pc at *; generalize (parseM p).2 = ns at *; have hpb : (pc != 0) = true := by simpa using hp
   have hc := hcode pc; generalize codeM pc = cc at *; clear hmay h hp hsp
   go_enter Tryz.func152, Tryz.ntmps152
   go_wp2_with (first | (go_at_call 153; refine (hpar _).mono ?_; rintro e w1 ⟨nv, rfl, hb1, hnm, hng⟩; obtain ⟨p1, rfl⟩ := hb1.rest; clear hb1; obtain ⟨an, cn, rfl, -⟩ := hnm.row) | (go_at_call 190; refine (hc _).mono ?_; rintro e w' ⟨rfl, hb⟩; obtain ⟨p, rfl⟩ := hb.rest; clear hb))
   refine bodyPost_ret (v := .tuple #[.int .i64 0, .int .i64 cc]) (by simp [results, Tryz.results152, go_sem]) rfl ⟨rfl, bel _ _⟩
end Go.Proofs.YtmkapobnfigedaaGreatDoor
namespace Go.Proofs.YtmkapobnfigedaaGreatDoor
open Go.RowKit
theorem info61 : (Tryz.prog.info? 61).map (fun i => (i.zero, i.size, i.bytes)) = some (some (.agg #[.int .i64 0, .string { data := #[] }]), 2, 24) := by kernel_rfl
theorem app61 {w : World} {ops : Array Oper} {rest : List Oper} {o : Oper} {a : Act} {Q : Exit → Act → World → Prop} (hgd : o.guard = none) (s y : Operand)
 (hop : o.op = .call { callee := .builtin .append, args := #[s, y], argTypes := #[29, 29] }) (B : Nat) (v x : Value) (zs more : List PKey) (hs : a.eval s = v) (hy : a.eval y = x) (ho : OwnP B w 61 2 v (zs.map PKey.cells)) (hx : RowAt w 2 x (more.map PKey.cells)) (hl : zs.length + more.length ≤ 1000000000000) (hB : B ≤ w.heap.size)
 (h : ∀ v' w', Grew B 61 2 w v ((zs ++ more).map PKey.cells) v' w' → wpList Tryz.prog ops Q rest (a.put o.dst v') w') :
 wpList Tryz.prog ops Q (o :: rest) a w := by
 obtain ⟨i, hi, hz, h1, h2⟩ := info_parts info61
 refine wpList_append_P w hgd s y 29 hop B 61 2 24 i _ Tryz.underlying29 hi hz h1 h2 rfl (by decide) v x (zs.map PKey.cells) (more.map PKey.cells) hs hy (pkey_len _) (pkey_len _) (pkey_one _) ho hx ?_ ?_ hB ?_
 · rw [List.length_map, List.length_map]; unfold maxLen; omega
 · rw [List.length_map, List.length_map]; omega
 · intro v' w' hg; rw [← List.map_append] at hg; exact h v' w' hg
def InGa (w : World) (g : Nat) : Prop := ∃ c t, Blk w g c t ∧ (t = 61 ∨ t = 106)
theorem notInGa {w : World} {g : Nat} {c : Array Value} {t : TypeId} (h : Blk w g c t) (h1 : t ≠ 61) (h2 : t ≠ 106) : ¬ InGa w g := fun ⟨c', t', hb', ht'⟩ => by
 by_cases e : t = t'
 · subst e; rcases ht' with h | h
   · exact h1 h
   · exact h2 h
 · exact Blk.ne_ h hb' e rfl
structure GAt (w0 w : World) (S S' : PSt) (c : PCall) (bs bh bc : Nat) (ks : List PKey) : Prop where
 sp : SP w0 bs S
 sh : SP w0 bh S'
 cp : CP w0 bc c
 below : Below w0.heap.size w0 w
 own : ∃ out, Blk w w0.heap.size #[.pointer (some ⟨bs, 0, none⟩), .pointer (some ⟨bh, 0, none⟩), .pointer (some ⟨bc, 0, none⟩), out] 106 ∧ OwnP w0.heap.size w 61 2 out (ks.map PKey.cells)
section
variable {w0 w w' : World} {S S' : PSt} {c : PCall} {bs bh bc : Nat} {ks : List PKey}
theorem GAt.later (h : GAt w0 w S S' c bs bh bc ks) (hb : Below w.heap.size w w') : GAt w0 w' S S' c bs bh bc ks := by
 obtain ⟨h1, h2, h3, h4, out, h5, h6⟩ := h
 exact ⟨h1, h2, h3, h4.trans (hb.mono h4.size), out, h5.below hb h5.lt.lt, OwnP.keep h6 (Keep.of_below hb (fun _ => False)) (fun _ _ h => h)⟩
set_option maxRecDepth 100000 in
set_option maxHeartbeats 4000000 in
theorem add113 (h : GAt w0 w S S' c bs bh bc ks) (hl : ks.length ≤ 1000000) (n : Int) (s : ByteArray) :
 Calls Tryz.prog 113 #[.pointer (some ⟨w0.heap.size, 0, none⟩), .int .i64 n, .string s] w fun e w' => e = .returned (.tuple #[]) ∧ GAt w0 w' S S' c bs bh bc (ks ++ [⟨n, s⟩]) ∧ Keep (InGa w) w w' := by
 obtain ⟨h1, h2, h3, h4, out, h5, h6⟩ := h
 have iG := h5.lt
 have g3 : w.cell? ⟨w0.heap.size, 3, none⟩ = some out := h5.cell 3
 have hne := fun g hg => h6.ne_blk h5 (by decide) (g := g) hg
 have hle := h4.size
 have hin : ∀ g, out.ownBlock = some g → InGa w g := fun g hg => by
  rcases h6 with ⟨rfl, _⟩ | ⟨g', cap, arr, rfl, _, hb, _⟩
  · simp [Value.ownBlock] at hg
  · simp [Value.ownBlock] at hg; subst hg; exact ⟨_, _, hb, .inl rfl⟩
 have hig : InGa w w0.heap.size := ⟨_, _, h5, .inr rfl⟩
 have ho1 := h6.one
 have H6 := Lib.hid h6
 have H5 := Lib.hid h5
 clear h6 h5
 go_enter Tryz.func113, Tryz.ntmps113
 go_wp2_with (at_builtin; refine app61 rfl _ _ rfl w0.heap.size out (.slice (some ⟨w.heap.size, 0, none⟩) 1 1) ks [⟨n, s⟩] rfl rfl ?c1 ?c2 ?c3 ?c4 ?_)
 case c1 => exact OwnP.keep H6.out (Keep.of_below (bel w _) (fun _ => False)) (fun _ _ h => h)
 case c2 => exact (OwnP.row (B := 0) (e := 61) (.inr ⟨w.heap.size, 1, #[.int .i64 n, .string s], rfl, Nat.zero_le _, Blk.new _ _ _, Nat.le_refl _, by decide, rfl, fun q cs hq t u hu => by
  rcases q with _ | q
  · simp only [List.map_cons, List.map_nil, List.getElem?_cons_zero, Option.some.injEq] at hq; subst hq; rw [Nat.zero_mul, Nat.zero_add]; rcases t with _ | _ | t
    · exact hu
    · exact hu
    · simp [PKey.cells] at hu
  · simp at hq⟩))
 case c3 => simp; omega
 case c4 => simp; omega
 intro v' w1 hG
 obtain ⟨hown, hkeep, -⟩ := hG
 rw [show List.map PKey.cells ks ++ [PKey.cells ⟨n, s⟩] = (ks ++ ([⟨n, s⟩] : List PKey)).map PKey.cells by simp] at hown
 have hb1 : Blk w1 w0.heap.size #[.pointer (some ⟨bs, 0, none⟩), .pointer (some ⟨bh, 0, none⟩), .pointer (some ⟨bc, 0, none⟩), out] 106 := hkeep.blk (H5.out.alloc _) (fun hg => hne _ hg rfl)
 have iG1 := hb1.lt
 have g31 : w1.cell? ⟨w0.heap.size, 3, none⟩ = some out := hb1.cell 3
 have fz := hb1.frozen 3
 have hge : ∀ g, out.ownBlock = some g → w0.heap.size ≤ g := fun g hg => H6.out.ge hg
 have hkw : Keep (fun g => g = w0.heap.size ∨ out.ownBlock = some g) w w1 := (Keep.of_below (bel w (w.alloc (.cells #[.int .i64 n, .string s] 61))) (fun g => g = w0.heap.size ∨ out.ownBlock = some g)).trans hkeep (fun i hi hg => .inr hg)
 obtain ⟨av, nv, cv, rfl⟩ : ∃ av nv cv, v' = .slice av nv cv := by obtain ⟨a, c, h, -⟩ := hown.row; exact ⟨a, _, c, h⟩
 have hkf := hkw.setCell (p := ⟨w0.heap.size, 3, none⟩) (.inl (.inl rfl)) (.slice av nv cv)
 have hki := hkf.mono (S' := InGa w) (fun i hi hg => hg.elim (fun e => by rw [e]; exact hig) (hin i))
 have hbf := hb1.set_ 3 (.slice av nv cv)
 have hof : OwnP w0.heap.size (w1.setCell ⟨w0.heap.size, 3, none⟩ (.slice av nv cv)) 61 2 (.slice av nv cv) ((ks ++ ([⟨n, s⟩] : List PKey)).map PKey.cells) := OwnP.keep hown (Keep.setCell (S := fun g => g = w0.heap.size) (p := ⟨w0.heap.size, 3, none⟩) (Keep.refl _ w1) (.inl rfl) (.slice av nv cv)) (fun g hg hge => hown.ne_blk hb1 (by decide) hg hge)
 have hbl : Below w0.heap.size w0 (w1.setCell ⟨w0.heap.size, 3, none⟩ (.slice av nv cv)) := h4.trans (hkf.below hle (fun i hi hg => hg.elim (fun e => by omega) (fun e => by have := hge i e; omega)))
 have HF := Lib.hid (And.intro hki (And.intro hbf (And.intro hof hbl)))
 clear hown hkeep hkw hkf hki hbf hof hbl hin hig h4 g3 iG H6 H5 hne hge
 go_wp2_with fail
 exact bodyPost_end (v := .tuple #[]) (by simp [results, go_sem]) rfl ⟨rfl, ⟨h1, h2, h3, HF.out.2.2.2, _, HF.out.2.1, HF.out.2.2.1⟩, HF.out.1⟩
end
end Go.Proofs.YtmkapobnfigedaaGreatDoor
namespace Go.Proofs.YtmkapobnfigedaaGreatDoor
open Go.RowKit
section
variable {w0 w w' w1 w2 : World} {S S' : PSt} {c : PCall} {bs bh bc : Nat} {ks : List PKey}
theorem keepGa_trans (h : Keep (InGa w) w w1) (k : Keep (InGa w1) w1 w2) : Keep (InGa w) w w2 := h.trans k fun i hi hg => Classical.byContradiction fun hn => hn (by
 obtain ⟨c, t, hb, ht⟩ := hg
 have := h.block i hi hn
 exact ⟨c, t, by unfold Blk at hb ⊢; rw [← this]; exact hb, ht⟩)
theorem keepGa_below (hb : Below w.heap.size w w1) : Keep (InGa w) w w1 := Keep.of_below hb _
def Gathers (w0 w : World) (S S' : PSt) (c : PCall) (bs bh bc : Nat) (ks : List PKey) (e : Ending) (w' : World) : Prop := e = .returned (.tuple #[]) ∧ GAt w0 w' S S' c bs bh bc ks ∧ Keep (InGa w) w w'
set_option maxRecDepth 100000 in
set_option maxHeartbeats 4000000 in
theorem inode110 (h : GAt w0 w S S' c bs bh bc ks) (hl : ks.length ≤ 1000000) {b : Nat} {S1 : PSt} (hsp : SP w0 b S1) (hwf : S1.wf) (p : ByteArray) :
 Calls Tryz.prog 110 #[.pointer (some ⟨w0.heap.size, 0, none⟩), .pointer (some ⟨b, 0, none⟩), .string p] w (Gathers w0 w S S' c bs bh bc (ks ++ inodeK S1 p)) := by
 obtain ⟨hl0, iv, ov, mv, c0, c1, c2, hr⟩ := hsp.below h.below (Nat.le_refl _)
 have ib : BlockLt b w := ⟨hl0⟩
 have o1 := hr.1.one
 have o2 := hr.2.1.one
 have o3 : iv.oneCell' = true := by obtain ⟨_, _, _, h3, _⟩ := hr; exact h3.one
 have hf := find152 iv ov mv S1 p w hr hwf
 have hadd := fun (q : Behind) => add113 (h.later (bel w (w.junk q))) hl (findP S1 p).1 ⟨#[]⟩
 have HG := Lib.hid h
 unfold inodeK
 generalize findP S1 p = F at *
 obtain ⟨num, code⟩ := F
 clear h hr hsp
 go_enter Tryz.func110, Tryz.ntmps110
 go_wp2_with (first | (go_at_call 152; refine hf.mono ?_; rintro e w1 ⟨rfl, hb⟩; obtain ⟨q, rfl⟩ := hb.rest; clear hb) | (go_at_call 113; refine (hadd _).mono ?_; rintro e w2 ⟨rfl, hg, hk⟩))
 exact bodyPost_end (v := .tuple #[]) (by simp [results, go_sem]) rfl ⟨rfl, hg, keepGa_trans (keepGa_below (bel w _)) hk⟩
end
set_option maxRecDepth 100000 in
theorem index136d (zs : List PDesc) (v : Value) (l0 : Value) (p : PDesc → Bool) (w : World) (h : RowAt w 3 v (zs.map PDesc.cells)) (hlen : zs.length ≤ 1000000000)
 (hg : ∀ (z : PDesc) (ww : World), z ∈ zs → Below w.heap.size w ww → Calls Tryz.prog 155 #[.agg #[.int .i64 z.core, .int .i64 z.fd, .int .i64 z.num], l0] ww fun e w' => e = .returned (.bool (p z)) ∧ Below ww.heap.size ww w') :
 Calls Tryz.prog 136 #[v, .func (.func 155) #[] #[l0]] w fun e w' => e = .returned (.int .i64 (idxM p zs)) ∧ Below w.heap.size w w' := by
 obtain ⟨a, cap, rfl, hat⟩ := h.at_
 rw [List.length_map]
 have HA := Lib.hid hat
 clear hat h
 unfold idxM
 obtain ⟨R, hR⟩ : ∃ R, idxFrom p zs 0 = R := ⟨_, rfl⟩
 rw [hR]
 have HR := Lib.hid hR
 clear hR
 go_enter Tryz.func136, Tryz.ntmps136
 go_wp2_with fail
 go_loopw [8] (fun i wr => ∃ (q : Nat), i = .int .i64 q ∧ q ≤ zs.length ∧ idxFrom p (zs.drop q) q = R ∧ Below w.heap.size w wr) (fun i _ => (zs.length - intOf i).toNat)
 case atStart => exact ⟨0, rfl, by omega, HR.out, bel _ _⟩
 case round =>
  obtain ⟨q, rfl, hq, hre, hb⟩ := hrel; have iB : Bel w wr := ⟨hb⟩
  by_cases hlt : q < zs.length
  · obtain ⟨z, hz⟩ : ∃ z, zs[q]? = some z := ⟨_, List.getElem?_eq_getElem hlt⟩
    obtain ⟨b, off, rfl, iG0, iG, hc⟩ := HA.out wr hb q (PDesc.cells z) (by rw [List.getElem?_map, hz]; rfl); have c0 := hc 0 _ rfl; have c1 := hc 1 _ rfl; have c2 := hc 2 _ rfl; rw [idxFrom_drop p zs q z hz] at hre; have hcall : ∀ ww, Below w.heap.size w ww → Calls Tryz.prog 155 #[.agg #[.int .i64 z.core, .int .i64 z.fd, .int .i64 z.num], l0] ww fun e w' => e = .returned (.bool (p z)) ∧ Below ww.heap.size ww w' := fun ww hww => hg z ww (List.mem_of_getElem? hz) hww
    have HZ := Lib.hid (And.intro hz hre); clear hc hz hre hg; rw [Nat.add_zero] at c0; generalize hpz : p z = t at hcall HZ; rcases t with _ | _
    · go_wp2_with (go_at_call 155; refine (hcall _ (bel _ _)).mono ?_; rintro e w' ⟨rfl, hb⟩; obtain ⟨p, rfl⟩ := hb.rest; clear hb)
      go_roundw
      case rel => exact ⟨q + 1, by go_num, by omega, by have := HZ.out.2; simpa using this, bel _ _⟩
      case measure => simp [intOf]; omega
    · have hv : R = q := by have := HZ.out.2; simpa using this.symm
      subst hv; go_wp2_with (go_at_call 155; refine (hcall _ (bel _ _)).mono ?_; rintro e w' ⟨rfl, hb⟩; obtain ⟨p, rfl⟩ := hb.rest; clear hb)
      exact bodyPost_ret (v := .int .i64 q) (by simp [results, Tryz.results136, go_sem]) rfl ⟨rfl, bel _ _⟩
  · rw [idxFrom_end p zs q hlt] at hre; subst hre; clear hg; go_wp2_with fail; exact bodyPost_ret (v := .int .i64 (-1)) (by simp [results, Tryz.results136, go_sem]) rfl ⟨rfl, bel _ _⟩

set_option maxRecDepth 100000 in
theorem opened155 (g bc : Nat) (b1 b2 out : Value) (c : PCall) (x : PDesc) (bx : Nat) (w : World) (hg : Blk w g #[b1, b2, .pointer (some ⟨bc, 0, none⟩), out] 106) (hc : CP w bc c) (ib : BlockLt bx w) (hx : w.cell? ⟨bx, 0, none⟩ = some (.pointer (some ⟨g, 0, none⟩))) :
 Calls Tryz.prog 155 #[.agg #[.int .i64 x.core, .int .i64 x.fd, .int .i64 x.num], .pointer (some ⟨bx, 0, none⟩)] w fun e w' => e = .returned (.bool (isFd c x)) ∧ Below w.heap.size w w' := by
 have iG := hg.lt
 have g2 : w.cell? ⟨g, 2, none⟩ = some (.pointer (some ⟨bc, 0, none⟩)) := hg.cell 2
 have iC : BlockLt bc w := ⟨hc.1⟩
 have c1 := hc.2 1 _ rfl
 have c2 := hc.2 2 _ rfl
 unfold isFd
 clear hg hc
 rcases hb1 : (x.core == c.core) with _ | _
 · go_enter Tryz.func155, Tryz.ntmps155
   go_wp2_with fail; refine wp_region_quiet_rest (by kernel_rfl) (by kernel_rfl) ?_
   repeat
    first
     | go_big_quiet_skip
     | (go_big_quiet_want; go_big_quiet_op; first | go_big_quiet_on | (apply Exists.intro; refine ⟨fun _ => ?_, ?_⟩; (focus (fail)); go_big_quiet_on))
   refine wpQuiet_nil ?_; intro w1 hw1; obtain ⟨p, hw1⟩ := hw1; subst hw1; go_wp2_with fail; go_ret; exact ⟨rfl, bel _ _⟩
 · go_enter Tryz.func155, Tryz.ntmps155
   go_wp2_with fail; refine wp_region_quiet_rest (by kernel_rfl) (by kernel_rfl) ?_
   repeat
    first
     | go_big_quiet_skip
     | (go_big_quiet_want; go_big_quiet_op; first | go_big_quiet_on | (apply Exists.intro; refine ⟨fun _ => ?_, ?_⟩; (focus (fail)); go_big_quiet_on))
   refine wpQuiet_nil ?_; intro w1 hw1; obtain ⟨p, hw1⟩ := hw1; subst hw1; go_wp2_with fail; go_ret; exact ⟨by first | rfl | simp_all, bel _ _⟩
section
variable {w0 w w' w1 w2 : World} {S S' : PSt} {c : PCall} {bs bh bc : Nat} {ks : List PKey}
set_option maxRecDepth 100000 in
set_option maxHeartbeats 8000000 in
theorem opened112 (h : GAt w0 w S S' c bs bh bc ks) (hl : ks.length ≤ 1000000) (hwf : S.wf) (hfd : 0 ≤ idxM (isFd c) S.op) :
 Calls Tryz.prog 112 #[.pointer (some ⟨w0.heap.size, 0, none⟩)] w (Gathers w0 w S S' c bs bh bc (ks ++ openedK S c)) := by
 obtain ⟨hl0, iv, ov, mv, c0, c1, c2, hr⟩ := h.sp.below h.below (Nat.le_refl _)
 have ib : BlockLt bs w := ⟨hl0⟩
 obtain ⟨out, hgb, -⟩ := h.own
 have iG := hgb.lt
 have g0 : w.cell? ⟨w0.heap.size, 0, none⟩ = some (.pointer (some ⟨bs, 0, none⟩)) := hgb.cell 0
 have hcp : CP w bc c := ⟨Nat.lt_of_lt_of_le h.cp.1 h.below.size, fun t u hu => (h.below.cell (p := ⟨bc, t, none⟩) h.cp.1).trans (h.cp.2 t u hu)⟩
 have hib := idxM_bounds (isFd c) S.op
 obtain ⟨k, hk⟩ : ∃ k : Nat, idxM (isFd c) S.op = k := ⟨(idxM (isFd c) S.op).toNat, by omega⟩
 rw [hk] at hib
 obtain ⟨d, hd⟩ : ∃ d, S.op[k]? = some d := ⟨_, List.getElem?_eq_getElem (by omega)⟩
 have hkey : openedK S c = [⟨d.num, ⟨#[]⟩⟩] := by
  unfold openedK; rw [hk, Int.toNat_natCast, hd]
 rw [hkey]
 have hrow : ∀ ww, Below w.heap.size w ww → RowAt ww 3 ov (S.op.map PDesc.cells) := fun ww hb => hr.1.below hb (Nat.le_refl _)
 have hidx : ∀ ww bx, Below w.heap.size w ww → BlockLt bx ww → ww.cell? ⟨bx, 0, none⟩ = some (.pointer (some ⟨w0.heap.size, 0, none⟩)) → Calls Tryz.prog 136 #[ov, .func (.func 155) #[] #[.pointer (some ⟨bx, 0, none⟩)]] ww fun e w' => e = .returned (.int .i64 k) ∧ Below ww.heap.size ww w' := fun ww bx hb i hx => by
  have := index136d S.op ov (.pointer (some ⟨bx, 0, none⟩)) (isFd c) ww (hrow ww hb) hwf.2.1 (fun z w3 _ hb3 => opened155 w0.heap.size bc _ _ out c z bx w3 (hgb.below (hb.trans (hb3.mono hb.size)) iG.lt) ⟨by have := hcp.1; have := hb.size; have := hb3.size; omega, fun t u hu => ((hb.trans (hb3.mono hb.size)).cell (p := ⟨bc, t, none⟩) hcp.1).trans (hcp.2 t u hu)⟩ ⟨by have := i.lt; have := hb3.size; omega⟩ ((hb3.cell (p := ⟨bx, 0, none⟩) i.lt).trans hx)); rw [hk] at this; exact this
 have hadd := fun (ww : World) (hb : Below w.heap.size w ww) => add113 (h.later hb) hl d.num ⟨#[]⟩
 obtain ⟨ao, co, rfl, hato⟩ := hr.1.at_
 rw [List.length_map] at c1 hidx
 obtain ⟨bo, offo, rfl, iO0, iO, hco⟩ := hato w (bel _ _) k d.cells (by rw [List.getElem?_map, hd]; rfl)
 have o2 : w.cell? ⟨bo, offo + k * 3 + 2, none⟩ = some (.int .i64 d.num) := hco 2 _ rfl
 have hkI : (k : Int) < S.op.length := by omega
 clear hr hrow hato hco hgb hcp hk hkey hd hib h c0 c2 hfd
 go_enter Tryz.func112, Tryz.ntmps112
 go_upto_region 2 with (go_at_call 136; refine (hidx _ _ (bel _ _) inferInstance (by go_simp)).mono ?_; rintro e w' ⟨rfl, hb⟩; obtain ⟨p, rfl⟩ := hb.rest; clear hb)
 refine wp_region_eff [12] true (fun w' => w'.cell? ⟨w.heap.size, 0, none⟩ = some (.pointer (some ⟨w0.heap.size, 0, none⟩)) ∧ w'.cell? ⟨w0.heap.size, 0, none⟩ = some (.pointer (some ⟨bs, 0, none⟩)) ∧ w'.cell? ⟨bs, 1, none⟩ = some (.slice (some ⟨bo, offo, none⟩) S.op.length co) ∧ w'.cell? ⟨bo, offo + k * 3 + 2, none⟩ = some (.int .i64 d.num)) (by kernel_rfl) (by kernel_rfl) ?_ ?_
 · (try dsimp only); (repeat' apply And.intro) <;> go_simp
 repeat
  refine wpL_look rfl rfl ?_; apply Exists.intro; refine ⟨?_, ?_⟩
  focus
   rintro w' ⟨s0, s1, s2, s3⟩; go_simp
   first | done | rfl
  simp only [Act.put, List.setIfInBounds_toArray, List.set_cons_zero, List.set_cons_succ]
 refine wpL_act rfl rfl ?_
 refine eff_call 113 #[.pointer (some ⟨w0.heap.size, 0, none⟩), .int .i64 d.num, .string ⟨#[]⟩] ?_ ((hadd ((w.alloc (.cells #[.pointer (some ⟨w0.heap.size, 0, none⟩)] 103)).junk p).drew (bel w _)).mono ?_)
 · go_simp
   first | done | rfl
 rintro e w2 ⟨rfl, hg, hk⟩
 refine ⟨_, rfl, .inr ⟨rfl, rfl⟩, ?_⟩
 refine wpL_end ?_
 exact bodyPost_end (v := .tuple #[]) (by simp [results, go_sem]) rfl ⟨rfl, hg, keepGa_trans (keepGa_below (bel w _)) hk⟩
end
end Go.Proofs.YtmkapobnfigedaaGreatDoor
namespace Go.Proofs.YtmkapobnfigedaaGreatDoor
open Go.RowKit
def thruU (S : PSt) (ns : List ByteArray) (q : Nat) : List PKey := (List.range q).map fun k => ⟨(findP S (printM (ns.take k)).1).1, ⟨#[46]⟩⟩
theorem thruU_succ (S : PSt) (ns : List ByteArray) (q : Nat) : thruU S ns (q + 1) = thruU S ns q ++ [⟨(findP S (printM (ns.take q)).1).1, ⟨#[46]⟩⟩] := by
 unfold thruU
 rw [List.range_succ, List.map_append]
 rfl
theorem thruU_len (S : PSt) (ns : List ByteArray) (q : Nat) : (thruU S ns q).length = q := by unfold thruU; simp
def numU (S : PSt) (ns : List ByteArray) (q : Nat) : Int := if q = 0 then 0 else (findP S (printM (ns.take (q - 1))).1).1
section
variable {w0 w w' w1 w2 : World} {S S' : PSt} {c : PCall} {bs bh bc : Nat} {ks : List PKey}
set_option maxRecDepth 100000 in
set_option maxHeartbeats 8000000 in
theorem walk111 (h : GAt w0 w S S' c bs bh bc ks) (hl : ks.length ≤ 100000) (hwf : S.wf) {p : ByteArray} (hpo : PathOk p) :
 Calls Tryz.prog 111 #[.pointer (some ⟨w0.heap.size, 0, none⟩), .string p] w fun e w' => e = .returned (.tuple #[.int .i64 (lastNum S (parseM p).2), .string ((parseM p).2.getLastD ⟨#[]⟩)]) ∧ GAt w0 w' S S' c bs bh bc (ks ++ walkK S p) ∧ Keep (InGa w) w w' := by
 obtain ⟨hp, hne⟩ := hpo
 have hpl := parse_len hp
 have hpar := fun ww => parse_own p ww
 rw [hp] at hpar
 unfold walkK thruK
 rw [show ((List.range (parseM p).2.length).map fun k => (⟨(findP S (printM ((parseM p).2.take k)).1).1, ⟨#[46]⟩⟩ : PKey)) = thruU S (parseM p).2 (parseM p).2.length from rfl]
 have hlast : lastNum S (parseM p).2 = numU S (parseM p).2 (parseM p).2.length := by
  unfold lastNum numU; rw [if_neg (by intro e; exact hne (List.eq_nil_of_length_eq_zero e))]
 rw [hlast]
 generalize (parseM p).2 = ns at *
 have hpos : 0 < ns.length := by
  rcases ns with _ | ⟨a, r⟩
  · exact absurd rfl hne
  · simp
 have hgd : ns[ns.length - 1]? = some (ns.getLastD ⟨#[]⟩) := by
  rw [List.getLastD_eq_getLast?, List.getLast?_eq_getElem?, List.getElem?_eq_getElem (by omega)]; rfl
 have HG := Lib.hid h
 clear h hlast hp
 go_enter Tryz.func111, Tryz.ntmps111
 go_upto_region 2 with (go_at_call 153; refine (hpar _).mono ?_; rintro e w1 ⟨nv, rfl, hb1, hnm, hng⟩; obtain ⟨p1, rfl⟩ := hb1.rest; clear hb1)
 have HNM := Lib.hid hnm
 clear hnm hng hpar
 have hnm := HNM.out
 rcases hnm with ⟨rfl, h2⟩ | ⟨nb, cap, arr, he, -, hbk, hn, hcm, hsz, hrows⟩
 · exfalso; have := congrArg List.length h2; rw [List.length_map, List.length_nil] at this; omega
 rw [List.length_map] at he hn
 subst he
 refine abs_world (F := fun wA => GAt w0 wA S S' c bs bh bc ks ∧ Keep (InGa w) w wA ∧ Blk wA nb arr 9) ⟨HG.out.later (bel w _), keepGa_below (bel w _), hbk⟩ ?_
 clear hbk HNM
 rintro wA ⟨hGA, hkA, hbA⟩
 have HA := Lib.hid (And.intro hGA (And.intro hkA hbA))
 have HR := Lib.hid hrows
 clear hGA hkA hbA hrows
 go_wp2_with fail
 go_loopw [8, 19] (fun vn vi wr => ∃ q : Nat, vi = .int .i64 q ∧ vn = .int .i64 (numU S ns q) ∧ q ≤ ns.length ∧ GAt w0 wr S S' c bs bh bc (ks ++ thruU S ns q) ∧ Keep (InGa w) w wr ∧ Blk wr nb arr 9) (fun _ vi _ => (ns.length - intOf vi).toNat)
 case atStart => exact ⟨0, rfl, rfl, by omega, by simpa [thruU] using HA.out.1, HA.out.2.1, HA.out.2.2⟩
 case round =>
  obtain ⟨q, rfl, rfl, hq, hG, hk, hb⟩ := hrel; obtain ⟨hl0, iv, ov, mv, c0, c1, c2, hr⟩ := hG.sp.below hG.below (Nat.le_refl _); have ib : BlockLt bs wr := ⟨hl0⟩
  have o1 := hr.1.one; have o2 := hr.2.1.one; have o3 : iv.oneCell' = true := by obtain ⟨_, _, _, h3, _⟩ := hr; exact h3.one
  obtain ⟨out, hgb, -⟩ := hG.own; have iG := hgb.lt; have g0 : wr.cell? ⟨w0.heap.size, 0, none⟩ = some (.pointer (some ⟨bs, 0, none⟩)) := hgb.cell 0; have iN := hb.lt; by_cases hlt : q < ns.length
  · have hrow : RowAt wr 1 (.slice (some ⟨nb, 0, none⟩) q cap) ((ns.take q).map fun n => [.string n]) := by
     have hlq : (ns.take q).length = q := by rw [List.length_take]; omega
     refine OwnP.row (B := 0) (e := 9) (.inr ⟨nb, cap, arr, by rw [List.length_map, hlq], Nat.zero_le _, hb, by rw [List.length_map, hlq]; omega, hcm, hsz, fun q' cs hq' t u hu => ?_⟩); rw [List.getElem?_map, List.getElem?_take] at hq'
     split at hq'
     · exact HR.out q' cs (by rw [List.getElem?_map]; exact hq') t u hu
     · cases hq'
    have hpr := print154 (ns.take q) _ wr hrow (by rw [List.length_take]; omega); have hfi := fun (ww : World) (hb : Below wr.heap.size wr ww) => find152 iv ov mv S (printM (ns.take q)).1 ww (hr.below hb (Nat.le_refl _)) hwf
    have hadd := fun (ww : World) (hb : Below wr.heap.size wr ww) => add113 (hG.later hb) (by rw [List.length_append, thruU_len]; omega) (findP S (printM (ns.take q)).1).1 ⟨#[46]⟩
    have hnx : numU S ns (q + 1) = (findP S (printM (ns.take q)).1).1 := by unfold numU; rw [if_neg (by omega)]; rfl
    have htx : ks ++ thruU S ns (q + 1) = ks ++ thruU S ns q ++ [⟨(findP S (printM (ns.take q)).1).1, ⟨#[46]⟩⟩] := by rw [thruU_succ, List.append_assoc]
    generalize printM (ns.take q) = PR at *; obtain ⟨ps, pe⟩ := PR; simp only at hpr hfi hadd hnx htx; generalize findP S ps = FR at *; obtain ⟨fn, fe⟩ := FR; simp only at hfi hadd hnx htx; have b1 : (q : Int) ≤ ns.length := by omega
    have b2 : (q : Int) ≤ cap := by omega
    have b3 : q ≤ cap := by omega
    have HK := Lib.hid (And.intro hk (And.intro hb (And.intro hnx htx))); clear hr hG hgb hk hb hrow hnx htx; go_wp2_with (first | (go_at_call 154; refine hpr.mono ?_; rintro e w1 ⟨rfl, hb⟩; obtain ⟨q1, rfl⟩ := hb.rest; clear hb) | (go_at_call 152; refine (hfi _ (bel _ _)).mono ?_; rintro e w1 ⟨rfl, hb⟩; obtain ⟨q2, rfl⟩ := hb.rest; clear hb) | (go_at_call 113; refine (hadd _ (bel _ _)).mono ?_; rintro e w2 ⟨rfl, hg, hk2⟩))
    go_roundw
    case rel => exact ⟨q + 1, by go_num, by rw [HK.out.2.2.1], by omega, by rw [HK.out.2.2.2]; exact hg, keepGa_trans (keepGa_trans HK.out.1 (keepGa_below (bel wr _))) hk2, hk2.blk (HK.out.2.1.below (bel wr _) iN.lt) (notInGa (HK.out.2.1.below (bel wr _) iN.lt) (by decide) (by decide))⟩
    case measure => simp [intOf]; omega
  · have hqe : q = ns.length := by omega
    subst hqe; have hcl : wr.cell? ⟨nb, ns.length - 1, none⟩ = some (.string (ns.getLastD ⟨#[]⟩)) := by
     rw [hb.cell]; have := HR.out (ns.length - 1) [.string (ns.getLastD ⟨#[]⟩)] (by rw [List.getElem?_map, hgd]; rfl) 0 _ rfl; rw [Nat.mul_one, Nat.add_zero] at this; exact this
    obtain ⟨m, hm⟩ : ∃ m, ns.length = m + 1 := ⟨ns.length - 1, by omega⟩
    have HF := Lib.hid (And.intro hG hk); generalize hNU : numU S ns ns.length = NU at *; generalize hLS : ns.getLastD ⟨#[]⟩ = lst at *; have HNU := Lib.hid (And.intro hNU hLS); clear hNU hLS; rw [hm, Nat.add_sub_cancel] at hcl; clear hr hG hgb hk hb c0 c1 c2; have ew : IntKind.i64.wrap ((ns.length : Int) - 1) = m := by rw [show (ns.length : Int) - 1 = m by omega]; exact I64.wrap (by unfold I64; omega)
    have b1 : (m : Int) < ns.length := by omega
    have HM := Lib.hid hm; clear hm hq hlt hgd; go_wp2_with fail; refine wp_region_quiet_rest (by kernel_rfl) (by kernel_rfl) ?_
    repeat
     first
      | go_big_quiet_skip
      | (go_big_quiet_want; go_big_quiet_op; first | go_big_quiet_on | (apply Exists.intro; refine ⟨fun _ => ?_, ?_⟩; (focus (fail)); go_big_quiet_on))
    refine wpQuiet_nil ?_; intro w1 hw1; obtain ⟨p, hw1⟩ := hw1; subst hw1; go_wp2_with fail; exact bodyPost_ret (v := .tuple #[.int .i64 NU, .string lst]) (by simp [results, Tryz.results111, go_sem]) rfl ⟨by rw [HNU.out.1, HNU.out.2], HF.out.1.later (bel wr _), keepGa_trans HF.out.2 (keepGa_below (bel wr _))⟩
theorem bkt_itoa (n : ByteArray) : ∃ i : Nat, bucketM n = i ∧ i < 8 ∧ ((⟨#[47]⟩ : ByteArray) ++ ⟨(Lib.decDigits i).toArray⟩) = bktName n := by
 have h0 : 0 ≤ bucketM n ∧ bucketM n < 8 := by
  have hb : 0 ≤ hashM n ∧ hashM n < 4294967296 := hashFrom_lt n n.size 0 7 (by omega); unfold bucketM; omega
 obtain ⟨i, hi⟩ : ∃ i : Nat, bucketM n = i := ⟨(bucketM n).toNat, by omega⟩
 have hi8 : i < 8 := by omega
 refine ⟨i, hi, hi8, ?_⟩
 unfold bktName
 rw [hi, Int.toNat_natCast]
 have key : ∀ j : Nat, j < 8 → ((⟨#[47]⟩ : ByteArray) ++ ⟨(Lib.decDigits j).toArray⟩) = ⟨#[47, UInt8.ofNat (48 + j)]⟩ := by decide +kernel
 exact key i hi8
set_option maxRecDepth 100000 in
set_option maxHeartbeats 4000000 in
theorem entry109 (h : GAt w0 w S S' c bs bh bc ks) (hl : ks.length ≤ 100000) (hwf : S.wf) {p : ByteArray} (hpo : PathOk p) :
 Calls Tryz.prog 109 #[.pointer (some ⟨w0.heap.size, 0, none⟩), .string p] w (Gathers w0 w S S' c bs bh bc (ks ++ entryK S p)) := by
 have hwk := walk111 h hl hwf hpo
 have hwl : (walkK S p).length ≤ 1000 := by
  have := parse_len hpo.1; unfold walkK thruK; rw [List.length_map, List.length_range]; omega
 have hent : ks ++ entryK S p = ks ++ walkK S p ++ [⟨lastNum S (parseM p).2, bktName ((parseM p).2.getLastD ⟨#[]⟩)⟩] := by unfold entryK; rw [List.append_assoc]
 rw [hent]
 generalize lastNum S (parseM p).2 = NU at *
 generalize (parseM p).2.getLastD ⟨#[]⟩ = lst at *
 generalize walkK S p = WK at *
 obtain ⟨i, hbi, hi8, hbn⟩ := bkt_itoa lst
 have hbk := fun ww => bucket137 lst ww
 rw [hbi] at hbk
 have hit := fun ww => Tryz.strconv_Itoa_small i (by omega) ww
 rw [← hbn]
 have hsz : ((⟨(Lib.decDigits i).toArray⟩ : ByteArray)).size ≤ 10 := by
  have key : ∀ j : Nat, j < 8 → ((⟨(Lib.decDigits j).toArray⟩ : ByteArray)).size ≤ 10 := by decide +kernel
  exact key i hi8
 generalize (⟨(Lib.decDigits i).toArray⟩ : ByteArray) = dig at *
 have n1 : ¬ 9223372036854775807 < 1 + dig.size := by omega
 clear hbn hbi hent h
 go_enter Tryz.func109, Tryz.ntmps109
 go_upto_region 1 with (go_at_call 111; refine hwk.mono ?_; rintro e w1 ⟨rfl, hg1, hk1⟩)
 have hadd := fun (ww : World) (hb : Below w1.heap.size w1 ww) => add113 (hg1.later hb) (by rw [List.length_append]; omega) NU ((⟨#[47]⟩ : ByteArray) ++ dig)
 go_wp2_with (first | (go_at_call 133; refine (hbk _).mono ?_; rintro e w2 ⟨rfl, hb⟩; obtain ⟨q2, rfl⟩ := hb.rest; clear hb) | (go_at_call 151; refine (hit _).mono ?_; rintro e w2 ⟨rfl, rfl⟩) | (go_at_call 113; refine (hadd _ (bel _ _)).mono ?_; rintro e w3 ⟨rfl, hg, hk2⟩))
 exact bodyPost_end (v := .tuple #[]) (by simp [results, go_sem]) rfl ⟨rfl, hg, keepGa_trans (keepGa_trans hk1 (keepGa_below (bel w1 _))) hk2⟩
end
end Go.Proofs.YtmkapobnfigedaaGreatDoor
namespace Go.Proofs.YtmkapobnfigedaaGreatDoor
open Go.RowKit
def PSt.wfn (n : Nat) (S : PSt) : Prop :=
 S.ins.length ≤ n ∧ S.op.length ≤ n ∧ S.made.length ≤ n ∧ (∀ x ∈ S.ins, I64 x.num ∧ x.ents.length ≤ n ∧ ∀ e ∈ x.ents, I64 e.num) ∧ (∀ d ∈ S.op, I64 d.core ∧ I64 d.fd ∧ I64 d.num) ∧ ∀ m ∈ S.made, I64 m
theorem PSt.wfn.wf {n : Nat} {S : PSt} (h : S.wfn n) (hn : n ≤ 1000000000) : S.wf := by
 obtain ⟨h1, h2, h3, h4, h5, h6⟩ := h
 exact ⟨by omega, by omega, by omega, fun x hx => ⟨(h4 x hx).1, by have := (h4 x hx).2.1; omega, (h4 x hx).2.2⟩, h5, h6⟩
theorem PSt.wfn.mono {n m : Nat} {S : PSt} (h : S.wfn n) (hn : n ≤ m) : S.wfn m := by
 obtain ⟨h1, h2, h3, h4, h5, h6⟩ := h
 exact ⟨by omega, by omega, by omega, fun x hx => ⟨(h4 x hx).1, by have := (h4 x hx).2.1; omega, (h4 x hx).2.2⟩, h5, h6⟩
theorem insAt_mem {α : Type} {l : List α} {i : Nat} {x y : α} (h : y ∈ insAt l i x) : y = x ∨ y ∈ l := by
 unfold insAt at h
 rcases List.mem_append.1 h with h | h
 · exact .inr (List.mem_of_mem_take h)
 · rcases List.mem_cons.1 h with h | h
   · exact .inl h
   · exact .inr (List.mem_of_mem_drop h)
theorem delAt_mem {α : Type} {l : List α} {i : Nat} {y : α} (h : y ∈ delAt l i) : y ∈ l := by
 unfold delAt at h
 rcases List.mem_append.1 h with h | h
 · exact List.mem_of_mem_take h
 · exact List.mem_of_mem_drop h
theorem insAt_len2 {α : Type} (l : List α) (i : Nat) (x : α) : (insAt l i x).length = l.length + 1 := by
 unfold insAt
 rw [List.length_append, List.length_cons, List.length_take, List.length_drop]
 omega
theorem delAt_le {α : Type} (l : List α) (i : Nat) : (delAt l i).length ≤ l.length := by
 unfold delAt
 rw [List.length_append, List.length_take, List.length_drop]
 omega
theorem wfn_ents {n : Nat} {S : PSt} (h : S.wfn n) {K : Nat} {x : PIn} (hx : S.ins[K]? = some x) {es : List PEnt} (hl : es.length ≤ n) (he : ∀ e ∈ es, I64 e.num) : (S.ents K x es).wfn n := by
 obtain ⟨h1, h2, h3, h4, h5, h6⟩ := h
 refine ⟨by unfold PSt.ents; rw [List.length_set]; exact h1, h2, h3, fun y hy => ?_, h5, h6⟩
 unfold PSt.ents at hy
 rcases List.mem_or_eq_of_mem_set hy with hy | rfl
 · exact h4 y hy
 · exact ⟨(h4 x (List.mem_of_getElem? hx)).1, hl, he⟩
theorem wfn_ins {n : Nat} {S : PSt} (h : S.wfn n) {es : List PIn} (hl : es.length ≤ n) (he : ∀ x ∈ es, x ∈ S.ins) : ({ S with ins := es } : PSt).wfn n := by
 obtain ⟨h1, h2, h3, h4, h5, h6⟩ := h
 exact ⟨hl, h2, h3, fun y hy => h4 y (he y hy), h5, h6⟩
theorem wfn_op {n : Nat} {S : PSt} (h : S.wfn n) {es : List PDesc} (hl : es.length ≤ n) (he : ∀ d ∈ es, I64 d.core ∧ I64 d.fd ∧ I64 d.num) : ({ S with op := es } : PSt).wfn n := by
 obtain ⟨h1, h2, h3, h4, h5, h6⟩ := h
 exact ⟨h1, hl, h3, h4, he, h6⟩
theorem wfn_tidy {n : Nat} {S : PSt} (h : S.wfn n) (num : Int) : (tidyM S num).wfn n := by
 unfold tidyM
 split
 · exact h
 split
 · exact wfn_ins h (Nat.le_trans (delAt_le _ _) h.1) (fun x hx => delAt_mem hx)
 · exact h
theorem wfn_data {n : Nat} {S : PSt} (h : S.wfn n) {K : Nat} {x : PIn} (hx : x ∈ S.ins) (d : ByteArray) : ({ S with ins := S.ins.set K { x with data := d } } : PSt).wfn n := by
 obtain ⟨h1, h2, h3, h4, h5, h6⟩ := h
 refine ⟨by rw [List.length_set]; exact h1, h2, h3, fun y hy => ?_, h5, h6⟩
 rcases List.mem_or_eq_of_mem_set hy with hy | rfl
 · exact h4 y hy
 · exact h4 x hx
theorem look_same {S S' : PSt} {c : PCall} {r : PRes} (h : lookM S c = .ok (S', r)) : S' = S := by
 unfold lookM readM sizeM listM statM countM at h
 repeat' (split at h)
 all_goals first | (cases h; rfl) | cases h | skip
theorem fsync_same {S S' : PSt} {c : PCall} {r r' : PRes} (h : fsyncM S c r = .ok (S', r')) : S' = S := by
 unfold fsyncM at h
 split at h
 · cases h
 · cases h; rfl
theorem may_wfn {S : PSt} (hwf : S.wf) (hm : mayM S = true) : S.wfn 300 ∧ S.made.length ≤ 8 ∧ (∀ m ∈ S.made, 0 ≤ m ∧ m ≤ 32) := by
 have T := tree_of_may hwf hm
 have B := may_bounds hwf hm
 have hm' := hm
 unfold mayM at hm'
 split at hm'
 · rename_i h1
   simp only [Bool.and_eq_true] at h1; obtain ⟨⟨hmd, _⟩, hop⟩ := h1; unfold mayMadeM at hmd; simp only [Bool.and_eq_true, Bool.not_eq_true', Bool.or_eq_false_iff, decide_eq_false_iff_not] at hmd; obtain ⟨⟨m1, m8⟩, hall⟩ := hmd; have hmm : ∀ m ∈ S.made, 0 ≤ m ∧ m ≤ 32 := fun m hm => by
    have := List.any_eq_false.1 hall m hm; unfold badMade at this; simp at this; omega
   have hop := B.op; have hsm := T.small; refine ⟨⟨by omega, by omega, by omega, fun x hx => ⟨(hwf.2.2.2.1 x hx).1, by have := T.many x hx; omega, (hwf.2.2.2.1 x hx).2.2⟩, hwf.2.2.2.2.1, hwf.2.2.2.2.2⟩, by omega, hmm⟩
 · cases hm'
set_option maxHeartbeats 2000000 in
theorem run_wfn {S S' : PSt} {c : PCall} {r : PRes} (hwf : S.wf) (hm : maycM S c = true) (h : runX S c = .ok (S', r)) : S'.wfn 303 := by
 obtain ⟨hmay, hc0, hc1⟩ := mayc_may hm
 obtain ⟨hw, hm8, hmm⟩ := may_wfn hwf hmay
 have hwk := hw.mono (show 300 ≤ 303 by omega)
 have hent := hw.2.2.2.1
 unfold runX at h
 by_cases k1 : c.kind = 0 ∨ c.kind = 1
 · rw [if_pos k1] at h; unfold createX at h
   split at h
   · cases h
   unfold createM at h; rcases hp : parentM S (parseM c.path).2 with k | ⟨K, l⟩
   · rw [hp] at h; cases h
   rw [hp] at h; simp only at h; rcases hx : S.ins[K]? with _ | x
   · rw [hx] at h; cases h
   rw [hx] at h; simp only at h
   split at h
   · cases h
   rcases hmd : S.made[c.core.toNat]? with _ | m
   · rw [hmd] at h; cases h
   rw [hmd] at h; simp only at h
   split at h
   · cases h
   cases h; have hmr := hmm m (List.mem_of_getElem? hmd); have hxl := hent x (List.mem_of_getElem? hx); have hnum : I64 (2 + c.core + 8 * m) := by unfold I64; omega
   have h1 : (S.ents K x (insAt x.ents (bsE x.ents l) ⟨l, 2 + c.core + 8 * m⟩)).wfn 303 := wfn_ents hwk hx (Nat.le_trans (Nat.le_of_eq (insAt_len2 _ _ _)) (by have := hxl.2.1; omega)) (fun e he => by
    rcases insAt_mem he with rfl | he
    · exact hnum
    · exact hxl.2.2 e he)
   obtain ⟨a1, a2, a3, a4, a5, a6⟩ := h1; refine ⟨?_, a2, ?_, ?_, a5, ?_⟩
   · show (insAt _ _ _).length ≤ 303; rw [insAt_len2]; show (S.ins.set _ _).length + 1 ≤ 303; rw [List.length_set]; have := hw.1; omega
   · show (S.made.set _ _).length ≤ 303; rw [List.length_set]; omega
   · intro y hy; rcases insAt_mem hy with rfl | hy
     · exact ⟨hnum, by simp, by simp⟩
     · exact a4 y hy
   · intro y hy; rcases List.mem_or_eq_of_mem_set hy with hy | rfl
     · exact a6 y hy
     · unfold I64; omega
 rw [if_neg k1] at h
 by_cases k2 : c.kind = 2
 · rw [if_pos k2] at h; unfold openX openDo at h
   repeat' (split at h)
   all_goals first | (cases h; done) | skip
   · cases h; exact hwk
   · rename_i x hx _ hfd
     cases h; have hxl := hent x (List.mem_of_getElem? hx); refine wfn_op hwk ?_ fun d hd => ?_
     · show (insD S.op _ _).length ≤ 303; unfold insD; rw [List.length_append, List.length_cons, List.length_take, List.length_drop]; have := (may_bounds hwf hmay).op; omega
     · have hd' : d ∈ insAt S.op (openF c.core S.op 0 0 0).2 ⟨c.core, (openF c.core S.op 0 0 0).1, x.num⟩ := hd; rcases insAt_mem hd' with rfl | hd
       · exact ⟨by show I64 c.core; unfold I64; omega, by show I64 ((openF c.core S.op 0 0 0).1 : Int); unfold I64; omega, hxl.1⟩
       · exact hwk.2.2.2.2.1 d hd
 rw [if_neg k2] at h
 by_cases k3 : c.kind = 3
 · rw [if_pos k3] at h; unfold closeA at h
   split at h
   · cases h
   · cases h; exact wfn_tidy (wfn_op hwk (Nat.le_trans (delAt_le _ _) hwk.2.1) fun d hd => hwk.2.2.2.2.1 d (delAt_mem hd)) _
 rw [if_neg k3] at h
 by_cases k5 : c.kind = 5
 · rw [if_pos k5] at h; unfold writeX at h
   repeat' (split at h)
   all_goals first | (cases h; done) | skip
   rename_i y hy _ _
   cases h; exact wfn_data hwk (List.mem_of_getElem? (fileX_at (K := y.1) (x := y.2) hy).1) _
 rw [if_neg k5] at h
 by_cases k6 : c.kind = 6
 · rw [if_pos k6] at h; unfold truncM at h
   repeat' (split at h)
   all_goals first | (cases h; done) | skip
   rename_i y hy _
   cases h; exact wfn_data hwk (List.mem_of_getElem? (fileX_at (K := y.1) (x := y.2) hy).1) _
 rw [if_neg k6] at h
 by_cases k8 : c.kind = 8
 · rw [if_pos k8] at h; unfold linkX at h; rcases hp : atX S c.path with k | K
   · rw [hp] at h; cases h
   rw [hp] at h; simp only at h; rcases hx : S.ins[K]? with _ | x
   · rw [hx] at h; cases h
   rw [hx] at h; simp only at h
   split at h
   · cases h
   rcases hp2 : parX S c.path2 with k | ⟨K2, l⟩
   · rw [hp2] at h; cases h
   rw [hp2] at h; simp only at h; unfold linkM2 at h; rcases hy : S.ins[K2]? with _ | y
   · rw [hy] at h; cases h
   rw [hy] at h; simp only at h
   split at h
   · cases h
   split at h
   · cases h
   cases h; have hxl := hent x (List.mem_of_getElem? hx); have hyl := hent y (List.mem_of_getElem? hy); exact wfn_ents hwk hy (Nat.le_trans (Nat.le_of_eq (insAt_len2 _ _ _)) (by have := hyl.2.1; omega)) (fun e he => by
    rcases insAt_mem he with rfl | he
    · exact hxl.1
    · exact hyl.2.2 e he)
 rw [if_neg k8] at h
 by_cases k9 : c.kind = 9 ∨ c.kind = 10
 · rw [if_pos k9] at h; unfold removeM at h; rcases hp : parX S c.path with k | ⟨K, l⟩
   · rw [hp] at h; cases h
   rw [hp] at h; simp only at h; rcases hx : S.ins[K]? with _ | x
   · rw [hx] at h; cases h
   rw [hx] at h; simp only at h
   split at h
   · cases h
   rcases he : x.ents[bsE x.ents l]? with _ | e
   · rw [he] at h; cases h
   rw [he] at h; simp only at h; have hxl := hent x (List.mem_of_getElem? hx); have h1 : (S.ents K x (delAt x.ents (bsE x.ents l))).wfn 303 := wfn_ents hwk hx (Nat.le_trans (delAt_le _ _) (by have := hxl.2.1; omega)) fun e he => hxl.2.2 e (delAt_mem he)
   unfold rem1 at h
   repeat' (split at h)
   all_goals first | (cases h; done) | skip
   · cases h; exact wfn_tidy h1 _
   · cases h; exact wfn_ins h1 (Nat.le_trans (delAt_le _ _) h1.1) (fun x hx => delAt_mem hx)
 rw [if_neg k9] at h
 by_cases k11 : c.kind = 11
 · rw [if_pos k11] at h; unfold renameX at h
   split at h
   · cases h
   split at h
   rotate_left
   · cases h
   unfold renameM at h; rcases hp : parentM S (parseM c.path).2 with k | ⟨K1, l⟩
   · rw [hp] at h; cases h
   rw [hp] at h; simp only at h; rcases hx : S.ins[K1]? with _ | x
   · rw [hx] at h; cases h
   rw [hx] at h; simp only at h; unfold renFrom at h
   split at h
   · cases h
   rcases he : x.ents[bsE x.ents l]? with _ | e
   · rw [he] at h; cases h
   rw [he] at h; simp only at h; rcases hp2 : parentM S (parseM c.path2).2 with k | ⟨K2, t⟩
   · rw [hp2] at h; cases h
   rw [hp2] at h; simp only at h
   split at h
   · cases h
   unfold renTo at h; rcases hx2 : S.ins[K2]? with _ | x2
   · rw [hx2] at h; cases h
   rw [hx2] at h; simp only at h
   split at h
   · cases h
   generalize fullM x2.ents t (if x.num = x2.num then l else { data := #[] }) = fb at h; rcases fb with _ | _
   rotate_left
   · cases h
   simp only [Bool.false_eq_true, if_false] at h; unfold renEnd at h; have hxl := hent x (List.mem_of_getElem? hx); have hw1 : (S.ents K1 x (delAt x.ents (bsE x.ents l))).wfn 300 := wfn_ents hw hx (Nat.le_trans (delAt_le _ _) hxl.2.1) fun e he => hxl.2.2 e (delAt_mem he)
   rcases hy : (S.ents K1 x (delAt x.ents (bsE x.ents l))).ins[K2]? with _ | y
   · rw [hy] at h; cases h
   rw [hy] at h; cases h; have hyl := hw1.2.2.2.1 y (List.mem_of_getElem? hy); have hel := hxl.2.2 e (List.mem_of_getElem? he); exact wfn_ents (hw1.mono (by omega)) hy (by rw [insAt_len2]; have := hyl.2.1; omega) (fun e' he' => by
    rcases insAt_mem he' with rfl | he'
    · exact hel
    · exact hyl.2.2 e' he')
 rw [if_neg k11] at h
 by_cases k15 : c.kind = 15
 · rw [if_pos k15] at h; rw [fsync_same h]; exact hwk
 rw [if_neg k15] at h
 by_cases k16 : c.kind = 16
 · rw [if_pos k16] at h; cases h; exact hwk
 rw [if_neg k16] at h
 rw [look_same h]
 exact hwk
theorem doX_wf {S : PSt} {c : PCall} (hwf : S.wf) : (doX S c).1.wf := by
 unfold doX doM
 split
 · rename_i hm
   split
   · rename_i y e
     exact (run_wfn (S' := y.1) (r := y.2) hwf hm e).wf (by omega)
   · exact hwf
 · exact hwf
end Go.Proofs.YtmkapobnfigedaaGreatDoor
