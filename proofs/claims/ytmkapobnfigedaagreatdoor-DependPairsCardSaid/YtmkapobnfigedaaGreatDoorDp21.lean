/- Part of the proof of a law of chapter 15. Conditions: none. -/
import Derived.Test.YtmkapobnfigedaaGreatDoorDp20
set_option linter.unusedVariables false
set_option linter.unusedSimpArgs false
set_option maxRecDepth 100000
set_option maxHeartbeats 8000000
namespace Go.Proofs.YtmkapobnfigedaaGreatDoor
open Go.RowKit
theorem DPart.setData {B : Nat} {w : World} {d b bi cap K : Nat} {ov mv nv : Value} {S : PSt} {c : PCall} {r : PRes} {x : PIn} (h : DPart B w d b bi cap ov mv nv S c r) (hx : S.ins[K]? = some x) (z : ByteArray) :
 DPart B (w.setCell ⟨bi, K * 4 + 3, none⟩ (.string z)) d b bi cap ov mv nv { S with ins := S.ins.set K { x with data := z } } c r := by
 obtain ⟨h1, h2, cc, h3⟩ := h.st.setData hx z
 have hK : Keep (fun k => k = bi) w (w.setCell ⟨bi, K * 4 + 3, none⟩ (.string z)) := Keep.setCell (S := fun k => k = bi) (p := ⟨bi, K * 4 + 3, none⟩) (Keep.refl _ _) (.inl rfl) _
 refine ⟨h.hBb, h.hBd, hK.blk h.hD (h.hD.ne_ h3 (by decide)), ?_, ?_, h.nm.keep hK (fun g hg e => h.nm.ne_blk h3 (by decide) hg e)⟩
 · show Blk _ b #[.slice (some ⟨bi, 0, none⟩) (S.ins.set K { x with data := z }).length cap, ov, mv] 26; rw [List.length_set]; exact hK.blk h.hb (h.hb.ne_ h3 (by decide))
 · show StOwn B _ (.slice (some ⟨bi, 0, none⟩) (S.ins.set K { x with data := z }).length cap) ov mv _; rw [List.length_set]; exact h1
theorem DPart.ge_bi {B : Nat} {w : World} {d b bi cap K : Nat} {ov mv nv : Value} {S : PSt} {c : PCall} {r : PRes} {x : PIn} (h : DPart B w d b bi cap ov mv nv S c r) (hx : S.ins[K]? = some x) : B ≤ bi ∧ ∃ cc, Blk w bi cc 68 := by
 obtain ⟨h1, h2, h3⟩ := h.st.setData hx x.data
 exact ⟨h2, h3⟩
def writeM (S : PSt) (c : PCall) (r : PRes) : Except Int (PSt × PRes) := match fileX S c with
 | none => .error 4
 | some y => .ok ({ S with ins := S.ins.set y.1 { y.2 with data := layM y.2.data c.off.toNat c.data } }, { r with num := c.data.size })
theorem bytes_write (B d b : Nat) (S : PSt) (c : PCall) (r : PRes) (w : World) (h : DoAt B w d b S c r) (hB : B ≤ w.heap.size) (hf : Fine S) (hk : c.kind = 5) (hoff0 : 0 ≤ c.off) (hsum : c.off + c.data.size ≤ 256) (hsz : ∀ x ∈ S.ins, x.data.size ≤ 1000000) :
 Calls Tryz.prog 146 #[.pointer (some ⟨d, 0, none⟩)] w (RunOut B w d b c (writeM S c r)) := by
 obtain ⟨bi, cap, ov, mv, nv, hP⟩ := h.part hf.pos
 have ht := hP.file hf
 have iD := hP.hD.lt
 unfold fileE at ht
 unfold writeM
 generalize hX : fileX S c = X at ht ⊢
 rcases X with _ | ⟨K, x⟩
 · simp only at ht ⊢
   go_enter Tryz.func146, Tryz.ntmps146
   go_wp2_with (go_at_call 143; refine ht.mono ?_; rintro e w1 ⟨hb1, rfl⟩)
   exact ⟨rfl, hb1.mono hB, rfl⟩
 · simp only at ht ⊢; obtain ⟨hx, hKl⟩ := fileX_at hX; have hxs := hsz x (mG hx); generalize idxM (isFd c) S.op = I at ht; have HP := Lib.hid hP; have hoff := fun ww => in126 c.off ww
   have hnum := fun ww => in126 (c.data.size : Int) ww
   rw [show inM c.off = true by unfold inM; simp; omega] at hoff; rw [show inM (c.data.size : Int) = true by unfold inM; simp; omega] at hnum; obtain ⟨o, ho⟩ : ∃ o : Nat, c.off = o := ⟨c.off.toNat, by omega⟩
   have hla := fun ww => lay128 x.data c.data o ww (by omega) (by omega) (by omega)
   have eo : c.off.toNat = o := by omega
   rw [eo]; rw [ho] at hoff hsum; generalize layM x.data o c.data = z at hla ⊢; have HO := Lib.hid ho; clear h hP hX hsz eo ho hoff0; have hsz : (c.data.size : Int) ≤ 256 := by omega
   have hgt : decide ((256 : Int) < (o : Int) + c.data.size) = false := decide_eq_false (by omega); have hwr : IntKind.i64.wrap ((o : Int) + c.data.size) = (o : Int) + c.data.size := I64.wrap ⟨by omega, by omega⟩; have hgt2 : (o : Int) + c.data.size ≤ 256 := by omega
   go_enter Tryz.func146, Tryz.ntmps146
   go_upto_region 1 with (go_at_call 143; refine ht.mono ?_; rintro e w1 ⟨hb1, rfl⟩; have HB := Lib.hid hb1; clear hb1)
   refine abs_world (F := fun wA => DPart B wA d b bi cap ov mv nv S c r ∧ Below w.heap.size w wA) ⟨HP.out.below HB.out, HB.out⟩ ?_; clear ht iD HP HB; rintro wA ⟨hA, hbA⟩; have iD := hA.hD.lt; have a1 : wA.cell? ⟨d, 1, none⟩ = some (.int .i64 c.kind) := hA.hD.cell 1; have a4 : wA.cell? ⟨d, 4, none⟩ = some (.int .i64 c.off) := hA.hD.cell 4; have a8 : wA.cell? ⟨d, 8, none⟩ = some (.string c.data) := hA.hD.cell 8; have a11 : wA.cell? ⟨d, 11, none⟩ = some (.int .i64 r.num) := hA.hD.cell 11; have f11 := hA.hD.frozen 11; rw [hk] at a1; rw [HO.out] at a4; obtain ⟨iI, x0, x1, x3⟩ := hA.dat hx; obtain ⟨hge, cc, hcc⟩ := hA.ge_bi hx; have f3 := hcc.frozen (K * 4 + 3); have nbd : ¬ bi = d := hcc.ne_ hA.hD (by decide); have nbd2 : ¬ d = bi := fun e => nbd e.symm
   have HA := Lib.hid (And.intro hA (And.intro hbA (And.intro hx hge))); clear hA hbA hx hge hcc
   go_upto_region 8 with (first | (go_at_call 183; with_reducible refine aT (hoff _) fun p => ?_) | (go_at_call 183; with_reducible refine aT (hnum _) fun p => ?_) | (go_at_call 172; refine aT (throw_no _ _) fun p => ?_))
   refine wp_region_quiet_rest (by kernel_rfl) (by kernel_rfl) (WQ.out ?_)
   repeat
    refine WQ_step (fun K hK => ?_); go_simp
    first
     | (refine hK _ ?_; clear hK K)
     | (apply Exists.intro
        refine ⟨fun _ => ?_, hK _ ?_⟩
        focus (((with_reducible first | refine cI (throw_no _ _) | refine cJ (throw_no _ _))))
        clear hK K)
   refine WN fun p => ?_
   go_upto_region 9 with fail
   refine wp_region_eff [15, 18] true (fun w' => w'.cell? ⟨d, 4, none⟩ = some (.int .i64 o) ∧ w'.cell? ⟨d, 8, none⟩ = some (.string c.data) ∧ w'.cell? ⟨bi, K * 4 + 3, none⟩ = some (.string x.data)) (by kernel_rfl) (by kernel_rfl) ?_ ?_
   · (try dsimp only); (repeat' apply And.intro) <;> go_simp
   repeat
    refine wpL_look rfl rfl ?_; apply Exists.intro; refine ⟨?_, ?_⟩
    focus
     rintro w' ⟨s0, s1, s2⟩; go_simp
     first | done | rfl
    simp only [Act.put, sA, sZ, sS]
   refine wpL_act rfl rfl ?_; refine eff_call 185 #[.string x.data, .int .i64 o, .string c.data] ?hr ?_
   case hr =>
    go_simp
    first | done | rfl
   refine aT (hla _) fun q1 => ?_; refine ⟨_, rfl, .inl ?_, ?_⟩
   · (try dsimp only); (repeat' apply And.intro) <;> go_simp
   simp only [Act.put, sA, sZ, sS]
   repeat
    refine wpL_look rfl rfl ?_; apply Exists.intro; refine ⟨?_, ?_⟩
    focus
     rintro w' ⟨s0, s1, s2⟩; go_simp
     first | done | rfl
    simp only [Act.put, sA, sZ, sS]
   refine wpL_skip rfl rfl ?_; apply Exists.intro; refine ⟨?_, .inr ⟨rfl, rfl⟩, ?_⟩
   focus
    go_simp; rfl
   simp only [Act.put, sA, sZ, sS]; refine wpL_end ?_; clear a4 x0 x1 x3; go_wp2_with fail; have hbs : Below B w ((wA.setCell ⟨bi, K * 4 + 3, none⟩ (.string z)).setCell ⟨d, 11, none⟩ (.int .i64 c.data.size)) := ((HA.out.2.1.mono hB).setCell (p := ⟨bi, K * 4 + 3, none⟩) HA.out.2.2.2 _).setCell (p := ⟨d, 11, none⟩) HA.out.1.hBd _; exact bodyPost_end (v := .tuple #[]) (by simp [results, go_sem]) rfl ⟨hbs.trans ((bel _ _).mono (Nat.le_trans hB hbs.size)), rfl, (((HA.out.1.setData HA.out.2.2.1 z).res (t := 11) (r' := { r with num := c.data.size }) rfl rfl).below (bel _ _)).at_⟩
end Go.Proofs.YtmkapobnfigedaaGreatDoor
