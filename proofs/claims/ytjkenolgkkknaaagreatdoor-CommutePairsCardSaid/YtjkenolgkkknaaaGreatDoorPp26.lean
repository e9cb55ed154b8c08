/- Part of the proof that the named pairs of calls commute. Conditions: none. -/
import Derived.Test.YtjkenolgkkknaaaGreatDoorPp24
import Derived.Test.YtjkenolgkkknaaaGreatDoorPp25
set_option linter.unusedVariables false
set_option linter.unusedSimpArgs false
set_option maxRecDepth 100000
set_option maxHeartbeats 8000000
namespace Go.Proofs.YtjkenolgkkknaaaGreatDoor
open Go.RowKit
theorem OwnP.below {B : Nat} {w w' : World} {e : TypeId} {k : Nat} {v : Value} {rows : List (List Value)} (h : OwnP B w e k v rows) (hb : Below w.heap.size w w') : OwnP B w' e k v rows := h.keep (Keep.of_below hb (fun _ => False)) (fun _ _ h => h)
theorem Grew.on {B : Nat} {e : TypeId} {k : Nat} {w w' : World} {v v' : Value} {rows rows' : List (List Value)} (h : Grew B e k w v rows v' w') (ho : OwnP B w e k v rows') (hB : B ≤ w.heap.size) : Below B w w' := h.2.1.below hB (fun i hi hg => by have := ho.ge hg; omega)
theorem OwnP.formL {B : Nat} {w : World} {e : TypeId} {k : Nat} {v : Value} {rows : List (List Value)} (h : OwnP B w e k v rows) : ∃ a c, v = .slice a rows.length c := by
 rcases h with ⟨rfl, rfl⟩ | ⟨g, cap, arr, rfl, _⟩
 · exact ⟨_, _, rfl⟩
 · exact ⟨_, _, rfl⟩
theorem StOwn.ins_form {B : Nat} {w : World} {iv ov mv : Value} {S : PSt} (h : StOwn B w iv ov mv S) (h0 : 0 < S.ins.length) : ∃ bi cap, iv = .slice (some ⟨bi, 0, none⟩) S.ins.length cap := by
 obtain ⟨_, _, is, h3, h4, _⟩ := h
 rcases h3 with ⟨_, h1⟩ | ⟨g, cap, arr, rfl, _⟩
 · rw [List.map_eq_nil_iff] at h1; rw [h1] at h4; simp at h4; omega
 · exact ⟨g, cap, by rw [lM, h4]⟩
theorem StOwn.ins_thaw {B : Nat} {w w1 : World} {bi cap K : Nat} {ov mv : Value} {S : PSt} (h : StOwn B w (.slice (some ⟨bi, 0, none⟩) S.ins.length cap) ov mv S) (hK : K < S.ins.length) (hb : Below w.heap.size w w1) : w1.frozen? ⟨bi, K * 4 + 2, none⟩ = false := by
 obtain ⟨_, _, is, h3, h4, _⟩ := h
 have h3 := h3.below hb
 rcases h3 with ⟨h1, _⟩ | ⟨g, cap, arr, he, _, hbk, _⟩
 · cases h1
 · simp only [Value.slice.injEq, Option.some.injEq, Addr.mk.injEq] at he; obtain ⟨⟨rfl, -, -⟩, -, -⟩ := he; exact hbk.frozen _
theorem put97 (B b : Nat) (S : PSt) (iv ov mv : Value) (dir num : Int) (name : ByteArray) (K : Nat) (x : PIn) (w : World) (hb : Blk w b #[iv, ov, mv] 27) (ho : StOwn B w iv ov mv S) (hB : B ≤ w.heap.size) (hwf : S.wf) (hns : name.size ≤ 1000000000) (hat : atR S dir = K) (hx : S.ins[K]? = some x) :
 Calls Tryz.prog 97 #[.pointer (some ⟨b, 0, none⟩), .int .i64 dir, .string name, .int .i64 num] w fun e w' => e = .returned (.tuple #[]) ∧ Below B w w' ∧ Keep (InEn w) w w' ∧ StOwn B w' iv ov mv (S.ents K x (insF (fun e => belowR name e.name) ⟨name, num⟩ x.ents false [])) := by
 obtain ⟨hKl, -⟩ := gI.1 hx
 obtain ⟨bi, cap, rfl⟩ := ho.ins_form (by omega)
 have h51 : ∀ ww, Below w.heap.size w ww → Calls Tryz.prog 51 #[.agg #[.slice (some ⟨bi, 0, none⟩) S.ins.length cap, ov, mv], .int .i64 dir] ww fun e w' => e = .returned (.int .i64 (K : Int)) ∧ Below ww.heap.size ww w' := fun ww hb => by
  have := at51 S _ ov mv dir ww (ho.read.below hb (Nat.le_refl _)) hwf.1; rw [hat] at this; exact this
 obtain ⟨a, cap', e1, hai⟩ := ho.read.ins_at2
 cases e1
 obtain ⟨bi', oi, ev, he, iI0, hoi, her, hci⟩ := hai K x hx
 cases he
 obtain ⟨iI, -, -, x2, -⟩ := hci w (Below.refl _ _)
 rw [Nat.zero_add] at x2
 have HX2 := Lib.hid x2
 have hel := (hwf.2.2.2.1 x (mG hx)).2.1
 obtain ⟨ae, ce, rfl, hae⟩ := her.at_
 rw [lM] at x2
 have iL := hb.lt
 have s0 := hb.cell 0
 have s1 := hb.cell 1
 have s2 := hb.cell 2
 simp at s0 s1 s2
 have hone := ho.1.one
 have hone2 := ho.2.1.one
 obtain ⟨ao, co, rfl⟩ := ho.1.formL
 obtain ⟨am, cm, rfl⟩ := ho.2.1.formL
 simp only [lM] at h51 s1 s2
 have hKI : (K : Int) < S.ins.length := by omega
 have H := Lib.hid (And.intro ho (And.intro hx hb))
 obtain ⟨xn, xd, xe, xs⟩ := x
 simp only at x2 hae hel ⊢
 obtain ⟨R, hR⟩ : ∃ R, insF (fun e => belowR name e.name) ⟨name, num⟩ xe false [] = R := ⟨_, rfl⟩
 rw [hR]
 have HR := Lib.hid hR
 have HA := Lib.hid hae
 have hst : ∀ w2, Below w.heap.size w w2 → BlockLt bi w2 ∧ w2.cell? ⟨bi, K * 4 + 2, none⟩ = some (.slice ae xe.length ce) := by
  intro w2 h2; obtain ⟨i2, -, -, y2, -⟩ := hci w2 h2; rw [Nat.zero_add, lM] at y2; exact ⟨i2, y2⟩
 have HST := Lib.hid hst
 clear hst
 clear ho hx hb her hai hoi hci hR hae hone hone2 hat
 go_enter Tryz.func97, Tryz.ntmps97
 go_upto_region 0 with fail
 refine wp_region_quiet_rest (by kernel_rfl) (by kernel_rfl) (WQ.out ?_)
 repeat
  refine WQ_step (fun K hK => ?_); go_simp
  first
   | (refine hK _ ?_; clear hK K)
   | (apply Exists.intro
      refine ⟨fun _ => ?_, hK _ ?_⟩
      focus ((with_reducible refine calls_in (h51 _ (bel _ _)) (fun w' hb => ?_); first | exact hb.rest | exact rest1 hb | exact rest2 hb))
      clear hK K)
 refine WQ_nil ?_
 intro w1 hw1
 obtain ⟨p, hw1⟩ := hw1
 subst hw1
 go_wp2_with fail
 go_loopw [9, 10, 11] (fun v9 v10 i wr => ∃ (q : Nat) (d : Bool) (zs : List PEnt), i = .int .i64 q ∧ v10 = .bool d ∧ q ≤ xe.length ∧ zs.length ≤ 2 * q ∧ OwnP w.heap.size wr 99 2 v9 (zs.map PEnt.cells) ∧ insF (fun e => belowR name e.name) ⟨name, num⟩ (xe.drop q) d zs = R ∧ Below w.heap.size w wr) (fun _ _ i _ => (xe.length - intOf i).toNat)
 case atStart => exact ⟨0, false, [], rfl, rfl, by omega, by simp, .inl ⟨rfl, rfl⟩, HR.out, bel _ _⟩
 case round =>
  obtain ⟨q, d, zs, rfl, rfl, hq, hzl, hO, hre, hbw⟩ := hrel; have iB : Bel w wr := ⟨hbw⟩
  obtain ⟨iI2, y2⟩ := HST.out wr hbw; obtain ⟨va, vc, rfl⟩ := hO.formL; generalize hzn : (zs.map PEnt.cells).length = zn at hO ⊢; have HO := Lib.hid (And.intro hO hzn); clear hO hzn; by_cases hlt : q < xe.length
  · obtain ⟨z, hz⟩ : ∃ z, xe[q]? = some z := ⟨_, gE hlt⟩
    rw [insF_drop _ _ _ q z d zs hz] at hre; obtain ⟨be, oe, rfl, iE0, iE, hce⟩ := HA.out wr hbw q z.cells (by rw [gM, hz]; rfl); have c0 := hce 0 _ rfl; have c1 := hce 1 _ rfl; rw [Nat.add_zero] at c0; have hltI : (q : Int) < xe.length := by omega
    have hcz : ∀ w2, Below w.heap.size w w2 → BlockLt be w2 ∧ w2.cell? ⟨be, oe + q * 2, none⟩ = some (.string z.name) ∧ w2.cell? ⟨be, oe + q * 2 + 1, none⟩ = some (.int .i64 z.num) := by
     intro w2 h2; obtain ⟨be', oe', he, _, i2, hc⟩ := HA.out w2 h2 q z.cells (by rw [gM, hz]; rfl); cases he; exact ⟨i2, hc 0 _ rfl, hc 1 _ rfl⟩
    have HCZ := Lib.hid hcz; clear hce hz hcz; rcases d with _ | _
    · rw [if_neg (by decide)] at hre; have h53 : ∀ ww, Calls Tryz.prog 53 #[.string name, .string z.name] ww fun e w' => e = .returned (.bool (belowR name z.name)) ∧ Below ww.heap.size ww w' := fun ww => below53 name z.name (by omega) ww
      generalize belowR name z.name = t at hre h53; rcases t with _ | _
      · rw [if_neg (by decide)] at hre; have HRE := Lib.hid hre; clear hre; go_wp2_with (first | (go_at_call 53; with_reducible refine aT (h53 _) fun p => ?_) | (at_builtin; refine app99 rfl (.tmp 51) (.tmp 59) rfl w.heap.size _ _ zs [z] rfl (by go_simp) (HO.out.1.below (bel wr _)) (RowAt.single (Blk.new_i _ _ _ _) 2 1) (by simp; omega) (bel w _).size ?_))
        intro v' w' hg; have hbg := hg.on (HO.out.1.below (bel wr _)) (bel w _).size; have hb2 := (bel w _).trans hbg; have hO2 : OwnP w.heap.size w' 99 2 v' ((zs ++ [z]).map PEnt.cells) := by have := hg.1; simpa using this
        have H2 := Lib.hid (And.intro hO2 hb2); clear hg hbg hO2 hb2; go_wp2_with fail
        go_roundw
        case rel => exact ⟨q + 1, false, _, by go_num, rfl, by omega, by simp; omega, H2.out.1, HRE.out, H2.out.2⟩
        case measure => simp [intOf]; omega
      · rw [if_pos rfl] at hre; have HRE := Lib.hid hre; clear hre; go_wp2_with (first | (go_at_call 53; with_reducible refine aT (h53 _) fun p => ?_) | (at_builtin; refine app99 rfl (.tmp 45) (.tmp 49) rfl w.heap.size _ _ zs [⟨name, num⟩] rfl (by go_simp) (HO.out.1.below (bel wr _)) (RowAt.single (Blk.new_i _ _ _ _) 2 1) (by simp; omega) (bel w _).size ?_))
        intro v' w' hg; have hbg := hg.on (HO.out.1.below (bel wr _)) (bel w _).size; have hb2 := (bel w _).trans hbg; have hO2 : OwnP w.heap.size w' 99 2 v' ((zs ++ [(⟨name, num⟩ : PEnt)]).map PEnt.cells) := by have := hg.1; simpa using this
        have i2 : Bel w w' := ⟨hb2⟩
        have H2 := Lib.hid hO2; obtain ⟨iE2, d0, d1⟩ := HCZ.out w' hb2; obtain ⟨iI3, z2⟩ := HST.out w' hb2; clear hg hbg hO2 hb2 c0 c1 iE y2 iI2; go_wp2_with (at_builtin; refine app99 rfl (.tmp 51) (.tmp 59) rfl w.heap.size _ _ (zs ++ [(⟨name, num⟩ : PEnt)]) [z] rfl (by go_simp) (H2.out.below (bel w' _)) (RowAt.single (Blk.new_i _ _ _ _) 2 1) (by simp; omega) (bel w _).size ?_)
        intro v' w'' hg; have hbg := hg.on (H2.out.below (bel w' _)) (bel w _).size; have hb2 := (bel w _).trans hbg; have hO2 : OwnP w.heap.size w'' 99 2 v' ((zs ++ [(⟨name, num⟩ : PEnt)] ++ [z]).map PEnt.cells) := by have := hg.1; simpa using this
        have H3 := Lib.hid (And.intro hO2 hb2); clear hg hbg hO2 hb2; go_wp2_with fail
        go_roundw
        case rel => exact ⟨q + 1, true, _, by go_num, rfl, by omega, by simp; omega, H3.out.1, HRE.out, H3.out.2⟩
        case measure => simp [intOf]; omega
    · rw [if_pos rfl] at hre; have HRE := Lib.hid hre; clear hre; go_wp2_with (at_builtin; refine app99 rfl (.tmp 51) (.tmp 59) rfl w.heap.size _ _ zs [z] rfl (by go_simp) (HO.out.1.below (bel wr _)) (RowAt.single (Blk.new_i _ _ _ _) 2 1) (by simp; omega) (bel w _).size ?_)
      intro v' w' hg; have hbg := hg.on (HO.out.1.below (bel wr _)) (bel w _).size; have hb2 := (bel w _).trans hbg; have hO2 : OwnP w.heap.size w' 99 2 v' ((zs ++ [z]).map PEnt.cells) := by have := hg.1; simpa using this
      have H2 := Lib.hid (And.intro hO2 hb2); clear hg hbg hO2 hb2; go_wp2_with fail
      go_roundw
      case rel => exact ⟨q + 1, true, _, by go_num, rfl, by omega, by simp; omega, H2.out.1, HRE.out, H2.out.2⟩
      case measure => simp [intOf]; omega
  · rw [insF_end _ _ _ q d zs hlt] at hre; have hltI : ¬ (q : Int) < xe.length := by omega
    have hfin : ∀ (w1 : World) (v : Value), OwnP w.heap.size w1 99 2 v (R.map PEnt.cells) → Below w.heap.size w w1 → Below B w (w1.setCell ⟨bi, K * 4 + 2, none⟩ v) ∧ Keep (InEn w) w (w1.setCell ⟨bi, K * 4 + 2, none⟩ v) ∧ StOwn B (w1.setCell ⟨bi, K * 4 + 2, none⟩ v) (.slice (some ⟨bi, 0, none⟩) S.ins.length cap) (.slice ao (S.op.map PDesc.cells).length co) (.slice am (S.made.map intCells).length cm) (S.ents K ⟨xn, xd, xe, xs⟩ R) := by
     intro w1 v h1 h2; obtain ⟨ho, hx, hb⟩ := H.out; obtain ⟨r1, r2, r3⟩ := ho.setEnts hx HX2.out (h1.mono hB) (Keep.of_below h2 _) (fun k hk => .inr (h1.ge hk)) hB; exact ⟨r2, r3, r1⟩
    have HFIN := Lib.hid hfin; clear hfin; rcases d with _ | _
    · rw [if_neg (by decide)] at hre; have HRE := Lib.hid hre; clear hre; go_wp2_with (at_builtin; refine app99 rfl (.tmp 63) (.tmp 67) rfl w.heap.size _ _ zs [⟨name, num⟩] rfl (by go_simp) (HO.out.1.below (bel wr _)) (RowAt.single (Blk.new_i _ _ _ _) 2 1) (by simp; omega) (bel w _).size ?_)
      intro v' w' hg; have hbg := hg.on (HO.out.1.below (bel wr _)) (bel w _).size; have hb2 := (bel w _).trans hbg; have i2 : Bel w w' := ⟨hb2⟩
      obtain ⟨iI3, z2⟩ := HST.out w' hb2; have hO2 : OwnP w.heap.size w' 99 2 v' ((zs ++ [(⟨name, num⟩ : PEnt)]).map PEnt.cells) := by have := hg.1; simpa using this
      rw [HRE.out] at hO2; have hf := HFIN.out w' v' hO2 hb2; obtain ⟨va2, vc2, rfl⟩ := hO2.formL; generalize (R.map PEnt.cells).length = zn2 at hf ⊢; have HF := Lib.hid hf; have hfz := H.out.1.ins_thaw hKl hb2; clear hg hbg hO2 hb2 hf; go_wp2_with fail; exact bodyPost_end (v := .tuple #[]) (by simp [results, go_sem]) rfl ⟨rfl, by have := HF.out; first | exact this | (simp only [lM] at this; exact this)⟩
    · rw [if_pos rfl] at hre; subst hre; have hf := HFIN.out wr _ HO.out.1 hbw; have HF := Lib.hid hf; have hfz := H.out.1.ins_thaw hKl hbw; clear hf; go_wp2_with fail; exact bodyPost_end (v := .tuple #[]) (by simp [results, go_sem]) rfl ⟨rfl, by have := HF.out; first | exact this | (simp only [lM] at this; exact this)⟩
def p1 (c : UInt8) : ByteArray := ⟨#[47, c]⟩
def n1 (c : UInt8) : ByteArray := ⟨#[c]⟩
theorem parse141 (c : UInt8) (hc : c ≠ 47) (hk : checkR (n1 c) = 0) (w : World) :
 Calls Tryz.prog 141 #[.string (p1 c)] w fun e w' => ∃ g cap, e = .returned (.tuple #[.slice (some ⟨g, 0, none⟩) 1 cap, .int .i64 0]) ∧ Below w.heap.size w w' ∧ 1 ≤ cap ∧ RowAt w' 1 (.slice (some ⟨g, 0, none⟩) 1 cap) [[.string (n1 c)]] := by
 have h52 : ∀ ww, Calls Tryz.prog 52 #[.string (n1 c)] ww fun e w' => e = .returned (.int .i64 0) ∧ Below ww.heap.size ww w' := fun ww => by
  have := check52 (n1 c) ww; rw [hk] at this; exact this
 have hsz : (p1 c).size = 2 := rfl
 have hex : (p1 c).extract 1 2 = n1 c := rfl
 have hne : (p1 c).toList.isEmpty = false := by kernel_rfl
 have hne2 : ((p1 c).toList == [47]) = false := by kernel_rfl
 have hi0 : ∀ h, ((p1 c)[0]'h).toNat = 47 := fun h => rfl
 have hi1 : ∀ h, (p1 c)[1]'h = c := fun h => rfl
 have hcn : ¬ c.toNat = 47 := fun e => hc (by rw [← UInt8.toNat_inj]; exact e)
 have hcI : ¬ ((c.toNat : Int) = 47) := by omega
 generalize hp : p1 c = s at *
 generalize hn : n1 c = m at *
 have HP := Lib.hid (And.intro hp hn)
 clear hp hn hc hk
 go_enter Tryz.func141, Tryz.ntmps141
 go_wp2_with fail
 go_loopw [4, 5, 6] (fun v4 v5 v6 wr => Below w.heap.size w wr ∧ ((v4 = .slice none 0 0 ∧ v5 = .int .i64 1 ∧ v6 = .int .i64 1) ∨ (v4 = .slice none 0 0 ∧ v5 = .int .i64 1 ∧ v6 = .int .i64 2) ∨ (∃ g cap, v4 = .slice (some ⟨g, 0, none⟩) 1 cap ∧ v5 = .int .i64 3 ∧ v6 = .int .i64 3 ∧ 1 ≤ cap ∧ RowAt wr 1 (.slice (some ⟨g, 0, none⟩) 1 cap) [[.string m]]))) (fun _ _ i _ => (4 - intOf i).toNat)
 case atStart => exact ⟨bel _ _, .inl ⟨rfl, rfl, rfl⟩⟩
 case round =>
  obtain ⟨hb, h⟩ := hrel; have iB : Bel w wr := ⟨hb⟩
  rcases h with ⟨rfl, rfl, rfl⟩ | ⟨rfl, rfl, rfl⟩ | ⟨g, cap, rfl, rfl, rfl, hcap, hR⟩
  · go_wp2_with fail
    go_roundw
    case rel => exact ⟨bel _ _, .inr (.inl ⟨rfl, rfl, rfl⟩)⟩
    case measure => simp [intOf]
  · go_wp2_with (first | (go_at_call 52; with_reducible refine aT (h52 _) fun p => ?_) | (at_builtin; refine app9 rfl (.tmp 44) (.tmp 49) rfl w.heap.size _ _ [] [m] rfl (by go_simp) (.inl ⟨rfl, rfl⟩) (RowAt.single (Blk.new_i _ _ _ _) 1 1) (by simp) (bel w _).size ?_))
    intro v' w' hg; have hbg := hg.on (.inl ⟨rfl, rfl⟩ : OwnP w.heap.size _ 9 1 (.slice none 0 0) []) (bel w _).size; have hb2 := (bel w _).trans hbg; have hO2 := hg.1; have hf : ∃ g cap, v' = .slice (some ⟨g, 0, none⟩) 1 cap ∧ 1 ≤ cap := by
     rcases hO2 with ⟨_, h0⟩ | ⟨g, cap, arr, rfl, _, _, hn, _⟩
     · cases h0
     · exact ⟨g, cap, rfl, hn⟩
    obtain ⟨g, cap, rfl, hcap⟩ := hf; have H2 := Lib.hid (And.intro hO2.row hb2); clear hg hbg hO2 hb2; go_wp2_with fail
    go_roundw
    case rel => exact ⟨H2.out.2, .inr (.inr ⟨g, cap, rfl, rfl, rfl, hcap, H2.out.1⟩)⟩
    case measure => simp [intOf]
  · have HR := Lib.hid hR; clear hR; go_wp2_with fail; exact bodyPost_ret (v := .tuple #[.slice (some ⟨g, 0, none⟩) 1 cap, .int .i64 0]) (by simp [results, Tryz.results141, go_sem]) rfl ⟨_, _, rfl, bel _ _, hcap, HR.out.below (bel wr _) (Nat.le_refl _)⟩
def rootB (S : PSt) : Bool := (atR S 1 == 0) && match S.ins[0]? with | some x => x.dir | none => false
theorem walk_none (S : PSt) (iv ov mv : Value) (a : Option Addr) (cap : Nat) (w : World) (h : StRead w iv ov mv S) :
 Calls Tryz.prog 143 #[.agg #[iv, ov, mv], .slice a 0 cap] w fun e w' => e = .returned (.tuple #[.int .i64 1, .int .i64 0, .slice none 0 0]) ∧ Below w.heap.size w w' := by
 obtain ⟨ai, ni, ci, ao, no, co, am, nm, cm, rfl, rfl, rfl⟩ := h.slices
 clear h
 go_enter Tryz.func143, Tryz.ntmps143
 go_wp2_with fail
 go_loopw [7, 8, 9] (fun v7 v8 v9 wr => v7 = .int .i64 1 ∧ v8 = .slice none 0 0 ∧ v9 = .int .i64 0 ∧ Below w.heap.size w wr) (fun _ _ _ _ => 0)
 case atStart => exact ⟨rfl, rfl, rfl, bel _ _⟩
 case round =>
  obtain ⟨rfl, rfl, rfl, hb⟩ := hrel; have iB : Bel w wr := ⟨hb⟩
  go_wp2_with fail; exact bodyPost_ret (v := .tuple #[.int .i64 1, .int .i64 0, .slice none 0 0]) (by simp [results, Tryz.results143, go_sem]) rfl ⟨rfl, bel _ _⟩
theorem walk_one (S : PSt) (iv ov mv : Value) (g cap : Nat) (nm : ByteArray) (num : Int) (w : World) (h : StRead w iv ov mv S) (hwf : S.wf) (hr : rootB S = true) (hn : RowAt w 1 (.slice (some ⟨g, 0, none⟩) 1 cap) [[.string nm]]) (he : entryR S 1 nm = num) (hn0 : num ≠ 0) :
 Calls Tryz.prog 143 #[.agg #[iv, ov, mv], .slice (some ⟨g, 0, none⟩) 1 cap] w fun e w' => ∃ a n c, e = .returned (.tuple #[.int .i64 num, .int .i64 0, .slice a n c]) ∧ Below w.heap.size w w' := by
 unfold rootB at hr
 simp only [Bool.and_eq_true, beq_iff_eq] at hr
 obtain ⟨ha, hr⟩ := hr
 obtain ⟨x, hx⟩ : ∃ x, S.ins[0]? = some x := by
  rcases e : S.ins[0]? with _ | x
  · rw [e] at hr; cases hr
  · exact ⟨x, rfl⟩
 rw [hx] at hr
 simp only at hr
 have h51 : ∀ ww, Below w.heap.size w ww → Calls Tryz.prog 51 #[.agg #[iv, ov, mv], .int .i64 1] ww fun e w' => e = .returned (.int .i64 0) ∧ Below ww.heap.size ww w' := fun ww hb => by
  have := at51 S iv ov mv 1 ww (h.below hb (Nat.le_refl _)) hwf.1; rw [ha] at this; exact this
 have h95 : ∀ ww, Below w.heap.size w ww → Calls Tryz.prog 95 #[.agg #[iv, ov, mv], .int .i64 1, .string nm] ww fun e w' => e = .returned (.int .i64 num) ∧ Below ww.heap.size ww w' := fun ww hb => by
  have := entry95 S iv ov mv 1 nm ww (h.below hb (Nat.le_refl _)) hwf; rw [he] at this; exact this
 obtain ⟨ai, ni, ci, ao, no, co, am, nm', cm, rfl, rfl, rfl⟩ := h.slices
 obtain ⟨a, cap', e1, hai⟩ := h.ins_at2
 cases e1
 obtain ⟨bi, oi, ev, rfl, iI0, hoi, her, hci⟩ := hai 0 x hx
 rw [hr, Nat.zero_mul, Nat.add_zero] at hci
 obtain ⟨aN, cN, eN, hatN⟩ := hn.at_
 simp only [Value.slice.injEq] at eN
 obtain ⟨rfl, -, rfl⟩ := eN
 have hatN0 : ∀ wr, Below w.heap.size w wr → BlockLt g wr ∧ wr.cell? ⟨g, 0, none⟩ = some (.string nm) := by
  intro wr hb; obtain ⟨b, o, hf, _, i2, hc⟩ := hatN wr hb 0 _ rfl; cases hf; exact ⟨i2, hc 0 _ rfl⟩
 obtain ⟨hxl, -⟩ := gI.1 hx
 have hxlI : (0 : Int) < S.ins.length := by omega
 have hnb : (num == 0) = false := by simpa using hn0
 have HC := Lib.hid (And.intro hci hatN0)
 clear h hai her hoi hci hatN hatN0 hn hx he hwf
 go_enter Tryz.func143, Tryz.ntmps143
 go_wp2_with fail
 go_loopw [7, 8, 9] (fun v7 v8 v9 wr => Below w.heap.size w wr ∧ ((v7 = .int .i64 1 ∧ v8 = .slice none 0 0 ∧ v9 = .int .i64 0 ∧ Blk wr w.heap.size #[.slice (some ⟨bi, oi, none⟩) S.ins.length ci, .slice ao no co, .slice am nm' cm] 27) ∨ (∃ a n c, v7 = .int .i64 num ∧ v8 = .slice a n c ∧ v9 = .int .i64 1))) (fun _ _ i _ => (2 - intOf i).toNat)
 case atStart => exact ⟨bel _ _, .inl ⟨rfl, rfl, rfl, Blk.new w _ 27⟩⟩
 case round =>
  obtain ⟨hb, h⟩ := hrel; have iB : Bel w wr := ⟨hb⟩
  rcases h with ⟨rfl, rfl, rfl, hbk⟩ | ⟨a, n, c, rfl, rfl, rfl⟩
  · have iL := hbk.lt; have s0 := hbk.cell 0; have s1 := hbk.cell 1; have s2 := hbk.cell 2; simp at s0 s1 s2; obtain ⟨⟨iI, -, x1, -, -⟩, iG, c0⟩ := And.intro (HC.out.1 wr hb) (HC.out.2 wr hb); have HB := Lib.hid hbk; clear hbk; go_wp2_with (first | (go_at_call 51; with_reducible refine aT (h51 _ (bel _ _)) fun p => ?_) | (at_builtin; refine app3 rfl (.tmp 28) (.tmp 30) rfl w.heap.size _ _ [] [1] rfl (by go_simp) (.inl ⟨rfl, rfl⟩) (RowAt.single (Blk.new_i _ _ _ _) 1 1) (by simp) (bel w _).size ?_))
    intro v' w' hg; have hbg := hg.on (.inl ⟨rfl, rfl⟩ : OwnP w.heap.size _ 3 1 (.slice none 0 0) []) (bel w _).size; have hb2 := (bel w _).trans hbg; have hB2 := hg.2.1.blk (by first | exact HB.out.alloc _ | exact (HB.out.junk _).alloc _) (fun h => by simp [Value.ownBlock] at h); have i2 : Bel w w' := ⟨hb2⟩
    have iL2 := hB2.lt; have t0 := hB2.cell 0; have t1 := hB2.cell 1; have t2 := hB2.cell 2; simp at t0 t1 t2; obtain ⟨va, vc, rfl⟩ := hg.1.formL; obtain ⟨iG2, c2⟩ := HC.out.2 w' hb2; clear hg hbg hb2 hB2 s0 s1 s2 x1 c0 iI iG iL
    go_upto_region 10 with fail
    refine wp_region_quiet_rest (by kernel_rfl) (by kernel_rfl) (WQ.out ?_)
    repeat
     refine WQ_step (fun K hK => ?_); go_simp
     first
      | (refine hK _ ?_; clear hK K)
      | (apply Exists.intro
         refine ⟨fun _ => ?_, hK _ ?_⟩
         focus ((with_reducible refine calls_in (h95 _ (bel _ _)) (fun w' hb => ?_); first | exact hb.rest | exact rest1 hb | exact rest2 hb))
         clear hK K)
    refine WQ_nil ?_; intro w1 hw1; obtain ⟨p, hw1⟩ := hw1; subst hw1; go_wp2_with fail
    go_roundw
    case rel => exact ⟨bel _ _, .inr ⟨_, _, _, rfl, rfl, rfl⟩⟩
    case measure => simp [intOf]
  · go_wp2_with fail; exact bodyPost_ret (v := .tuple #[.int .i64 num, .int .i64 0, .slice a n c]) (by simp [results, Tryz.results143, go_sem]) rfl ⟨_, _, _, rfl, bel _ _⟩
theorem root_x {S : PSt} (hr : rootB S = true) : atR S 1 = 0 ∧ ∃ x, S.ins[0]? = some x ∧ x.dir = true := by
 unfold rootB at hr
 simp only [Bool.and_eq_true, beq_iff_eq] at hr
 obtain ⟨ha, hr⟩ := hr
 rcases e : S.ins[0]? with _ | x
 · rw [e] at hr; cases hr
 · rw [e] at hr; exact ⟨ha, x, rfl, hr⟩
theorem find98 (S : PSt) (iv ov mv : Value) (c : UInt8) (num : Int) (w : World) (h : StRead w iv ov mv S) (hwf : S.wf) (hr : rootB S = true) (hc : c ≠ 47) (hk : checkR (n1 c) = 0) (he : entryR S 1 (n1 c) = num) (hn0 : num ≠ 0) :
 Calls Tryz.prog 98 #[.agg #[iv, ov, mv], .string (p1 c)] w fun e w' => e = .returned (.tuple #[.int .i64 num, .int .i64 0]) ∧ Below w.heap.size w w' := by
 have h141 : ∀ ww, Calls Tryz.prog 141 #[.string (p1 c)] ww _ := fun ww => parse141 c hc hk ww
 have h143 : ∀ g cap ww, Below w.heap.size w ww → RowAt ww 1 (.slice (some ⟨g, 0, none⟩) 1 cap) [[.string (n1 c)]] → Calls Tryz.prog 143 #[.agg #[iv, ov, mv], .slice (some ⟨g, 0, none⟩) 1 cap] ww fun e w' => ∃ a n c, e = .returned (.tuple #[.int .i64 num, .int .i64 0, .slice a n c]) ∧ Below ww.heap.size ww w' := fun g cap ww hb hn => walk_one S iv ov mv g cap (n1 c) num ww (h.below hb (Nat.le_refl _)) hwf hr hn he hn0
 obtain ⟨ai, ni, ci, ao, no, co, am, nm', cm, rfl, rfl, rfl⟩ := h.slices
 clear h
 go_enter Tryz.func98, Tryz.ntmps98
 go_wp2_with (first | (go_at_call 141; with_reducible refine (h141 _).mono ?_; rintro e w' ⟨g, cap, rfl, hb, hcap, hn⟩; obtain ⟨p, rfl⟩ := hb.rest; have HN := Lib.hid hn; clear hb hn) | (go_at_call 143; refine (h143 _ _ _ (bel _ _) HN.out).mono ?_; rintro e w' ⟨a, n, c, rfl, hb⟩; obtain ⟨p, rfl⟩ := hb.rest; clear hb))
 exact bodyPost_ret (v := .tuple #[.int .i64 num, .int .i64 0]) (by simp [results, Tryz.results98, go_sem]) rfl ⟨rfl, bel _ _⟩
theorem parent94 (S : PSt) (iv ov mv : Value) (c : UInt8) (w : World) (h : StRead w iv ov mv S) (hwf : S.wf) (hr : rootB S = true) (hc : c ≠ 47) (hk : checkR (n1 c) = 0) :
 Calls Tryz.prog 94 #[.agg #[iv, ov, mv], .string (p1 c)] w fun e w' => e = .returned (.tuple #[.int .i64 1, .string (n1 c), .int .i64 0]) ∧ Below w.heap.size w w' := by
 have h141 : ∀ ww, Calls Tryz.prog 141 #[.string (p1 c)] ww _ := fun ww => parse141 c hc hk ww
 have h143 : ∀ a cap ww, Below w.heap.size w ww → Calls Tryz.prog 143 #[.agg #[iv, ov, mv], .slice a 0 cap] ww fun e w' => e = .returned (.tuple #[.int .i64 1, .int .i64 0, .slice none 0 0]) ∧ Below ww.heap.size ww w' := fun a cap ww hb => walk_none S iv ov mv a cap ww (h.below hb (Nat.le_refl _))
 obtain ⟨ha, x, hx, hd⟩ := root_x hr
 have h51 : ∀ ww, Below w.heap.size w ww → Calls Tryz.prog 51 #[.agg #[iv, ov, mv], .int .i64 1] ww fun e w' => e = .returned (.int .i64 0) ∧ Below ww.heap.size ww w' := fun ww hb => by
  have := at51 S iv ov mv 1 ww (h.below hb (Nat.le_refl _)) hwf.1; rw [ha] at this; exact this
 obtain ⟨ai, ni, ci, ao, no, co, am, nm', cm, rfl, rfl, rfl⟩ := h.slices
 obtain ⟨a, cap', e1, hai⟩ := h.ins_at2
 cases e1
 obtain ⟨bi, oi, ev, rfl, iI0, hoi, her, hci⟩ := hai 0 x hx
 rw [hd, Nat.zero_mul, Nat.add_zero] at hci
 obtain ⟨iI, -, x1, -, -⟩ := hci w (Below.refl _ _)
 have HCI := Lib.hid hci
 obtain ⟨hxl, -⟩ := gI.1 hx
 have hxlI : (0 : Int) < S.ins.length := by omega
 generalize hp : p1 c = s at *
 generalize hm : n1 c = m at *
 clear h hai her hoi hci hx hwf hr hp hm
 go_enter Tryz.func94, Tryz.ntmps94
 go_upto_region 6 with (go_at_call 141; with_reducible refine (h141 _).mono ?_; rintro e w1 ⟨g, cap, rfl, hb, hcap, hn⟩; have i1 : Bel w w1 := ⟨(bel w _).trans (hb.mono (bel w _).size)⟩; have hB1 := (Keep.of_below hb (fun _ => False)).blk (Blk.new w _ 27) (fun h => h); have HN := Lib.hid hn; clear hb hn)
 obtain ⟨aN, cN, eN, hatN⟩ := HN.out.at_
 simp only [Value.slice.injEq] at eN
 obtain ⟨rfl, -, rfl⟩ := eN
 obtain ⟨bN, oN, hf, -, iN, hcN⟩ := hatN _ (Below.refl _ _) 0 _ rfl
 cases hf
 have n0 := hcN 0 _ rfl
 clear hatN hcN
 simp only [Nat.zero_mul, Nat.add_zero] at n0
 have iL := hB1.lt
 have s0 := hB1.cell 0
 have s1 := hB1.cell 1
 have s2 := hB1.cell 2
 simp at s0 s1 s2
 obtain ⟨iI1, -, z1, -, -⟩ := HCI.out w1 i1.below
 clear hB1 x1 iI
 have hcapI : (1 : Int) ≤ cap := by omega
 have hcap0 : ¬ cap = 0 := by omega
 have wz : IntKind.i64.wrap 0 = 0 := by decide
 refine wp_region_quiet_rest (by kernel_rfl) (by kernel_rfl) (WQ.out ?_)
 repeat
  refine WQ_step (fun K hK => ?_); go_simp
  first
   | (refine hK _ ?_; clear hK K)
   | (apply Exists.intro
      refine ⟨fun _ => ?_, hK _ ?_⟩
      focus ((with_reducible refine calls_in (h143 _ _ _ (bel _ _)) (fun w' hb => ?_); first | exact hb.rest | exact rest1 hb | exact rest2 hb))
      clear hK K)
 refine WQ_nil ?_
 intro w1 hw1
 obtain ⟨p, hw1⟩ := hw1
 subst hw1
 go_wp2_with fail
 refine wp_region_quiet_rest (by kernel_rfl) (by kernel_rfl) (WQ.out ?_)
 repeat
  refine WQ_step (fun K hK => ?_); go_simp
  first
   | (refine hK _ ?_; clear hK K)
   | (apply Exists.intro
      refine ⟨fun _ => ?_, hK _ ?_⟩
      focus ((with_reducible refine calls_in (h51 _ (bel _ _)) (fun w' hb => ?_); first | exact hb.rest | exact rest1 hb | exact rest2 hb))
      clear hK K)
 refine WQ_nil ?_
 intro w1 hw1
 obtain ⟨p, hw1⟩ := hw1
 subst hw1
 go_wp2_with fail
 refine wp_region_quiet_rest (by kernel_rfl) (by kernel_rfl) (WQ.out ?_)
 repeat
  refine WQ_step (fun K hK => ?_); go_simp
  first
   | (refine hK _ ?_; clear hK K)
   | (apply Exists.intro
      refine ⟨fun _ => ?_, hK _ ?_⟩
      focus (fail)
      clear hK K)
 refine WQ_nil ?_
 intro w1 hw1
 obtain ⟨p, hw1⟩ := hw1
 subst hw1
 go_wp2_with fail
 exact bodyPost_ret (v := .tuple #[.int .i64 1, .string m, .int .i64 0]) (by simp [results, Tryz.results94, go_sem]) rfl ⟨rfl, bel _ _⟩
theorem fullF_drop (b : Int) (but : ByteArray) (es : List PEnt) (q : Nat) (e : PEnt) (a : Int) (h : es[q]? = some e) : fullF b but (es.drop q) a = fullF b but (es.drop (q + 1)) (if (!(e.name.toList == but.toList) && bucketR e.name == b) = true then a + 1 else a) := by
 obtain ⟨hl, rfl⟩ := gI.1 h
 rw [List.drop_eq_getElem_cons hl, fullF]
theorem fullF_end (b : Int) (but : ByteArray) (es : List PEnt) (q : Nat) (a : Int) (h : ¬ q < es.length) : fullF b but (es.drop q) a = a := by
 rw [List.drop_of_length_le (by omega), fullF]
theorem full96 (S : PSt) (iv ov mv : Value) (dir : Int) (name but : ByteArray) (K : Nat) (x : PIn) (w : World) (h : StRead w iv ov mv S) (hwf : S.wf) (hat : atR S dir = K) (hx : S.ins[K]? = some x) (hns : name.size ≤ 1000000000) (hes : ∀ e ∈ x.ents, e.name.size ≤ 1000000000) :
 Calls Tryz.prog 96 #[.agg #[iv, ov, mv], .int .i64 dir, .string name, .string but] w fun e w' => e = .returned (.bool (decide (4 ≤ fullF (bucketR name) but x.ents 0))) ∧ Below w.heap.size w w' := by
 have h51 : ∀ ww, Below w.heap.size w ww → Calls Tryz.prog 51 #[.agg #[iv, ov, mv], .int .i64 dir] ww fun e w' => e = .returned (.int .i64 (K : Int)) ∧ Below ww.heap.size ww w' := fun ww hb => by
  have := at51 S iv ov mv dir ww (h.below hb (Nat.le_refl _)) hwf.1; rw [hat] at this; exact this
 obtain ⟨ai, ni, ci, ao, no, co, am, nm', cm, rfl, rfl, rfl⟩ := h.slices
 obtain ⟨a, cap', e1, hai⟩ := h.ins_at2
 cases e1
 obtain ⟨bi, oi, ev, rfl, iI0, hoi, her, hci⟩ := hai K x hx
 have HCI := Lib.hid hci
 obtain ⟨hxl, -⟩ := gI.1 hx
 have hxlI : (K : Int) < S.ins.length := by omega
 have hel := (hwf.2.2.2.1 x (mG hx)).2.1
 obtain ⟨ae, ce, rfl, hae⟩ := her.at_
 rw [lM] at HCI
 have HA := Lib.hid hae
 obtain ⟨R, hR⟩ : ∃ R, fullF (bucketR name) but x.ents 0 = R := ⟨_, rfl⟩
 rw [hR]
 have HR := Lib.hid hR
 have HES := Lib.hid hes
 obtain ⟨xn, xd, xe, xs⟩ := x
 simp only at HCI HA HR HES hel
 obtain ⟨iI, x0, x1, x2, x3⟩ := HCI.out w (Below.refl _ _)
 clear h hai her hoi hci hx hwf hae hR hes
 go_enter Tryz.func96, Tryz.ntmps96
 go_upto_region 2 with fail
 go_cut [10] (fun v10 wx => ∃ g, v10 = .pointer (some ⟨g, 0, none⟩) ∧ Below w.heap.size w wx ∧ Blk wx g #[.int .i64 xn, .bool xd, .slice ae xe.length ce, .string xs] 65)
 case first =>
  go_region_held3 (fun w' => w'.cell? ⟨w.heap.size, 0, none⟩ = some (.slice (some ⟨bi, oi, none⟩) S.ins.length ci) ∧ w'.cell? ⟨w.heap.size, 1, none⟩ = some (.slice ao no co) ∧ w'.cell? ⟨w.heap.size, 2, none⟩ = some (.slice am nm' cm) ∧ w'.cell? ⟨bi, oi + K * 4, none⟩ = some (.int .i64 xn) ∧ w'.cell? ⟨bi, oi + K * 4 + 1, none⟩ = some (.bool xd) ∧ w'.cell? ⟨bi, oi + K * 4 + 2, none⟩ = some (.slice ae xe.length ce) ∧ w'.cell? ⟨bi, oi + K * 4 + 3, none⟩ = some (.string xs))
   (first | (try dsimp only) <;> (repeat' apply And.intro) <;> go_simp)
   (first | (go_at_call 51; refine aT (h51 _ (bel _ _)) fun p => ?_))
  all_goals go_wp2_with fail
  all_goals go_meet
  all_goals (refine ⟨_, rfl, bel _ _, ?_⟩)
  all_goals (repeat (first | exact Blk.new_i _ _ _ _ | refine Blk.alloc ?_ _ | refine Blk.junk ?_ _ | refine Blk.drew ?_))
 case rest =>
  obtain ⟨g, rfl, hbc, hG⟩ := hcut; have HG := Lib.hid (And.intro hG hbc); clear x0 x1 x2 x3 iI hG hbc h51; go_wp2_with fail
  go_loopw [9, 11] (fun v9 i wr => ∃ (q : Nat) (a : Int), i = .int .i64 q ∧ v9 = .int .i64 a ∧ q ≤ xe.length ∧ 0 ≤ a ∧ a ≤ q ∧ fullF (bucketR name) but (xe.drop q) a = R ∧ Below w.heap.size w wr ∧ Blk wr g #[.int .i64 xn, .bool xd, .slice ae xe.length ce, .string xs] 65) (fun _ i _ => (xe.length - intOf i).toNat)
  case atStart => exact ⟨0, 0, rfl, rfl, by omega, by omega, by omega, HR.out, HG.out.2, HG.out.1⟩
  case round =>
   obtain ⟨q, a, rfl, rfl, hq, ha0, haq, hre, hb, hG⟩ := hrel; have iB : Bel w wr := ⟨hb⟩
   have iG := hG.lt; have g2 := hG.cell 2; simp at g2; have HG2 := Lib.hid hG; clear hG; by_cases hlt : q < xe.length
   · obtain ⟨z, hz⟩ : ∃ z, xe[q]? = some z := ⟨_, gE hlt⟩
     rw [fullF_drop _ _ _ q z a hz] at hre; obtain ⟨be, oe, rfl, iE0, iE, hce⟩ := HA.out wr hb q z.cells (by rw [gM, hz]; rfl); have c0 := hce 0 _ rfl; rw [Nat.add_zero] at c0; have hltI : (q : Int) < xe.length := by omega
     have hz9 := HES.out z (mG hz); have h35 : ∀ ww, Calls Tryz.prog 35 #[.string z.name] ww fun e w' => e = .returned (.int .i64 (bucketR z.name)) ∧ Below ww.heap.size ww w' := fun ww => bucket35 z.name hz9 ww
     have h35n : ∀ ww, Calls Tryz.prog 35 #[.string name] ww fun e w' => e = .returned (.int .i64 (bucketR name)) ∧ Below ww.heap.size ww w' := fun ww => bucket35 name hns ww
     generalize hzn : z.name = zn at *; generalize hb1 : (zn.toList == but.toList) = b1 at hre; generalize bucketR zn = k1 at hre h35; generalize bucketR name = k2 at hre h35n; have w1 : IntKind.i64.wrap (a + 1) = a + 1 := I64.wrap ⟨by omega, by omega⟩; clear hce hz hz9; rcases b1 with _ | _
     · by_cases hk : k1 = k2
       · have hkb : (k1 == k2) = true := by simpa using hk
         rw [hkb] at hre; have hre : fullF k2 but (xe.drop (q + 1)) (a + 1) = R := hre; have HRE := Lib.hid hre; clear hre hk; go_wp2_with (first | (go_at_call 35; with_reducible refine aT (h35 _) fun p => ?_) | (go_at_call 35; with_reducible refine aT (h35n _) fun p => ?_))
         go_roundw
         case rel => exact ⟨q + 1, a + 1, by go_num, by go_num, by omega, by omega, by omega, HRE.out, bel _ _, (Keep.of_below (bel wr _) (fun _ => False)).blk HG2.out (fun h => h)⟩
         case measure => simp [intOf]; omega
       · have hkb : (k1 == k2) = false := by simpa using hk
         rw [hkb] at hre; have hre : fullF k2 but (xe.drop (q + 1)) a = R := hre; have HRE := Lib.hid hre; clear hre; go_wp2_with (first | (go_at_call 35; with_reducible refine aT (h35 _) fun p => ?_) | (go_at_call 35; with_reducible refine aT (h35n _) fun p => ?_))
         go_roundw
         case rel => exact ⟨q + 1, a, by go_num, rfl, by omega, by omega, by omega, HRE.out, bel _ _, (Keep.of_below (bel wr _) (fun _ => False)).blk HG2.out (fun h => h)⟩
         case measure => simp [intOf]; omega
     · have hre : fullF k2 but (xe.drop (q + 1)) a = R := hre; have HRE := Lib.hid hre; clear hre; go_wp2_with (first | (go_at_call 35; with_reducible refine aT (h35 _) fun p => ?_) | (go_at_call 35; with_reducible refine aT (h35n _) fun p => ?_))
       go_roundw
       case rel => exact ⟨q + 1, a, by go_num, rfl, by omega, by omega, by omega, HRE.out, bel _ _, (Keep.of_below (bel wr _) (fun _ => False)).blk HG2.out (fun h => h)⟩
       case measure => simp [intOf]; omega
   · rw [fullF_end _ _ _ q a hlt] at hre; subst hre; have hltI : ¬ (q : Int) < xe.length := by omega
     go_wp2_with fail; exact bodyPost_ret (v := .bool (decide (4 ≤ a))) (by simp [results, Tryz.results96, go_sem]) rfl ⟨rfl, bel _ _⟩
def resV (code fd num : Int) : Value := .agg #[.int .i64 code, .int .i64 fd, .int .i64 num, .bool false, .string { data := #[] }, .slice none 0 0]
theorem fail55 (k : Int) (w : World) : Calls Tryz.prog 55 #[.int .i64 k] w fun e w' => e = .returned (resV k 0 0) ∧ Below w.heap.size w w' := by
 go_enter Tryz.func55, Tryz.ntmps55
 go_wp2_with fail
 exact bodyPost_ret (v := resV k 0 0) (by simp [results, Tryz.results55, go_sem, resV]) rfl ⟨rfl, bel _ _⟩
theorem StOwn.on {B : Nat} {w w1 : World} {iv ov mv : Value} {S : PSt} (h : StOwn B w iv ov mv S) (hb : Below w.heap.size w w1) : StOwn B w1 iv ov mv S := h.keep (Keep.of_below hb (fun _ => False)) (fun _ h => h.elim)
theorem StOwn.setOp {B : Nat} {w : World} {iv ov ov' mv : Value} {S : PSt} {zs : List PDesc} (h : StOwn B w iv ov mv S) (ho : OwnP B w 88 3 ov' (zs.map PDesc.cells)) : StOwn B w iv ov' mv { S with op := zs } := ⟨ho, h.2⟩
def aheadD (core fd : Int) (o : PDesc) : Bool := decide (core < o.core) || ((o.core == core) && decide (fd < o.fd))
theorem grab100 (B b : Nat) (S : PSt) (iv ov mv : Value) (core fd num : Int) (w : World) (hb : Blk w b #[iv, ov, mv] 27) (ho : StOwn B w iv ov mv S) (hB : B ≤ w.heap.size) (hBb : B ≤ b) (hol : S.op.length ≤ 1000000000) :
 Calls Tryz.prog 100 #[.pointer (some ⟨b, 0, none⟩), .int .i64 core, .int .i64 fd, .int .i64 num] w fun e w' => e = .returned (.tuple #[]) ∧ Below B w w' ∧ Keep (fun g => g = b) w w' ∧ ∃ ov', Blk w' b #[iv, ov', mv] 27 ∧ StOwn B w' iv ov' mv { S with op := insF (aheadD core fd) ⟨core, fd, num⟩ S.op false [] } := by
 have hone := ho.2.1.one
 obtain ⟨ai, ni, ci, ao, no, co, am, nm', cm, rfl, rfl, rfl⟩ := ho.read.slices
 obtain ⟨a, cap', e1, hat⟩ := ho.read.1.at_
 rw [lM] at e1
 cases e1
 have HA := Lib.hid hat
 obtain ⟨R, hR⟩ : ∃ R, insF (aheadD core fd) ⟨core, fd, num⟩ S.op false [] = R := ⟨_, rfl⟩
 rw [hR]
 have HR := Lib.hid hR
 have hst : ∀ w2, Below w.heap.size w w2 → BlockLt b w2 ∧ w2.cell? ⟨b, 1, none⟩ = some (.slice ao S.op.length co) ∧ w2.frozen? ⟨b, 1, none⟩ = false := by
  intro w2 h2; have h3 := (Keep.of_below h2 (fun _ => False)).blk hb (fun h => h); have c1 := h3.cell 1; simp at c1; exact ⟨h3.lt, c1, h3.frozen 1⟩
 have HST := Lib.hid hst
 have HH := Lib.hid (And.intro hb ho)
 clear hat hR hst ho hb hone
 go_enter Tryz.func100, Tryz.ntmps100
 go_wp2_with fail
 go_loopw [9, 10, 11] (fun v9 v10 i wr => ∃ (q : Nat) (d : Bool) (zs : List PDesc), i = .int .i64 q ∧ v10 = .bool d ∧ q ≤ S.op.length ∧ zs.length ≤ 2 * q ∧ OwnP (w.heap.size + 1) wr 88 3 v9 (zs.map PDesc.cells) ∧ insF (aheadD core fd) ⟨core, fd, num⟩ (S.op.drop q) d zs = R ∧ Below w.heap.size w wr ∧ Blk wr w.heap.size #[.int .i64 core, .int .i64 fd, .int .i64 num] 88) (fun _ _ i _ => (S.op.length - intOf i).toNat)
 case atStart => exact ⟨0, false, [], rfl, rfl, by omega, by simp, .inl ⟨rfl, rfl⟩, HR.out, bel _ _, Blk.new w _ 88⟩
 case round =>
  obtain ⟨q, d, zs, rfl, rfl, hq, hzl, hO, hre, hbw, hd8⟩ := hrel; have iB : Bel w wr := ⟨hbw⟩
  have iD := hd8.lt; have hB1 : w.heap.size + 1 ≤ wr.heap.size := iD.lt; obtain ⟨iL, y1, yf⟩ := HST.out wr hbw; have e0 := hd8.cell 0; have e1 := hd8.cell 1; have e2 := hd8.cell 2; simp at e0 e1 e2; obtain ⟨va, vc, rfl⟩ := hO.formL; generalize hzn : (zs.map PDesc.cells).length = zn at hO ⊢; have HO := Lib.hid (And.intro hO (And.intro hzn hd8)); clear hO hzn hd8; by_cases hlt : q < S.op.length
  · obtain ⟨z, hz⟩ : ∃ z, S.op[q]? = some z := ⟨_, gE hlt⟩
    rw [insF_drop _ _ _ q z d zs hz] at hre; obtain ⟨be, oe, rfl, iE0, iE, hce⟩ := HA.out wr hbw q z.cells (by rw [gM, hz]; rfl); have c0 := hce 0 _ rfl; have c1 := hce 1 _ rfl; have c2 := hce 2 _ rfl; rw [Nat.add_zero] at c0; have hltI : (q : Int) < S.op.length := by omega
    clear hce hz; obtain ⟨zc, zf, zm⟩ := z; simp only at c0 c1 c2; rcases d with _ | _
    · rw [if_neg (by decide)] at hre; by_cases hA : core < zc
      · have ha : aheadD core fd ⟨zc, zf, zm⟩ = true := by simp [aheadD, hA]
        rw [ha, if_pos rfl] at hre; have HRE := Lib.hid hre; have hcz : ∀ w2, Below w.heap.size w w2 → BlockLt be w2 := by
         intro w2 h2; exact ⟨Nat.lt_of_lt_of_le iE0.lt h2.size⟩
        clear hre; go_wp2_with (at_builtin; refine app88 rfl (.tmp 53) (.tmp 55) rfl (w.heap.size + 1) _ _ zs [⟨core, fd, num⟩] rfl (by go_simp) (HO.out.1.below (bel wr _)) (RowAt.single (Blk.new_i _ _ _ _) 3 1) (by simp; omega) (Nat.le_trans hB1 (bel wr _).size) ?_)
        intro v' w' hg; have hbg := hg.on (HO.out.1.below (bel wr _)) (Nat.le_trans hB1 (bel wr _).size); have hb2 := (bel w _).trans (hbg.mono (Nat.le_succ _)); have hO2 : OwnP (w.heap.size + 1) w' 88 3 v' ((zs ++ [(⟨core, fd, num⟩ : PDesc)]).map PDesc.cells) := by have := hg.1; simpa using this
        have hd2 := hg.2.1.blk ((Keep.of_below (bel wr _) (fun _ => False)).blk HO.out.2.2 (fun h => h)) (fun h => by have := HO.out.1.ge h; omega); have hz2 := hg.2.1.blk (Blk.alloc (Blk.new_i wr #[.int .i64 zc, .int .i64 zf, .int .i64 zm] 88 wr.heap.size) _) (fun h => by have := HO.out.1.lt h; omega); have i2 : Bel w w' := ⟨hb2⟩
        have iD2 := hd2.lt; have iZ2 := hz2.lt; have f0 := hz2.cell 0; have f1 := hz2.cell 1; have f2 := hz2.cell 2; simp at f0 f1 f2; have hB2 : w.heap.size + 1 ≤ w'.heap.size := iD2.lt; have H2 := Lib.hid (And.intro hO2 hd2); clear hg hbg hO2 hd2 hz2 c0 c1 c2 iE e0 e1 e2 iD y1 yf iL; go_wp2_with (at_builtin; refine app88 rfl (.tmp 57) (.tmp 59) rfl (w.heap.size + 1) _ _ (zs ++ [(⟨core, fd, num⟩ : PDesc)]) [⟨zc, zf, zm⟩] rfl (by go_simp) (H2.out.1.below (bel w' _)) (RowAt.single (Blk.new_i _ _ _ _) 3 1) (by simp; omega) (Nat.le_trans hB2 (bel w' _).size) ?_)
        intro v2 w2 hg; have hbg := hg.on (H2.out.1.below (bel w' _)) (Nat.le_trans hB2 (bel w' _).size); have hb3 := (bel w _).trans (hbg.mono (Nat.le_succ _)); have hO3 : OwnP (w.heap.size + 1) w2 88 3 v2 ((zs ++ [(⟨core, fd, num⟩ : PDesc)] ++ [(⟨zc, zf, zm⟩ : PDesc)]).map PDesc.cells) := by have := hg.1; simpa using this
        have hd3 := hg.2.1.blk ((Keep.of_below (bel w' _) (fun _ => False)).blk H2.out.2 (fun h => h)) (fun h => by have := H2.out.1.ge h; omega); have H3 := Lib.hid (And.intro hO3 (And.intro hb3 hd3)); clear hg hbg hO3 hb3 hd3; go_wp2_with fail
        go_roundw
        case rel => exact ⟨q + 1, true, _, by go_num, rfl, by omega, by simp; omega, H3.out.1, HRE.out, H3.out.2.1, H3.out.2.2⟩
        case measure => simp [intOf]; omega
      · by_cases hC : zc = core
        · subst hC; by_cases hF : fd < zf
          · have ha : aheadD zc fd ⟨zc, zf, zm⟩ = true := by simp [aheadD, hF]
            rw [ha, if_pos rfl] at hre; have HRE := Lib.hid hre; have hcz : ∀ w2, Below w.heap.size w w2 → BlockLt be w2 := by
             intro w2 h2; exact ⟨Nat.lt_of_lt_of_le iE0.lt h2.size⟩
            clear hre; go_wp2_with (at_builtin; refine app88 rfl (.tmp 53) (.tmp 55) rfl (w.heap.size + 1) _ _ zs [⟨zc, fd, num⟩] rfl (by go_simp) (HO.out.1.below (bel wr _)) (RowAt.single (Blk.new_i _ _ _ _) 3 1) (by simp; omega) (Nat.le_trans hB1 (bel wr _).size) ?_)
            intro v' w' hg; have hbg := hg.on (HO.out.1.below (bel wr _)) (Nat.le_trans hB1 (bel wr _).size); have hb2 := (bel w _).trans (hbg.mono (Nat.le_succ _)); have hO2 : OwnP (w.heap.size + 1) w' 88 3 v' ((zs ++ [(⟨zc, fd, num⟩ : PDesc)]).map PDesc.cells) := by have := hg.1; simpa using this
            have hd2 := hg.2.1.blk ((Keep.of_below (bel wr _) (fun _ => False)).blk HO.out.2.2 (fun h => h)) (fun h => by have := HO.out.1.ge h; omega); have hz2 := hg.2.1.blk (Blk.alloc (Blk.new_i wr #[.int .i64 zc, .int .i64 zf, .int .i64 zm] 88 wr.heap.size) _) (fun h => by have := HO.out.1.lt h; omega); have i2 : Bel w w' := ⟨hb2⟩
            have iD2 := hd2.lt; have iZ2 := hz2.lt; have f0 := hz2.cell 0; have f1 := hz2.cell 1; have f2 := hz2.cell 2; simp at f0 f1 f2; have hB2 : w.heap.size + 1 ≤ w'.heap.size := iD2.lt; have H2 := Lib.hid (And.intro hO2 hd2); clear hg hbg hO2 hd2 hz2 c0 c1 c2 iE e0 e1 e2 iD y1 yf iL; go_wp2_with (at_builtin; refine app88 rfl (.tmp 57) (.tmp 59) rfl (w.heap.size + 1) _ _ (zs ++ [(⟨zc, fd, num⟩ : PDesc)]) [⟨zc, zf, zm⟩] rfl (by go_simp) (H2.out.1.below (bel w' _)) (RowAt.single (Blk.new_i _ _ _ _) 3 1) (by simp; omega) (Nat.le_trans hB2 (bel w' _).size) ?_)
            intro v2 w2 hg; have hbg := hg.on (H2.out.1.below (bel w' _)) (Nat.le_trans hB2 (bel w' _).size); have hb3 := (bel w _).trans (hbg.mono (Nat.le_succ _)); have hO3 : OwnP (w.heap.size + 1) w2 88 3 v2 ((zs ++ [(⟨zc, fd, num⟩ : PDesc)] ++ [(⟨zc, zf, zm⟩ : PDesc)]).map PDesc.cells) := by have := hg.1; simpa using this
            have hd3 := hg.2.1.blk ((Keep.of_below (bel w' _) (fun _ => False)).blk H2.out.2 (fun h => h)) (fun h => by have := H2.out.1.ge h; omega); have H3 := Lib.hid (And.intro hO3 (And.intro hb3 hd3)); clear hg hbg hO3 hb3 hd3; go_wp2_with fail
            go_roundw
            case rel => exact ⟨q + 1, true, _, by go_num, rfl, by omega, by simp; omega, H3.out.1, HRE.out, H3.out.2.1, H3.out.2.2⟩
            case measure => simp [intOf]; omega
          · have ha : aheadD zc fd ⟨zc, zf, zm⟩ = false := by simp [aheadD, hF]
            rw [ha, if_neg (by decide)] at hre; have HRE := Lib.hid hre; clear hre; go_wp2_with (at_builtin; refine app88 rfl (.tmp 57) (.tmp 59) rfl (w.heap.size + 1) _ _ zs [⟨zc, zf, zm⟩] rfl (by go_simp) (HO.out.1.below (bel wr _)) (RowAt.single (Blk.new_i _ _ _ _) 3 1) (by simp; omega) (Nat.le_trans hB1 (bel wr _).size) ?_)
            intro v' w' hg; have hbg := hg.on (HO.out.1.below (bel wr _)) (Nat.le_trans hB1 (bel wr _).size); have hb2 := (bel w _).trans (hbg.mono (Nat.le_succ _)); have hO2 : OwnP (w.heap.size + 1) w' 88 3 v' ((zs ++ [(⟨zc, zf, zm⟩ : PDesc)]).map PDesc.cells) := by have := hg.1; simpa using this
            have hd2 := hg.2.1.blk ((Keep.of_below (bel wr _) (fun _ => False)).blk HO.out.2.2 (fun h => h)) (fun h => by have := HO.out.1.ge h; omega); have H2 := Lib.hid (And.intro hO2 (And.intro hb2 hd2)); clear hg hbg hO2 hb2 hd2; go_wp2_with fail
            go_roundw
            case rel => exact ⟨q + 1, false, _, by go_num, rfl, by omega, by simp; omega, H2.out.1, HRE.out, H2.out.2.1, H2.out.2.2⟩
            case measure => simp [intOf]; omega
        · have hCb : (zc == core) = false := by simpa using hC
          have ha : aheadD core fd ⟨zc, zf, zm⟩ = false := by simp [aheadD, hA, hC]
          rw [ha, if_neg (by decide)] at hre; have HRE := Lib.hid hre; clear hre; go_wp2_with (at_builtin; refine app88 rfl (.tmp 57) (.tmp 59) rfl (w.heap.size + 1) _ _ zs [⟨zc, zf, zm⟩] rfl (by go_simp) (HO.out.1.below (bel wr _)) (RowAt.single (Blk.new_i _ _ _ _) 3 1) (by simp; omega) (Nat.le_trans hB1 (bel wr _).size) ?_)
          intro v' w' hg; have hbg := hg.on (HO.out.1.below (bel wr _)) (Nat.le_trans hB1 (bel wr _).size); have hb2 := (bel w _).trans (hbg.mono (Nat.le_succ _)); have hO2 : OwnP (w.heap.size + 1) w' 88 3 v' ((zs ++ [(⟨zc, zf, zm⟩ : PDesc)]).map PDesc.cells) := by have := hg.1; simpa using this
          have hd2 := hg.2.1.blk ((Keep.of_below (bel wr _) (fun _ => False)).blk HO.out.2.2 (fun h => h)) (fun h => by have := HO.out.1.ge h; omega); have H2 := Lib.hid (And.intro hO2 (And.intro hb2 hd2)); clear hg hbg hO2 hb2 hd2; go_wp2_with fail
          go_roundw
          case rel => exact ⟨q + 1, false, _, by go_num, rfl, by omega, by simp; omega, H2.out.1, HRE.out, H2.out.2.1, H2.out.2.2⟩
          case measure => simp [intOf]; omega
    · rw [if_pos rfl] at hre; have HRE := Lib.hid hre; clear hre; go_wp2_with (at_builtin; refine app88 rfl (.tmp 57) (.tmp 59) rfl (w.heap.size + 1) _ _ zs [⟨zc, zf, zm⟩] rfl (by go_simp) (HO.out.1.below (bel wr _)) (RowAt.single (Blk.new_i _ _ _ _) 3 1) (by simp; omega) (Nat.le_trans hB1 (bel wr _).size) ?_)
      intro v' w' hg; have hbg := hg.on (HO.out.1.below (bel wr _)) (Nat.le_trans hB1 (bel wr _).size); have hb2 := (bel w _).trans (hbg.mono (Nat.le_succ _)); have hO2 : OwnP (w.heap.size + 1) w' 88 3 v' ((zs ++ [(⟨zc, zf, zm⟩ : PDesc)]).map PDesc.cells) := by have := hg.1; simpa using this
      have hd2 := hg.2.1.blk ((Keep.of_below (bel wr _) (fun _ => False)).blk HO.out.2.2 (fun h => h)) (fun h => by have := HO.out.1.ge h; omega); have H2 := Lib.hid (And.intro hO2 (And.intro hb2 hd2)); clear hg hbg hO2 hb2 hd2; go_wp2_with fail
      go_roundw
      case rel => exact ⟨q + 1, true, _, by go_num, rfl, by omega, by simp; omega, H2.out.1, HRE.out, H2.out.2.1, H2.out.2.2⟩
      case measure => simp [intOf]; omega
  · rw [insF_end _ _ _ q d zs hlt] at hre; have hltI : ¬ (q : Int) < S.op.length := by omega
    have hfin : ∀ (w1 : World) (v : Value), OwnP (w.heap.size + 1) w1 88 3 v (R.map PDesc.cells) → Below w.heap.size w w1 → Below B w (w1.setCell ⟨b, 1, none⟩ v) ∧ Keep (fun g => g = b) w (w1.setCell ⟨b, 1, none⟩ v) ∧ ∃ ov', Blk (w1.setCell ⟨b, 1, none⟩ v) b #[.slice ai ni ci, ov', .slice am nm' cm] 27 ∧ StOwn B (w1.setCell ⟨b, 1, none⟩ v) (.slice ai ni ci) ov' (.slice am nm' cm) { S with op := R } := by
     intro w1 v h1 h2; obtain ⟨hb, ho⟩ := HH.out; have hb1 := (Keep.of_below h2 (fun _ => False)).blk hb (fun h => h); have hK : Keep (fun g => g = b) w1 (w1.setCell ⟨b, 1, none⟩ v) := Keep.setCell (S := fun g => g = b) (p := ⟨b, 1, none⟩) (Keep.refl _ _) (.inl rfl) _; have hK0 : Keep (fun g => g = b) w (w1.setCell ⟨b, 1, none⟩ v) := (Keep.of_below h2 (fun g => g = b)).trans hK (fun _ _ h => h); refine ⟨hK0.below hB (fun i hi h => by omega), hK0, v, hb1.set_ 1 v, ?_⟩; have h3 := (ho.on h2).setOp (h1.mono (by omega)); exact h3.keep hK (fun g hg => by rw [hg]; exact ⟨_, 27, hb1, by decide, by decide, by decide, by decide⟩)
    have HFIN := Lib.hid hfin; clear hfin; rcases d with _ | _
    · rw [if_neg (by decide)] at hre; have HRE := Lib.hid hre; clear hre; go_wp2_with (at_builtin; refine app88 rfl (.tmp 63) (.tmp 65) rfl (w.heap.size + 1) _ _ zs [⟨core, fd, num⟩] rfl (by go_simp) (HO.out.1.below (bel wr _)) (RowAt.single (Blk.new_i _ _ _ _) 3 1) (by simp; omega) (Nat.le_trans hB1 (bel wr _).size) ?_)
      intro v' w' hg; have hbg := hg.on (HO.out.1.below (bel wr _)) (Nat.le_trans hB1 (bel wr _).size); have hb2 := (bel w _).trans (hbg.mono (Nat.le_succ _)); have i2 : Bel w w' := ⟨hb2⟩
      obtain ⟨iL2, z1, zf1⟩ := HST.out w' hb2; have hO2 : OwnP (w.heap.size + 1) w' 88 3 v' ((zs ++ [(⟨core, fd, num⟩ : PDesc)]).map PDesc.cells) := by have := hg.1; simpa using this
      rw [HRE.out] at hO2; have hf := HFIN.out w' v' hO2 hb2; obtain ⟨va2, vc2, rfl⟩ := hO2.formL; generalize (R.map PDesc.cells).length = zn2 at hf ⊢; have HF := Lib.hid hf; clear hg hbg hO2 hb2 hf y1 yf iL e0 e1 e2 iD; go_wp2_with fail; exact bodyPost_end (v := .tuple #[]) (by simp [results, go_sem]) rfl ⟨rfl, HF.out⟩
    · rw [if_pos rfl] at hre; subst hre; have hf := HFIN.out wr _ HO.out.1 hbw; have HF := Lib.hid hf; clear hf; go_wp2_with fail; exact bodyPost_end (v := .tuple #[]) (by simp [results, go_sem]) rfl ⟨rfl, HF.out⟩
structure CpAt (w0 wr : World) (iv ov mv v0 : Value) (S : PSt) (q : Nat) (is : List IRec) : Prop where
 b0 : Blk wr w0.heap.size #[iv, ov, mv] 27
 b1 : Blk wr (w0.heap.size + 1) #[.slice none 0 0, .slice none 0 0, .slice none 0 0] 27
 b2 : Blk wr (w0.heap.size + 1 + 1) #[v0, .slice none 0 0, .slice none 0 0] 27
 own : OwnP (w0.heap.size + 3) wr 65 4 v0 (is.map IRec.cells)
 len : is.length = q
 each : ∀ (j : Nat) (r : IRec) (x : PIn), is[j]? = some r → S.ins[j]? = some x → r.num = x.num ∧ r.dir = x.dir ∧ r.data = x.data ∧ OwnP (w0.heap.size + 3) wr 99 2 r.ev (x.ents.map PEnt.cells)
 apart : ∀ (p q : Nat) (r r' : IRec), p ≠ q → is[p]? = some r → is[q]? = some r' → ∀ g, r.ev.ownBlock = some g → r'.ev.ownBlock ≠ some g
 below : Below w0.heap.size w0 wr
theorem blk_on {w w' : World} {b : Nat} {c : Array Value} {t : TypeId} (h : Blk w b c t) (hb : Below w.heap.size w w') : Blk w' b c t := (Keep.of_below hb (fun _ => False)).blk h (fun h => h)
theorem CpAt.on {w0 wr w' : World} {iv ov mv v0 : Value} {S : PSt} {q : Nat} {is : List IRec} (h : CpAt w0 wr iv ov mv v0 S q is) (hb : Below wr.heap.size wr w') : CpAt w0 w' iv ov mv v0 S q is :=
 ⟨blk_on h.b0 hb, blk_on h.b1 hb, blk_on h.b2 hb, h.own.below hb, h.len, fun j r x hr hx => by
  obtain ⟨a1, a2, a3, a4⟩ := h.each j r x hr hx; exact ⟨a1, a2, a3, a4.below hb⟩, h.apart, h.below.trans (hb.mono h.below.size)⟩
theorem CpAt.step {w0 wr wC w2 : World} {iv ov mv v0 v0' : Value} {S : PSt} {q : Nat} {is : List IRec} (h : CpAt w0 wr iv ov mv v0 S q is) {r : IRec} {x : PIn} (hx : S.ins[q]? = some x) (hn : r.num = x.num ∧ r.dir = x.dir ∧ r.data = x.data) (hC : Below wr.heap.size wr wC) (hv : OwnP (w0.heap.size + 3) wC 99 2 r.ev (x.ents.map PEnt.cells)) (hf : ∀ g, r.ev.ownBlock = some g → wr.heap.size ≤ g)
 (hg : Grew (w0.heap.size + 3) 65 4 wC v0 ((is ++ [r]).map IRec.cells) v0' w2) : CpAt w0 (w2.setCell ⟨w0.heap.size + 1 + 1, 0, none⟩ v0') iv ov mv v0' S (q + 1) (is ++ [r]) := by
 have hc := h.on hC
 obtain ⟨g1, g2, g3⟩ := hg
 have hlt2 := hc.b2.lt.lt
 have k2 : Keep (fun g => g = w0.heap.size + 1 + 1) w2 (w2.setCell ⟨w0.heap.size + 1 + 1, 0, none⟩ v0') := Keep.setCell (S := fun g => g = w0.heap.size + 1 + 1) (p := ⟨w0.heap.size + 1 + 1, 0, none⟩) (Keep.refl _ _) (.inl rfl) _
 have nv : ∀ b, b < w0.heap.size + 3 → ¬ v0.ownBlock = some b := fun b hb e => by have := hc.own.ge e; omega
 have ev : ∀ {v : Value} {rows : List (List Value)}, OwnP (w0.heap.size + 3) wC 99 2 v rows → OwnP (w0.heap.size + 3) (w2.setCell ⟨w0.heap.size + 1 + 1, 0, none⟩ v0') 99 2 v rows := by
  intro v rows ho; have h1 := ho.keep g2 (fun g hg e => by
   rcases hc.own with ⟨h0, _⟩ | ⟨g', cap, arr, h0, _, hb', _⟩
   · rw [h0] at e; simp [Value.ownBlock] at e
   · rw [h0] at e; simp [Value.ownBlock] at e; subst e; exact ho.ne_blk hb' (by decide) hg rfl)
  exact h1.keep k2 (fun g hg e => by have := h1.ge hg; omega)
 have hbB : Below w0.heap.size w0 (w2.setCell ⟨w0.heap.size + 1 + 1, 0, none⟩ v0') := by
  have h1 := hc.below; have h2 := g2.below (B := w0.heap.size) h1.size (fun i hi e => nv i (by omega) e); have h3 := k2.below (B := w0.heap.size) (Nat.le_trans h1.size h2.size) (fun i hi e => by omega); exact (h1.trans h2).trans h3
 refine ⟨k2.blk (g2.blk hc.b0 (nv _ (by omega))) (by omega), k2.blk (g2.blk hc.b1 (nv _ (by omega))) (by omega), (g2.blk hc.b2 (nv _ (by omega))).set_ 0 v0', g1.keep k2 (fun g hg e => by have := g1.ge hg; omega), by simp [h.len], ?_, ?_, hbB⟩
 · intro j r' x' hr hx'; by_cases hj : j < is.length
   · rw [List.getElem?_append_left hj] at hr; obtain ⟨a1, a2, a3, a4⟩ := hc.each j r' x' hr hx'; exact ⟨a1, a2, a3, ev a4⟩
   · rw [List.getElem?_append_right (by omega)] at hr; have : j = q := by
      obtain ⟨hl, _⟩ := gI.1 hr; have := h.len; simp at hl; omega
     subst this; rw [h.len, Nat.sub_self] at hr; simp at hr; subst hr; rw [hx] at hx'; cases hx'; exact ⟨hn.1, hn.2.1, hn.2.2, ev hv⟩
 · intro p1 q1 r1 r2 hne h1 h2 g e1 e2; have old : ∀ (p : Nat) (rr : IRec), (is ++ [r])[p]? = some rr → (p < is.length ∧ is[p]? = some rr) ∨ (p = is.length ∧ rr = r) := by
    intro p rr hp; by_cases hj : p < is.length
    · rw [List.getElem?_append_left hj] at hp; exact .inl ⟨hj, hp⟩
    · rw [List.getElem?_append_right (by omega)] at hp; obtain ⟨hl, _⟩ := gI.1 hp; simp at hl; have : p = is.length := by omega
      subst this; simp at hp; exact .inr ⟨rfl, hp.symm⟩
   have lt : ∀ (p : Nat) (rr : IRec), is[p]? = some rr → ∀ g, rr.ev.ownBlock = some g → g < wr.heap.size := by
    intro p rr hp g hg; obtain ⟨hl, _⟩ := gI.1 hp; obtain ⟨hq, _⟩ := gI.1 hx; have hlq := h.len; exact (h.each p rr _ hp (gE (by omega))).2.2.2.lt hg
   rcases old p1 r1 h1 with ⟨hl1, h1'⟩ | ⟨e3, rfl⟩
   · rcases old q1 r2 h2 with ⟨hl2, h2'⟩ | ⟨e4, rfl⟩
     · exact h.apart p1 q1 r1 r2 hne h1' h2' g e1 e2
     · have := lt _ _ h1' g e1; have := hf g e2; omega
   · rcases old q1 r2 h2 with ⟨hl2, h2'⟩ | ⟨e4, rfl⟩
     · have := lt _ _ h2' g e2; have := hf g e1; omega
     · omega
theorem StOwn.setMd {B : Nat} {w : World} {iv ov mv mv' : Value} {S : PSt} {zs : List Int} (h : StOwn B w iv ov mv S) (ho : OwnP B w 3 1 mv' (zs.map intCells)) : StOwn B w iv ov mv' { S with made := zs } := ⟨h.1, ho, h.2.2⟩
theorem copy54 (S : PSt) (iv ov mv : Value) (w : World) (h : StRead w iv ov mv S) (hwf : S.wf) :
 Calls Tryz.prog 54 #[.agg #[iv, ov, mv]] w fun e w' => ∃ iv' ov' mv', e = .returned (.agg #[iv', ov', mv']) ∧ Below w.heap.size w w' ∧ StOwn w.heap.size w' iv' ov' mv' S := by
 obtain ⟨h1, h2, h3⟩ := And.intro h.1 (And.intro h.2.1 h)
 obtain ⟨ai, ni, ci, ao, no, co, am, nm, cm, rfl, rfl, rfl⟩ := h.slices
 obtain ⟨a, cap, e1, hai⟩ := h.ins_at2
 cases e1
 have HI := Lib.hid hai
 have HWF := Lib.hid hwf
 have HR := Lib.hid (And.intro h1 h2)
 clear h h1 h2 h3 hai hwf
 go_enter Tryz.func54, Tryz.ntmps54
 go_wp2_with fail
 go_loopw [4] (fun i wr => ∃ (q : Nat) (is : List IRec) (v0 : Value), i = .int .i64 q ∧ q ≤ S.ins.length ∧ CpAt w wr (.slice ai S.ins.length ci) (.slice ao no co) (.slice am nm cm) v0 S q is) (fun i _ => (S.ins.length - intOf i).toNat)
 case atStart =>
  refine ⟨0, [], .slice none 0 0, rfl, by omega, ⟨?_, ?_, ?_, .inl ⟨rfl, rfl⟩, rfl, fun j r x hr => by simp at hr, fun p q r r' _ hr => by simp at hr, bel _ _⟩⟩
  · exact ((Blk.new w _ 27).alloc _).alloc _
  · exact (Blk.new_i _ _ _ _).alloc _
  · exact Blk.new_i _ _ _ _
 case round =>
  obtain ⟨q, is, v0, rfl, hq, hc⟩ := hrel; have iB : Bel w wr := ⟨hc.below⟩
  have i0 := hc.b0.lt; have i1 := hc.b1.lt; have i2 := hc.b2.lt; have s0 := hc.b0.cell 0; have s1 := hc.b0.cell 1; have s2 := hc.b0.cell 2; have t0 := hc.b2.cell 0; have t1 := hc.b2.cell 1; have t2 := hc.b2.cell 2; simp at s0 s1 s2 t0 t1 t2; obtain ⟨va, vn, vc, rfl⟩ := hc.own.form; have HC := Lib.hid hc; clear hc; by_cases hlt : q < S.ins.length
  · obtain ⟨x, hx⟩ : ∃ x, S.ins[q]? = some x := ⟨_, gE hlt⟩
    obtain ⟨bi, oi, ev, rfl, iI0, hoi, her, hci⟩ := HI.out q x hx; obtain ⟨iI, x0, x1, x2, x3⟩ := hci wr iB.below; have hel := (HWF.out.2.2.2.1 x (mG hx)).2.1; have hltI : (q : Int) < S.ins.length := by omega
    obtain ⟨ae, ce, rfl, -⟩ := her.at_; rw [lM] at x2; have HE := Lib.hid (And.intro her hx); obtain ⟨xn, xd, xe, xs⟩ := x; simp only at x0 x1 x2 x3 hel; clear hci hoi her hx; have hBr : w.heap.size + 3 ≤ wr.heap.size := i2.lt; have hil : is.length = q := HC.out.len; have hil9 : S.ins.length ≤ 1000000000 := HWF.out.1; have hown0 : OwnP wr.heap.size ((wr.alloc (.cells #[.int .i64 xn, .bool xd, .slice ae xe.length ce, .string xs] 65)).alloc (.cells #[] 99)) 99 2 (.slice (some ⟨wr.heap.size + 1, 0, none⟩) 0 0) (([] : List PEnt).map PEnt.cells) :=
     .inr ⟨_, 0, #[], rfl, by omega, Blk.new_i _ _ _ _, by simp, by unfold maxLen; omega, by simp, fun q cs h => by simp at h⟩
    go_wp2_with (at_builtin; refine app99 rfl (.tmp 18) (.tmp 20) rfl wr.heap.size _ _ [] xe rfl (by go_simp) hown0 (HE.out.1.below (bel w _) (Nat.le_refl _)) (by simp; omega) (bel wr _).size ?_)
    intro v' w' hg; have hbg := hg.on hown0 (bel wr _).size; have hb2 : Below wr.heap.size wr w' := (bel wr _).trans hbg; have hO2 : OwnP wr.heap.size w' 99 2 v' (xe.map PEnt.cells) := by have := hg.1; simpa using this
    have hbx := hg.2.1.blk ((Blk.new wr #[.int .i64 xn, .bool xd, .slice ae xe.length ce, .string xs] 65).alloc _) (fun h => by simp [Value.ownBlock] at h); have hc2 := HC.out.on hb2; have iB2 : Bel w w' := ⟨hc2.below⟩
    have iR2 : Bel wr w' := ⟨hb2⟩
    have iG2 : BlockGe wr.heap.size wr := ⟨Nat.le_refl _⟩
    have iX := hbx.lt; have j0 := hc2.b0.lt; have j1 := hc2.b1.lt; have j2 := hc2.b2.lt; have u0 := hc2.b2.cell 0; have y0 := hbx.cell 0; have y1 := hbx.cell 1; have y2 := hbx.cell 2; have y3 := hbx.cell 3; have yf := hbx.frozen 2; simp at u0 y0 y1 y2 y3; obtain ⟨va2, vc2, rfl⟩ := hO2.formL; generalize (xe.map PEnt.cells).length = zn2 at hO2 ⊢; have H2 := Lib.hid (And.intro hO2 (And.intro hb2 hbx)); clear hg hbg hO2 hb2 hbx hc2 hown0 s0 s1 s2 t0 t1 t2 x0 x1 x2 x3 iI i0 i1 i2; have hneb : wr.heap.size ≠ w.heap.size + 1 + 1 := by omega
    have hneb2 : w.heap.size + 1 + 1 ≠ wr.heap.size := by omega
    go_wp2_with (at_builtin; refine app65 rfl (.tmp 24) (.tmp 26) rfl (w.heap.size + 3) _ _ is [⟨xn, xd, .slice va2 zn2 vc2, xs, rfl⟩] rfl (by go_simp) (HC.out.on (bel wr _)).own (RowAt.single (Blk.new_i _ _ _ _) 4 1) (by simp; omega) (Nat.le_trans hBr (bel wr _).size) ?_)
    intro v2 w2 hg2; have hC : Below wr.heap.size wr ((w'.setCell ⟨wr.heap.size, 2, none⟩ (.slice va2 zn2 vc2)).alloc (.cells #[.int .i64 xn, .bool xd, .slice va2 zn2 vc2, .string xs] 65)) := bel wr _; have hg2' : Grew (w.heap.size + 3) 65 4 ((w'.setCell ⟨wr.heap.size, 2, none⟩ (.slice va2 zn2 vc2)).alloc (.cells #[.int .i64 xn, .bool xd, .slice va2 zn2 vc2, .string xs] 65)) (.slice va vn vc) ((is ++ [(⟨xn, xd, .slice va2 zn2 vc2, xs, rfl⟩ : IRec)]).map IRec.cells) v2 w2 := by simpa using hg2
    have hvv : OwnP wr.heap.size ((w'.setCell ⟨wr.heap.size, 2, none⟩ (.slice va2 zn2 vc2)).alloc (.cells #[.int .i64 xn, .bool xd, .slice va2 zn2 vc2, .string xs] 65)) 99 2 (.slice va2 zn2 vc2) (xe.map PEnt.cells) := by
     have hK : Keep (fun g => g = wr.heap.size) w' (w'.setCell ⟨wr.heap.size, 2, none⟩ (.slice va2 zn2 vc2)) := Keep.setCell (S := fun g => g = wr.heap.size) (p := ⟨wr.heap.size, 2, none⟩) (Keep.refl _ _) (.inl rfl) _; exact (H2.out.1.keep hK (fun g hg e => H2.out.1.ne_blk H2.out.2.2 (by decide) hg e)).below (bel _ _)
    have hs := HC.out.step (r := ⟨xn, xd, .slice va2 zn2 vc2, xs, rfl⟩) HE.out.2 ⟨rfl, rfl, rfl⟩ hC (hvv.mono hBr) (fun g hg => hvv.ge hg) hg2'; have hb3 := hg2'.2.1.blk (HC.out.on hC).b2 (fun e => by have := HC.out.own.ge e; omega); have l3 := hb3.lt; have v3 := hb3.cell 0; have f3 := hb3.frozen 0; simp at v3; obtain ⟨vb, vbn, vbc, rfl⟩ := hg2'.1.form; have HS := Lib.hid hs; clear hs hb3 hg2 hg2' hvv hC u0 y0 y1 y2 y3 yf; go_wp2_with fail
    go_roundw
    case rel => exact ⟨q + 1, _, _, by go_num, by omega, HS.out⟩
    case measure => simp [intOf]; omega
  · have hqe : q = S.ins.length := by omega
    subst hqe; have hltI : ¬ (S.ins.length : Int) < S.ins.length := by omega
    have hol : S.op.length ≤ 1000000000 := HWF.out.2.1; have hml : S.made.length ≤ 1000000000 := HWF.out.2.2.1; have hBr : w.heap.size + 3 ≤ wr.heap.size := i2.lt; have hs0 : StOwn (w.heap.size + 3) wr (.slice va vn vc) (.slice none 0 0) (.slice none 0 0) ⟨S.ins, [], []⟩ := ⟨.inl ⟨rfl, rfl⟩, .inl ⟨rfl, rfl⟩, is, HC.out.own, HC.out.len, HC.out.each, HC.out.apart⟩
    have HS0 := Lib.hid hs0; clear hs0; go_wp2_with (at_builtin; refine app88 rfl (.tmp 30) (.tmp 32) rfl (w.heap.size + 3) _ _ [] S.op rfl (by go_simp) (.inl ⟨rfl, rfl⟩) (HR.out.1.below iB.below (Nat.le_refl _)) (by simp; omega) hBr ?_)
    intro v1 w1 hg; have hg1 : OwnP (w.heap.size + 3) w1 88 3 v1 (S.op.map PDesc.cells) := by have := hg.1; simpa using this
    have hb1 : Below wr.heap.size wr w1 := hg.2.1.below (Nat.le_refl _) (fun i hi e => by simp [Value.ownBlock] at e); have hc1 := HC.out.on hb1; have hs1 := (HS0.out.on hb1).setOp hg1; have b2s := hc1.b2.set_ 1 v1; have hK1 : Keep (fun g => g = w.heap.size + 1 + 1) w1 (w1.setCell ⟨w.heap.size + 1 + 1, 1, none⟩ v1) := Keep.setCell (S := fun g => g = w.heap.size + 1 + 1) (p := ⟨w.heap.size + 1 + 1, 1, none⟩) (Keep.refl _ _) (.inl rfl) _; have hs1' := hs1.keep hK1 (fun g hg => by rw [hg]; exact ⟨_, 27, hc1.b2, by decide, by decide, by decide, by decide⟩); have b0s := hK1.blk hc1.b0 (by omega); have b1s := hK1.blk hc1.b1 (by omega); have hbw1 : Below w.heap.size w (w1.setCell ⟨w.heap.size + 1 + 1, 1, none⟩ v1) := hc1.below.trans (hK1.below (hc1.below.size) (fun i hi e => by omega)); have l2 := hc1.b2.lt; have p1 := hc1.b2.cell 1; have f1 := hc1.b2.frozen 1; simp at p1; obtain ⟨vo, von, voc, rfl⟩ := hg1.form; have HX := Lib.hid (And.intro hs1' (And.intro b2s (And.intro b0s (And.intro b1s hbw1)))); clear hg hg1 hb1 hc1 hs1 b2s hK1 hs1' b0s b1s hbw1 s0 s1 s2 t0 t1 t2 i0 i1 i2 iB
    go_upto_region 9 with fail
    refine abs_world (F := fun wa => StOwn (w.heap.size + 3) wa (.slice va vn vc) (.slice vo von voc) (.slice none 0 0) ⟨S.ins, S.op, []⟩ ∧ Blk wa (w.heap.size + 1 + 1) #[.slice va vn vc, .slice vo von voc, .slice none 0 0] 27 ∧ Blk wa w.heap.size #[.slice ai S.ins.length ci, .slice ao no co, .slice am nm cm] 27 ∧ Blk wa (w.heap.size + 1) #[.slice none 0 0, .slice none 0 0, .slice none 0 0] 27 ∧ Below w.heap.size w wa) HX.out ?_; clear HX l2 p1 f1; rintro wa ⟨hs1, b2, b0, b1, hbw⟩; have iB : Bel w wa := ⟨hbw⟩
    have l2 := b2.lt; have l0 := b0.lt; have p2 := b2.cell 2; have q2 := b0.cell 2; simp at p2 q2; have hBr2 : w.heap.size + 3 ≤ wa.heap.size := l2.lt; have HY := Lib.hid (And.intro hs1 (And.intro b2 (And.intro b0 b1))); clear hs1 b2 b0 b1; go_wp2_with (at_builtin; refine app3 rfl (.tmp 36) (.tmp 38) rfl (w.heap.size + 3) _ _ [] S.made rfl (by go_simp) (.inl ⟨rfl, rfl⟩) (HR.out.2.below iB.below (Nat.le_refl _)) (by simp; omega) hBr2 ?_)
    intro v2 w2 hg; have hg2 : OwnP (w.heap.size + 3) w2 3 1 v2 (S.made.map intCells) := by have := hg.1; simpa using this
    have hb2 : Below wa.heap.size wa w2 := hg.2.1.below (Nat.le_refl _) (fun i hi e => by simp [Value.ownBlock] at e); obtain ⟨hs1, b2, b0, b1⟩ := HY.out; have hs2 := (hs1.on hb2).setMd hg2; have c2 := blk_on b2 hb2; have hK2 : Keep (fun g => g = w.heap.size + 1 + 1) w2 (w2.setCell ⟨w.heap.size + 1 + 1, 2, none⟩ v2) := Keep.setCell (S := fun g => g = w.heap.size + 1 + 1) (p := ⟨w.heap.size + 1 + 1, 2, none⟩) (Keep.refl _ _) (.inl rfl) _; have hs2' := hs2.keep hK2 (fun g hg => by rw [hg]; exact ⟨_, 27, c2, by decide, by decide, by decide, by decide⟩); have b1s := hK2.blk (blk_on b1 hb2) (by omega); have b2s := c2.set_ 2 v2; have hbw2 : Below w.heap.size w (w2.setCell ⟨w.heap.size + 1 + 1, 2, none⟩ v2) := (hbw.trans (hb2.mono hbw.size)).trans (hK2.below (Nat.le_trans hbw.size hb2.size) (fun i hi e => by omega)); have l2' := c2.lt; have p2' := c2.cell 2; have f2' := c2.frozen 2; simp at p2'; obtain ⟨vm, vmn, vmc, rfl⟩ := hg2.form; have HX := Lib.hid (And.intro hs2' (And.intro b2s (And.intro b1s hbw2))); clear hg hg2 hb2 hs1 b2 b0 b1 hs2 c2 hK2 hs2' b1s b2s hbw2 l2 l0 p2 q2 iB hbw
    go_upto_region 10 with fail
    refine abs_world (F := fun wa => StOwn (w.heap.size + 3) wa (.slice va vn vc) (.slice vo von voc) (.slice vm vmn vmc) S ∧ Blk wa (w.heap.size + 1 + 1) #[.slice va vn vc, .slice vo von voc, .slice vm vmn vmc] 27 ∧ Blk wa (w.heap.size + 1) #[.slice none 0 0, .slice none 0 0, .slice none 0 0] 27 ∧ Below w.heap.size w wa) HX.out ?_; clear HX l2' p2' f2'; rintro wb ⟨hs, b2, b1, hbw⟩; have l2 := b2.lt; have l1 := b1.lt; have p0 := b2.cell 0; have p1 := b2.cell 1; have p2 := b2.cell 2; have z0 := b1.cell 0; have z1 := b1.cell 1; have z2 := b1.cell 2; have f0 := b1.frozen 0; have f1 := b1.frozen 1; have f2 := b1.frozen 2; simp at p0 p1 p2 z0 z1 z2; have HZ := Lib.hid (And.intro hs (And.intro b1 hbw)); clear hs b2 b1 hbw; go_wp2_with fail; have hK : Keep (fun g => g = w.heap.size + 1) wb (((wb.setCell ⟨w.heap.size + 1, 0, none⟩ (.slice va vn vc)).setCell ⟨w.heap.size + 1, 1, none⟩ (.slice vo von voc)).setCell ⟨w.heap.size + 1, 2, none⟩ (.slice vm vmn vmc)) := Keep.setCell (S := fun g => g = w.heap.size + 1) (p := ⟨w.heap.size + 1, 2, none⟩) (Keep.setCell (S := fun g => g = w.heap.size + 1) (p := ⟨w.heap.size + 1, 1, none⟩) (Keep.setCell (S := fun g => g = w.heap.size + 1) (p := ⟨w.heap.size + 1, 0, none⟩) (Keep.refl _ _) (.inl rfl) _) (.inl rfl) _) (.inl rfl) _; have hfin := (HZ.out.1.keep hK (fun g hg => by rw [hg]; exact ⟨_, 27, HZ.out.2.1, by decide, by decide, by decide, by decide⟩)).mono (B' := w.heap.size) (by omega); have hbf := HZ.out.2.2.trans (hK.below HZ.out.2.2.size (fun i hi e => by omega)); exact bodyPost_ret (v := .agg #[.slice va vn vc, .slice vo von voc, .slice vm vmn vmc]) (by unfold results; simp only [Tryz.results54]; go_simp) rfl ⟨_, _, _, rfl, hbf, hfin⟩
theorem insF_acc {α : Type} (p : α → Bool) (x : α) : ∀ (es zs : List α) (d : Bool), insF p x es d zs = zs ++ insF p x es d []
 | [], zs, d => by unfold insF; split <;> simp
 | e :: r, zs, d => by
   unfold insF; rw [insF_acc p x r (zs ++ [e]), insF_acc p x r (zs ++ [x] ++ [e]), insF_acc p x r ([] ++ [e]), insF_acc p x r ([] ++ [x] ++ [e]), insF_acc p x r (zs ++ [e]) false, insF_acc p x r ([] ++ [e]) false]
   split
   · simp
   · split <;> simp
theorem insF_true {α : Type} (p : α → Bool) (x : α) : ∀ (es : List α), insF p x es true [] = es
 | [] => by simp [insF]
 | e :: r => by
   unfold insF; rw [if_pos rfl, insF_acc, insF_true p x r]; rfl
theorem insF_at {α : Type} (p : α → Bool) (x : α) : ∀ (es : List α), insF p x es false [] = insAt es (es.findIdx p) x
 | [] => by simp [insF, insAt]
 | e :: r => by
   unfold insF; rw [if_neg (by decide), insF_acc p x r ([] ++ [x] ++ [e]), insF_acc p x r ([] ++ [e]), insF_true, insF_at p x r, List.findIdx_cons]; rcases p e with _ | _
   · simp [insAt]
   · simp [insAt]
theorem StOwn.made_form {B : Nat} {w : World} {iv ov mv : Value} {S : PSt} (h : StOwn B w iv ov mv S) (h0 : 0 < S.made.length) : ∃ gm cap, mv = .slice (some ⟨gm, 0, none⟩) S.made.length cap := by
 rcases h.2.1 with ⟨_, h1⟩ | ⟨g, cap, arr, rfl, _⟩
 · rw [List.map_eq_nil_iff] at h1; rw [h1] at h0; simp at h0
 · exact ⟨g, cap, by rw [lM]⟩
theorem StOwn.made_at {B : Nat} {w : World} {iv ov : Value} {S : PSt} {gm cap : Nat} (h : StOwn B w iv ov (.slice (some ⟨gm, 0, none⟩) S.made.length cap) S) {k : Nat} {m : Int} (hm : S.made[k]? = some m) : w.cell? ⟨gm, k, none⟩ = some (.int .i64 m) ∧ w.frozen? ⟨gm, k, none⟩ = false ∧ BlockLt gm w := by
 rcases h.2.1 with ⟨h1, _⟩ | ⟨g, cap', arr, he, _, hb, _, _, _, hr⟩
 · cases h1
 · simp only [Value.slice.injEq, Option.some.injEq, Addr.mk.injEq] at he; obtain ⟨⟨rfl, -, -⟩, -, -⟩ := he; refine ⟨?_, hb.frozen k, hb.lt⟩; rw [hb.cell]; have := hr k (intCells m) (by rw [gM, hm]; rfl) 0 _ rfl; rw [Nat.mul_one, Nat.add_zero] at this; exact this
def Spared (b : Nat) (w w' : World) : Prop := ∀ g c t, Blk w g c t → g ≠ b → (t = 27 ∨ t = 29 ∨ t = 46) → Blk w' g c t
theorem Spared.trans {b : Nat} {w w1 w2 : World} (h : Spared b w w1) (h' : Spared b w1 w2) : Spared b w w2 := fun g c t hb hn ht => h' g c t (h g c t hb hn ht) hn ht
theorem Spared.of_below {b : Nat} {w w1 : World} (h : Below w.heap.size w w1) : Spared b w w1 := fun g c t hb _ _ => blk_on hb h
theorem Spared.of_in {b : Nat} {w w1 : World} (h : Keep (InEn w) w w1) : Spared b w w1 := fun g c t hb _ ht => h.blk hb (fun ⟨c', t', hb', ht'⟩ => by
 have : t = t' := by
  have e := hb.symm.trans hb'; simp at e; exact e.2
 subst this
 rcases ht with rfl | rfl | rfl <;> rcases ht' with h | h <;> exact absurd h (by decide))
theorem Spared.set {b : Nat} {w : World} {g o : Nat} {c : Array Value} {t : TypeId} {v : Value} (h : Blk w g c t) (ht : g = b ∨ (t ≠ 27 ∧ t ≠ 29 ∧ t ≠ 46)) : Spared b w (w.setCell ⟨g, o, none⟩ v) := fun g' c' t' hb hn htt => by
 refine Keep.blk (Keep.setCell (S := fun x => x = g) (p := ⟨g, o, none⟩) (Keep.refl _ w) (.inl rfl) v) hb (fun e => ?_)
 subst e
 rcases ht with ht | ht
 · exact hn ht
 · have : t = t' := by
    have e := h.symm.trans hb; simp at e; exact e.2
   subst this; rcases htt with rfl | rfl | rfl
   · exact ht.1 rfl
   · exact ht.2.1 rfl
   · exact ht.2.2 rfl
theorem keep46 {wz : World} {r : Nat} {a0 a1 a2 a3 a4 a5 : Value} {p : Behind} : Keep (fun g => g = r) wz (((((((wz.setCell ⟨r, 0, none⟩ a0).setCell ⟨r, 1, none⟩ a1).setCell ⟨r, 2, none⟩ a2).setCell ⟨r, 3, none⟩ a3).setCell ⟨r, 4, none⟩ a4).setCell ⟨r, 5, none⟩ a5).junk p) :=
 ((((((((Keep.refl (fun g => g = r) wz).setCell (p := ⟨r, 0, none⟩) (.inl rfl) a0).setCell (p := ⟨r, 1, none⟩) (.inl rfl) a1).setCell (p := ⟨r, 2, none⟩) (.inl rfl) a2).setCell (p := ⟨r, 3, none⟩) (.inl rfl) a3).setCell (p := ⟨r, 4, none⟩) (.inl rfl) a4).setCell (p := ⟨r, 5, none⟩) (.inl rfl) a5).junk p)
theorem fin46 {B b r : Nat} {w wz w' : World} {iv ov mv : Value} {S : PSt} {c : Array Value} (hK : Keep (fun g => g = r) wz w') (hrw : w.heap.size ≤ r) (hbw : b < w.heap.size) (hB : B ≤ w.heap.size) (hr : Blk wz r c 46) (f1 : Blk wz b #[iv, ov, mv] 27) (f2 : StOwn B wz iv ov mv S) (f4 : Below B w wz) (f5 : Spared b w wz) :
 Below B w w' ∧ Spared b w w' ∧ ∃ iv' ov' mv', Blk w' b #[iv', ov', mv'] 27 ∧ StOwn B w' iv' ov' mv' S := by
 refine ⟨f4.trans (hK.below (Nat.le_trans hB f4.size) (fun i hi e => by omega)), fun g c t hb hn ht => hK.blk (f5 g c t hb hn ht) (fun e => by have := hb.lt.lt; omega), iv, ov, mv, hK.blk f1 (fun e => by omega), f2.keep hK (fun g hg => by rw [hg]; exact ⟨_, 46, hr, by decide, by decide, by decide, by decide⟩)⟩
theorem notInEn {w : World} {g : Nat} {c : Array Value} {t : TypeId} (h : Blk w g c t) (h1 : t ≠ 65) (h2 : t ≠ 99) : ¬ InEn w g := fun ⟨c', t', hb', ht'⟩ => by
 have : t = t' := by
  have e := h.symm.trans hb'; simp at e; exact e.2
 subst this
 rcases ht' with e | e
 · exact h1 e
 · exact h2 e
theorem PSt.wf_made {S : PSt} (h : S.wf) (k : Nat) {v : Int} (hv : I64 v) : ({ S with made := S.made.set k v } : PSt).wf := by
 obtain ⟨h1, h2, h3, h4, h5, h6⟩ := h
 refine ⟨h1, h2, by show (S.made.set k v).length ≤ _; rw [List.length_set]; exact h3, h4, h5, fun m hm => ?_⟩
 rcases List.mem_or_eq_of_mem_set hm with hm | rfl
 · exact h6 m hm
 · exact hv
def mk1 (S : PSt) (x : PIn) (nm : ByteArray) (k : Nat) (m : Int) (dir : Bool) : PSt :=
 let num : Int := 2 + k + 8 * m
 let S2 : PSt := ({ S with made := S.made.set k (m + 1) } : PSt).ents 0 x (insF (fun e => belowR nm e.name) ⟨nm, num⟩ x.ents false [])
 { S2 with ins := insF (fun y => decide (num < y.num)) ⟨num, dir, [], { data := #[] }⟩ S2.ins false [] }
theorem make56 (B b : Nat) (S : PSt) (iv ov mv : Value) (kd fd off nu : Int) (p2 dt : ByteArray) (ch : UInt8) (x : PIn) (k : Nat) (m : Int) (w : World) (hb : Blk w b #[iv, ov, mv] 27) (ho : StOwn B w iv ov mv S) (hB : B ≤ w.heap.size) (hBb : B ≤ b) (hwf : S.wf) (hr : rootB S = true) (hx : S.ins[0]? = some x) (hch : ch ≠ 47) (hck : checkR (n1 ch) = 0)
 (hent : entryR S 1 (n1 ch) = 0) (hful : decide (4 ≤ fullF (bucketR (n1 ch)) { data := #[] } x.ents 0) = false) (hes : ∀ e ∈ x.ents, e.name.size ≤ 1000000000) (hm : S.made[k]? = some m) (hm0 : 0 ≤ m ∧ m < 32) (hk8 : k < 8) :
 Calls Tryz.prog 56 #[.pointer (some ⟨b, 0, none⟩), .agg #[.int .i64 kd, .int .i64 k, .int .i64 fd, .int .i64 off, .int .i64 nu, .string (p1 ch), .string p2, .string dt]] w fun e w' => e = .returned (resV 0 0 0) ∧ Below B w w' ∧ Spared b w w' ∧ ∃ iv' ov' mv', Blk w' b #[iv', ov', mv'] 27 ∧ StOwn B w' iv' ov' mv' (mk1 S x (n1 ch) k m (kd == 1)) := by
 have hns : (n1 ch).size ≤ 1000000000 := by show (1 : Nat) ≤ _; omega
 obtain ⟨hat0, -⟩ := root_x hr
 have h94 : ∀ ww, Below w.heap.size w ww → Calls Tryz.prog 94 #[.agg #[iv, ov, mv], .string (p1 ch)] ww fun e w' => e = .returned (.tuple #[.int .i64 1, .string (n1 ch), .int .i64 0]) ∧ Below ww.heap.size ww w' := fun ww hb => parent94 S iv ov mv ch ww (ho.read.below hb (Nat.le_refl _)) hwf hr hch hck
 have h95 : ∀ ww, Below w.heap.size w ww → Calls Tryz.prog 95 #[.agg #[iv, ov, mv], .int .i64 1, .string (n1 ch)] ww fun e w' => e = .returned (.int .i64 0) ∧ Below ww.heap.size ww w' := fun ww hb => by
  have := entry95 S iv ov mv 1 (n1 ch) ww (ho.read.below hb (Nat.le_refl _)) hwf; rw [hent] at this; exact this
 have h96 : ∀ ww, Below w.heap.size w ww → Calls Tryz.prog 96 #[.agg #[iv, ov, mv], .int .i64 1, .string (n1 ch), .string { data := #[] }] ww fun e w' => e = .returned (.bool false) ∧ Below ww.heap.size ww w' := fun ww hb => by
  have := full96 S iv ov mv 1 (n1 ch) { data := #[] } 0 x ww (ho.read.below hb (Nat.le_refl _)) hwf hat0 hx hns hes; rw [hful] at this; exact this
 obtain ⟨hxl, -⟩ := gI.1 hx
 obtain ⟨hkl, -⟩ := gI.1 hm
 obtain ⟨bi, cap, rfl⟩ := ho.ins_form hxl
 obtain ⟨gm, capm, rfl⟩ := ho.made_form (by omega)
 obtain ⟨oa, on, oc, rfl⟩ := ho.1.form
 have hone := hb.lt
 have hblt : b < w.heap.size := hb.lt.lt
 have s0 := hb.cell 0
 have s1 := hb.cell 1
 have s2 := hb.cell 2
 simp at s0 s1 s2
 obtain ⟨m0, fm, iGm⟩ := ho.made_at hm
 have hkI : (k : Int) < S.made.length := by omega
 have h32 : ¬ 32 ≤ m := by omega
 have h32b : decide (32 ≤ m) = false := decide_eq_false h32
 obtain ⟨num, hnum⟩ : ∃ num : Int, 2 + (k : Int) + 8 * m = num := ⟨_, rfl⟩
 have wa : IntKind.i64.wrap (2 + (k : Int)) = 2 + (k : Int) := I64.wrap ⟨by omega, by omega⟩
 have wb : IntKind.i64.wrap (8 * m) = 8 * m := I64.wrap ⟨by omega, by omega⟩
 have wc1 : IntKind.i64.wrap (2 + (k : Int) + 8 * m) = num := by rw [hnum]; exact I64.wrap ⟨by omega, by omega⟩
 have wc2 : wrap64 (2 + (k : Int) + 8 * m) = num := by simp only [wrap64]; omega
 have wd2 : wrap64 (m + 1) = m + 1 := by simp only [wrap64]; omega
 have wd : IntKind.i64.wrap (m + 1) = m + 1 := I64.wrap ⟨by omega, by omega⟩
 have HN := Lib.hid hnum
 generalize hgp : p1 ch = path at *
 have HH := Lib.hid (And.intro hb (And.intro ho (And.intro hwf (And.intro hx (And.intro hm (And.intro hat0 hm0))))))
 have HM := Lib.hid (And.intro hns hes)
 generalize hgn : n1 ch = nm at *
 clear hnum
 clear hb ho hwf hr hx hm hent hful hes hm0 hck hgp hgn hat0 hns
 go_enter Tryz.func56, Tryz.ntmps56
 go_upto_region 1 with fail
 refine wp_region_quiet_rest (by kernel_rfl) (by kernel_rfl) (WQ.out ?_)
 repeat
  refine WQ_step (fun K hK => ?_); go_simp
  first
   | (refine hK _ ?_; clear hK K)
   | (apply Exists.intro
      refine ⟨fun _ => ?_, hK _ ?_⟩
      focus ((with_reducible refine calls_in (h94 _ (bel _ _)) (fun w' hb => ?_); first | exact hb.rest | exact rest1 hb | exact rest2 hb))
      clear hK K)
 refine WQ_nil ?_
 intro w1 hw1
 obtain ⟨p, hw1⟩ := hw1
 subst hw1
 go_wp2_with ((go_at_call 95; with_reducible refine aT (h95 _ (bel _ _)) fun p => ?_))
 refine wp_region_quiet_rest (by kernel_rfl) (by kernel_rfl) (WQ.out ?_)
 repeat
  refine WQ_step (fun K hK => ?_); go_simp
  first
   | (refine hK _ ?_; clear hK K)
   | (apply Exists.intro
      refine ⟨fun _ => ?_, hK _ ?_⟩
      focus ((with_reducible refine calls_in (h96 _ (bel _ _)) (fun w' hb => ?_); first | exact hb.rest | exact rest1 hb | exact rest2 hb))
      clear hK K)
 refine WQ_nil ?_
 intro w1 hw1
 obtain ⟨p, hw1⟩ := hw1
 subst hw1
 go_wp2_with fail
 refine wp_region_quiet_rest (by kernel_rfl) (by kernel_rfl) (WQ.out ?_)
 repeat
  refine WQ_step (fun K hK => ?_); go_simp
  first
   | (refine hK _ ?_; clear hK K)
   | (apply Exists.intro
      refine ⟨fun _ => ?_, hK _ ?_⟩
      focus (fail)
      clear hK K)
 refine WQ_nil ?_
 intro w1 hw1
 obtain ⟨p, hw1⟩ := hw1
 subst hw1
 go_upto_region 9 with fail
 refine abs_world (F := fun wa => StOwn B wa (.slice (some ⟨bi, 0, none⟩) S.ins.length cap) (.slice oa on oc) (.slice (some ⟨gm, 0, none⟩) S.made.length capm) S ∧ Blk wa b #[.slice (some ⟨bi, 0, none⟩) S.ins.length cap, .slice oa on oc, .slice (some ⟨gm, 0, none⟩) S.made.length capm] 27 ∧ Blk wa w.heap.size #[.int .i64 kd, .int .i64 k, .int .i64 fd, .int .i64 off, .int .i64 nu, .string path, .string p2, .string dt] 29 ∧ Blk wa (w.heap.size + 1) #[.int .i64 0, .int .i64 0, .int .i64 0, .bool false, .string { data := #[] }, .slice none 0 0] 46 ∧ Below w.heap.size w wa) ⟨HH.out.2.1.on (bel w _), blk_on HH.out.1 (bel w _), blk_on (Blk.new w #[.int .i64 kd, .int .i64 k, .int .i64 fd, .int .i64 off, .int .i64 nu, .string path, .string p2, .string dt] 29) (bel _ _), blk_on (Blk.new_i (w.alloc (.cells #[.int .i64 kd, .int .i64 k, .int .i64 fd, .int .i64 off, .int .i64 nu, .string path, .string p2, .string dt] 29)) #[.int .i64 0, .int .i64 0, .int .i64 0, .bool false, .string { data := #[] }, .slice none 0 0] 46 (w.heap.size + 1)) (bel _ _), bel w _⟩ ?_
 clear s0 s1 s2 m0 fm iGm hone
 rintro wa ⟨ho, hb, hbc, hbr, hbw⟩
 obtain ⟨m0, fm, iGm⟩ := ho.made_at HH.out.2.2.2.2.1
 have iB := hb.lt
 have iC := hbc.lt
 have s2 := hb.cell 2
 have q1 := hbc.cell 1
 simp at s2 q1
 obtain ⟨hs1, hBg, cg, hgm⟩ := (ho.on (bel wa wa.drew)).setMade (k := k) hkl (m + 1)
 have hp4 : Spared b wa (wa.drew.setCell ⟨gm, k, none⟩ (.int .i64 (m + 1))) := (Spared.of_below (bel wa wa.drew)).trans (Spared.set hgm (.inr ⟨by decide, by decide, by decide⟩))
 have hK4 : Keep (fun g => g = gm) wa.drew (wa.drew.setCell ⟨gm, k, none⟩ (.int .i64 (m + 1))) := Keep.setCell (S := fun g => g = gm) (p := ⟨gm, k, none⟩) (Keep.refl _ _) (.inl rfl) _
 have hb4 := hK4.blk (blk_on hb (bel wa wa.drew)) (fun e => by
  subst e; have := (blk_on hb (bel wa wa.drew)).ne_ hgm (by decide); exact this rfl)
 have hbw4 : Below B w (wa.drew.setCell ⟨gm, k, none⟩ (.int .i64 (m + 1))) := (hbw.mono hB).trans ((bel wa wa.drew).mono (Nat.le_trans hB hbw.size) |>.trans (hK4.below (Nat.le_trans hB (Nat.le_trans hbw.size (bel wa wa.drew).size)) (fun i hi e => by omega)))
 obtain ⟨w4, hw4⟩ : ∃ w4, wa.drew.setCell ⟨gm, k, none⟩ (.int .i64 (m + 1)) = w4 := ⟨_, rfl⟩
 rw [hw4] at hs1 hp4 hb4 hbw4
 have hbr4 := hp4 _ _ _ hbr (by omega) (.inr (.inr rfl))
 have hbc4 := hp4 _ _ _ hbc (by omega) (.inr (.inl rfl))
 have hpw4 := (Spared.of_below (b := b) hbw).trans hp4
 have iB4 := hb4.lt
 have iC4 := hbc4.lt
 have iR4 := hbr4.lt
 have c40 := hbc4.cell 0
 have c41 := hbc4.cell 1
 simp at c40 c41
 have HC4 := Lib.hid (And.intro hbc4 hbr4)
 have H4 := Lib.hid (And.intro hs1 (And.intro hb4 (And.intro hbr4 (And.intro hbw4 hpw4))))
 have HW4 := Lib.hid hw4
 clear hs1 hp4 hb4 hbw4 hbr4 hbc4 hpw4 hK4 ho hb hbc hbr hbw hgm
 refine wp_region_eff [10] true (fun w' => w'.cell? ⟨b, 2, none⟩ = some (.slice (some ⟨gm, 0, none⟩) S.made.length capm) ∧ w'.cell? ⟨w.heap.size, 1, none⟩ = some (.int .i64 k) ∧ w'.cell? ⟨gm, k, none⟩ = some (.int .i64 m)) (by kernel_rfl) (by kernel_rfl) ?_ ?_
 · (try dsimp only); (repeat' apply And.intro) <;> go_simp
 repeat
  refine wpL_look rfl rfl ?_; apply Exists.intro; refine ⟨?_, ?_⟩
  focus
   rintro w' ⟨s0, s1, s2⟩; go_simp
   first | done | rfl
  simp only [Act.put, sA, sZ, sS]
 refine wpL_skip rfl rfl ?_
 refine ⟨w4, ?_, .inr ⟨rfl, rfl⟩, ?_⟩
 focus
  go_simp
  first | done | exact HW4.out | rfl
 simp only [Act.put, sA, sZ, sS]
 refine wpL_end ?_
 clear s2 q1 iB iC m0 fm iGm hw4
 have hI64m : I64 (m + 1) := by
  have := HH.out.2.2.2.2.2.2; exact ⟨by omega, by omega⟩
 obtain ⟨S2, hS2⟩ : ∃ S2 : PSt, (({ S with made := S.made.set k (m + 1) } : PSt).ents 0 x (insF (fun e => belowR nm e.name) ⟨nm, num⟩ x.ents false [])) = S2 := ⟨_, rfl⟩
 have hl2 : S2.ins.length = S.ins.length := by rw [← hS2]; simp [PSt.ents]
 have h97 : ∀ ww, Below w4.heap.size w4 ww → Calls Tryz.prog 97 #[.pointer (some ⟨b, 0, none⟩), .int .i64 1, .string nm, .int .i64 num] ww fun e w' => e = .returned (.tuple #[]) ∧ (StOwn B w' (.slice (some ⟨bi, 0, none⟩) S.ins.length cap) (.slice oa on oc) (.slice (some ⟨gm, 0, none⟩) S.made.length capm) S2 ∧ Blk w' b #[.slice (some ⟨bi, 0, none⟩) S.ins.length cap, .slice oa on oc, .slice (some ⟨gm, 0, none⟩) S.made.length capm] 27 ∧ Below B w w' ∧ Spared b w4 w') := fun ww hb => by
  obtain ⟨o1, o2, o3, o4, o5⟩ := H4.out; have hB4 : B ≤ ww.heap.size := Nat.le_trans hB (Nat.le_trans o4.size hb.size); have hbk := blk_on o2 hb; refine (put97 B b { S with made := S.made.set k (m + 1) } _ _ _ 1 num nm 0 x ww hbk (o1.on hb) hB4 (PSt.wf_made HH.out.2.2.1 k hI64m) HM.out.1 HH.out.2.2.2.2.2.1 HH.out.2.2.2.1).mono ?_; rintro e w' ⟨rfl, hb5, hk5, hs5⟩; rw [hS2] at hs5; exact ⟨rfl, hs5, hk5.blk hbk (notInEn hbk (by decide) (by decide)), (o4.trans (hb.mono (Nat.le_trans hB o4.size))).trans hb5, (Spared.of_below hb).trans (Spared.of_in hk5)⟩
 have HS2 := Lib.hid hS2
 clear hS2
 go_wp2_with (go_at_call 97; (with_reducible refine (h97 _ (bel w4 _)).mono ?_); rintro e w5 ⟨rfl, hs5, hb5, hbb5, hp5⟩; have hc5 := hp5 _ _ _ HC4.out.1 (by omega) (.inr (.inl rfl)); have iC5 := hc5.lt; have c50 : w5.cell? ⟨w.heap.size, 0, none⟩ = some (.int .i64 kd) := hc5.cell 0; have hr5 := hp5 _ _ _ HC4.out.2 (by omega) (.inr (.inr rfl)); have HX5 := Lib.hid (And.intro hs5 (And.intro hb5 (And.intro hr5 (And.intro hbb5 (H4.out.2.2.2.2.trans hp5))))); clear hs5 hb5 hbb5 hp5 hc5 hr5)
 refine abs_world (F := fun W => StOwn B W (.slice (some ⟨bi, 0, none⟩) S.ins.length cap) (.slice oa on oc) (.slice (some ⟨gm, 0, none⟩) S.made.length capm) S2 ∧ Blk W b #[.slice (some ⟨bi, 0, none⟩) S.ins.length cap, .slice oa on oc, .slice (some ⟨gm, 0, none⟩) S.made.length capm] 27 ∧ Blk W (w.heap.size + 1) #[.int .i64 0, .int .i64 0, .int .i64 0, .bool false, .string { data := #[] }, .slice none 0 0] 46 ∧ Blk W w5.heap.size #[.int .i64 num, .bool (kd == 1), .slice none 0 0, .string { data := #[] }] 65 ∧ Below B w W ∧ Spared b w W) ⟨HX5.out.1.on (bel w5 _), blk_on HX5.out.2.1 (bel w5 _), blk_on HX5.out.2.2.1 (bel w5 _), Blk.new_i _ _ _ _, HX5.out.2.2.2.1.trans ((bel w5 _).mono (Nat.le_trans hB HX5.out.2.2.2.1.size)), HX5.out.2.2.2.2.trans (Spared.of_below (bel w5 _))⟩ ?_
 clear HX5 iC5 c50 H4 HC4 HW4 iB4 iC4 iR4 c40 c41 h97 h94 h95 h96
 obtain ⟨g5, hg5⟩ : ∃ g5, w5.heap.size = g5 := ⟨_, rfl⟩
 rw [hg5]
 clear hg5
 rintro W ⟨ho, hbk, hrs, hnb, hBW, hSP⟩
 have hBle : B ≤ W.heap.size := Nat.le_trans hB hBW.size
 obtain ⟨u1, u2, is, u3, u4, u5, u6⟩ := ho
 rw [hl2] at u4
 obtain ⟨a, capx, e1, hai⟩ := u3.row.at_
 rw [lM, u4] at e1
 cases e1
 have hst : ∀ w2, Below W.heap.size W w2 → BlockLt b w2 ∧ w2.cell? ⟨b, 0, none⟩ = some (.slice (some ⟨bi, 0, none⟩) S.ins.length cap) ∧ w2.frozen? ⟨b, 0, none⟩ = false ∧ BlockLt g5 w2 ∧ w2.cell? ⟨g5, 0, none⟩ = some (.int .i64 num) ∧ w2.cell? ⟨g5, 1, none⟩ = some (.bool (kd == 1)) ∧ w2.cell? ⟨g5, 2, none⟩ = some (.slice none 0 0) ∧ w2.cell? ⟨g5, 3, none⟩ = some (.string { data := #[] }) := by
  intro w2 h2; have h3 := blk_on hbk h2; have h4 := blk_on hnb h2; exact ⟨h3.lt, h3.cell 0, h3.frozen 0, h4.lt, h4.cell 0, h4.cell 1, h4.cell 2, h4.cell 3⟩
 have hform : ∀ (q : Nat) (r : IRec), is[q]? = some r → ∃ a n c, r.ev = .slice a n c := by
  intro q r hr; obtain ⟨hl, _⟩ := gI.1 hr; exact (u5 q r _ hr (gE (by omega))).2.2.2.form
 obtain ⟨nr, hnr⟩ : ∃ nr : IRec, (⟨num, kd == 1, .slice none 0 0, { data := #[] }, rfl⟩ : IRec) = nr := ⟨_, rfl⟩
 have hnc : nr.cells = [.int .i64 num, .bool (kd == 1), .slice none 0 0, .string { data := #[] }] := by rw [← hnr]; rfl
 obtain ⟨R, hR⟩ : ∃ R, insF (fun r : IRec => decide (num < r.num)) nr is false [] = R := ⟨_, rfl⟩
 have hfin : ∀ (w1 : World) (v : Value), OwnP W.heap.size w1 65 4 v (R.map IRec.cells) → Below W.heap.size W w1 → Blk (w1.setCell ⟨b, 0, none⟩ v) b #[v, .slice oa on oc, .slice (some ⟨gm, 0, none⟩) S.made.length capm] 27 ∧ StOwn B (w1.setCell ⟨b, 0, none⟩ v) v (.slice oa on oc) (.slice (some ⟨gm, 0, none⟩) S.made.length capm) (mk1 S x nm k m (kd == 1)) ∧ Blk (w1.setCell ⟨b, 0, none⟩ v) (w.heap.size + 1) #[.int .i64 0, .int .i64 0, .int .i64 0, .bool false, .string { data := #[] }, .slice none 0 0] 46 ∧ Below B w (w1.setCell ⟨b, 0, none⟩ v) ∧ Spared b w (w1.setCell ⟨b, 0, none⟩ v) := by
  intro w1 v h1 h2; have hb1 := blk_on hbk h2; have hr1 := blk_on hrs h2; have hKb : Keep (fun g => g = b) w1 (w1.setCell ⟨b, 0, none⟩ v) := Keep.setCell (S := fun g => g = b) (p := ⟨b, 0, none⟩) (Keep.refl _ _) (.inl rfl) _; have hRi : R = insAt is (is.findIdx fun r => decide (num < r.num)) nr := by rw [← hR, insF_at]
  have hiv : OwnP B w1 65 4 v ((is.map IRec.cells).take (is.findIdx fun r => decide (num < r.num)) ++ [.int .i64 num, .bool (kd == 1), .slice none 0 0, .string { data := #[] }] :: (is.map IRec.cells).drop (is.findIdx fun r => decide (num < r.num))) := by
   have := h1.mono hBle; rw [hRi, insAt_map, hnc] at this; exact this
  have hs5 := setIns2 (S := S2) is u1 u2 (by omega) u5 u6 (Keep.of_below h2 (fun _ => False)) (fun _ h => h.elim) (is.findIdx fun r => decide (num < r.num)) (by rw [hl2, ← u4]; exact List.findIdx_le_length) num (kd == 1) hiv; have hidx : (is.findIdx fun r => decide (num < r.num)) = S2.ins.findIdx fun y => decide (num < y.num) := by
   have e : is.map IRec.num = S2.ins.map PIn.num := by
    apply List.ext_getElem?; intro q; rw [gM, gM]; by_cases hq : q < is.length
    · have hq2 : q < S2.ins.length := by omega
      have := (u5 q is[q] S2.ins[q] (gE hq) (gE hq2)).1; rw [gE hq, gE hq2]; simp [this]
    · rw [List.getElem?_eq_none (by omega), List.getElem?_eq_none (by omega)]; rfl
   have e1 : (is.findIdx fun r => decide (num < r.num)) = (is.map IRec.num).findIdx fun n => decide (num < n) := by rw [List.findIdx_map]; rfl
   have e2 : (S2.ins.findIdx fun y => decide (num < y.num)) = (S2.ins.map PIn.num).findIdx fun n => decide (num < n) := by rw [List.findIdx_map]; rfl
   rw [e1, e2, e]
  have hmk : ({ S2 with ins := insAt S2.ins (is.findIdx fun r => decide (num < r.num)) ⟨num, kd == 1, [], { data := #[] }⟩ } : PSt) = mk1 S x nm k m (kd == 1) := by
   unfold mk1; simp only; rw [HN.out, HS2.out, insF_at, hidx]
  rw [hmk] at hs5; refine ⟨hb1.set_ 0 v, hs5.keep hKb (fun g hg => by rw [hg]; exact ⟨_, 27, hb1, by decide, by decide, by decide, by decide⟩), hKb.blk hr1 (by omega), ?_, ?_⟩
  · exact (hBW.trans (h2.mono hBle)).trans (hKb.below (Nat.le_trans hBle h2.size) (fun i hi e => by omega))
  · exact (hSP.trans (Spared.of_below h2)).trans (Spared.set hb1 (.inl rfl))
 have HST := Lib.hid hst
 have HFO := Lib.hid hform
 have HNC := Lib.hid hnc
 have HR := Lib.hid hR
 have HFIN := Lib.hid hfin
 have HA := Lib.hid hai
 have HU := Lib.hid (And.intro u4 (And.intro hl2 hnr))
 have hil9 : S.ins.length ≤ 1000000000 := HH.out.2.2.1.1
 clear hst hform hnc hR hfin hai u1 u2 u3 u4 u5 u6 hbk hrs hnb hl2 hnr
 go_loopw [10, 11, 12] (fun v10 v11 i wr => ∃ (q : Nat) (d : Bool) (zs : List IRec), i = .int .i64 q ∧ v11 = .bool d ∧ q ≤ S.ins.length ∧ zs.length ≤ 2 * q ∧ OwnP W.heap.size wr 65 4 v10 (zs.map IRec.cells) ∧ insF (fun r : IRec => decide (num < r.num)) nr (is.drop q) d zs = R ∧ Below W.heap.size W wr) (fun _ _ i _ => (S.ins.length - intOf i).toNat)
 case atStart => exact ⟨0, false, [], rfl, rfl, by omega, by simp, .inl ⟨rfl, rfl⟩, HR.out, Below.refl _ _⟩
 case round =>
  obtain ⟨q, d, zs, rfl, rfl, hq, hzl, hO, hre, hbw⟩ := hrel; have iB : Bel W wr := ⟨hbw⟩
  obtain ⟨iL, t0, tf, iG5, n0, n1, n2, n3⟩ := HST.out wr hbw; obtain ⟨va, vn, vc, rfl⟩ := hO.form; have HO := Lib.hid hO; clear hO; by_cases hlt : q < S.ins.length
  · have hltq : q < is.length := by have := HU.out.1; omega
    obtain ⟨r, hr⟩ : ∃ r, is[q]? = some r := ⟨_, gE hltq⟩
    rw [insF_drop _ _ _ q r d zs hr] at hre; obtain ⟨ra, rn2, rc, hrev⟩ := HFO.out q r hr; obtain ⟨be, oe, he, iE0, iE, hce⟩ := HA.out wr hbw q r.cells (by rw [gM, hr]; rfl); cases he; have hcz : ∀ w2, Below W.heap.size W w2 → BlockLt bi w2 ∧ w2.cell? ⟨bi, q * 4, none⟩ = some (.int .i64 r.num) ∧ w2.cell? ⟨bi, q * 4 + 1, none⟩ = some (.bool r.dir) ∧ w2.cell? ⟨bi, q * 4 + 2, none⟩ = some r.ev ∧ w2.cell? ⟨bi, q * 4 + 3, none⟩ = some (.string r.data) := by
     intro w2 h2; obtain ⟨be', oe', he, _, i2, hc⟩ := HA.out w2 h2 q r.cells (by rw [gM, hr]; rfl); cases he; have h0 := hc 0 _ rfl; have h1 := hc 1 _ rfl; have h2 := hc 2 _ rfl; have h3 := hc 3 _ rfl; simp only [Nat.zero_add, Nat.add_zero] at h0 h1 h2 h3; exact ⟨i2, h0, h1, h2, h3⟩
    have hltI : (q : Int) < S.ins.length := by omega
    clear hce hr; obtain ⟨rn, rd, re, rs, ro⟩ := r; simp only at hrev; subst hrev; simp only at hcz hre; obtain ⟨-, c0, c1, c2, c3⟩ := hcz wr hbw; have HCZ := Lib.hid hcz; clear hcz; rcases d with _ | _
    · rw [if_neg (by decide)] at hre; by_cases hA : num < rn
      · rw [if_pos (decide_eq_true hA)] at hre; have HRE := Lib.hid hre; clear hre; go_wp2_with (at_builtin; refine app65 rfl (.tmp 112) (.tmp 114) rfl W.heap.size _ (.slice (some ⟨wr.heap.size, 0, none⟩) 1 1) zs [nr] rfl (by go_simp) (HO.out.below (bel wr _)) (by rw [List.map_cons, HNC.out]; exact RowAt.single (Blk.new_i _ _ _ _) 4 1) (by simp; omega) (bel W _).size ?_)
        intro v' w' hg; have hbg := hg.on (HO.out.below (bel wr _)) (bel W _).size; have hb2 := (bel W _).trans hbg; have hO2 : OwnP W.heap.size w' 65 4 v' ((zs ++ [nr]).map IRec.cells) := by have := hg.1; simpa using this
        have i2 : Bel W w' := ⟨hb2⟩
        obtain ⟨iE2, d0, d1, d2, d3⟩ := HCZ.out w' hb2; obtain ⟨iL2, y0, yf, iG6, m0, m1, m2, m3⟩ := HST.out w' hb2; have H2 := Lib.hid hO2; clear hg hbg hO2 hb2 c0 c1 c2 c3 iE iL t0 tf iG5 n0 n1 n2 n3; go_wp2_with (at_builtin; refine app65 rfl (.tmp 116) (.tmp 124) rfl W.heap.size _ _ (zs ++ [nr]) [(⟨rn, rd, .slice ra rn2 rc, rs, ro⟩ : IRec)] rfl (by go_simp) (H2.out.below (bel w' _)) (RowAt.single (Blk.new_i _ _ _ _) 4 1) (by simp; omega) (bel W _).size ?_)
        intro v2 w2 hg; have hbg := hg.on (H2.out.below (bel w' _)) (bel W _).size; have hb3 := (bel W _).trans hbg; have hO3 : OwnP W.heap.size w2 65 4 v2 ((zs ++ [nr] ++ [(⟨rn, rd, .slice ra rn2 rc, rs, ro⟩ : IRec)]).map IRec.cells) := by have := hg.1; simpa using this
        have H3 := Lib.hid (And.intro hO3 hb3); clear hg hbg hO3 hb3; go_wp2_with fail
        go_roundw
        case rel => exact ⟨q + 1, true, _, by go_num, rfl, by omega, by simp; omega, H3.out.1, HRE.out, H3.out.2⟩
        case measure => simp [intOf]; omega
      · rw [if_neg (by rw [decide_eq_false hA]; decide)] at hre; have HRE := Lib.hid hre; clear hre; go_wp2_with (at_builtin; refine app65 rfl (.tmp 116) (.tmp 124) rfl W.heap.size _ _ zs [(⟨rn, rd, .slice ra rn2 rc, rs, ro⟩ : IRec)] rfl (by go_simp) (HO.out.below (bel wr _)) (RowAt.single (Blk.new_i _ _ _ _) 4 1) (by simp; omega) (bel W _).size ?_)
        intro v' w' hg; have hbg := hg.on (HO.out.below (bel wr _)) (bel W _).size; have hb2 := (bel W _).trans hbg; have hO2 : OwnP W.heap.size w' 65 4 v' ((zs ++ [(⟨rn, rd, .slice ra rn2 rc, rs, ro⟩ : IRec)]).map IRec.cells) := by have := hg.1; simpa using this
        have H2 := Lib.hid (And.intro hO2 hb2); clear hg hbg hO2 hb2; go_wp2_with fail
        go_roundw
        case rel => exact ⟨q + 1, false, _, by go_num, rfl, by omega, by simp; omega, H2.out.1, HRE.out, H2.out.2⟩
        case measure => simp [intOf]; omega
    · rw [if_pos rfl] at hre; have HRE := Lib.hid hre; clear hre; go_wp2_with (at_builtin; refine app65 rfl (.tmp 116) (.tmp 124) rfl W.heap.size _ _ zs [(⟨rn, rd, .slice ra rn2 rc, rs, ro⟩ : IRec)] rfl (by go_simp) (HO.out.below (bel wr _)) (RowAt.single (Blk.new_i _ _ _ _) 4 1) (by simp; omega) (bel W _).size ?_)
      intro v' w' hg; have hbg := hg.on (HO.out.below (bel wr _)) (bel W _).size; have hb2 := (bel W _).trans hbg; have hO2 : OwnP W.heap.size w' 65 4 v' ((zs ++ [(⟨rn, rd, .slice ra rn2 rc, rs, ro⟩ : IRec)]).map IRec.cells) := by have := hg.1; simpa using this
      have H2 := Lib.hid (And.intro hO2 hb2); clear hg hbg hO2 hb2; go_wp2_with fail
      go_roundw
      case rel => exact ⟨q + 1, true, _, by go_num, rfl, by omega, by simp; omega, H2.out.1, HRE.out, H2.out.2⟩
      case measure => simp [intOf]; omega
  · rw [insF_end _ _ _ q d zs (by have := HU.out.1; omega)] at hre; have hltI : ¬ (q : Int) < S.ins.length := by omega
    rcases d with _ | _
    · rw [if_neg (by decide)] at hre; have HRE := Lib.hid hre; clear hre; go_wp2_with (at_builtin; refine app65 rfl (.tmp 128) (.tmp 130) rfl W.heap.size _ (.slice (some ⟨wr.heap.size, 0, none⟩) 1 1) zs [nr] rfl (by go_simp) (HO.out.below (bel wr _)) (by rw [List.map_cons, HNC.out]; exact RowAt.single (Blk.new_i _ _ _ _) 4 1) (by simp; omega) (bel W _).size ?_)
      intro v' w' hg; have hbg := hg.on (HO.out.below (bel wr _)) (bel W _).size; have hb2 := (bel W _).trans hbg; have hO2 : OwnP W.heap.size w' 65 4 v' ((zs ++ [nr]).map IRec.cells) := by have := hg.1; simpa using this
      rw [HRE.out] at hO2; have i2 : Bel W w' := ⟨hb2⟩
      obtain ⟨iL2, y0, yf, iG6, m0, m1, m2, m3⟩ := HST.out w' hb2; have hf := HFIN.out w' v' hO2 hb2; obtain ⟨wa, wn, wc, rfl⟩ := hO2.form; have HF := Lib.hid hf; clear hg hbg hO2 hb2 hf t0 tf iL iG5 n0 n1 n2 n3 m0 m1 m2 m3 iG6
      go_upto_region 24 with fail
      refine abs_world (F := fun wz => Blk wz b #[.slice wa wn wc, .slice oa on oc, .slice (some ⟨gm, 0, none⟩) S.made.length capm] 27 ∧ StOwn B wz (.slice wa wn wc) (.slice oa on oc) (.slice (some ⟨gm, 0, none⟩) S.made.length capm) (mk1 S x nm k m (kd == 1)) ∧ Blk wz (w.heap.size + 1) #[.int .i64 0, .int .i64 0, .int .i64 0, .bool false, .string { data := #[] }, .slice none 0 0] 46 ∧ Below B w wz ∧ Spared b w wz) HF.out ?_; rintro wz ⟨f1, f2, f3, f4, f5⟩; have l3 := f3.lt; have g0 := f3.cell 0; have g1 := f3.cell 1; have g2 := f3.cell 2; have g3 := f3.cell 3; have g4 := f3.cell 4; have g5' := f3.cell 5; have fz0 := f3.frozen 0; have fz1 := f3.frozen 1; have fz2 := f3.frozen 2; have fz3 := f3.frozen 3; have fz4 := f3.frozen 4; have fz5 := f3.frozen 5; simp at g0 g1 g2 g3 g4 g5'; have HZ := Lib.hid (And.intro f1 (And.intro f2 (And.intro f3 (And.intro f4 f5)))); have hr55 : ∀ ww, Calls Tryz.prog 55 #[.int .i64 0] ww fun e w' => e = .returned (.agg #[.int .i64 0, .int .i64 0, .int .i64 0, .bool false, .string { data := #[] }, .slice none 0 0]) ∧ Below ww.heap.size ww w' := fun ww => fail55 0 ww
      clear f1 f2 f3 f4 f5; go_wp2_with ((go_at_call 55; with_reducible refine aT (hr55 _) fun p => ?_))
      exact bodyPost_ret (v := resV 0 0 0) (by unfold results; simp only [Tryz.results56, resV]; go_simp) rfl ⟨rfl, fin46 (r := w.heap.size + 1) keep46 (by omega) hblt hB HZ.out.2.2.1 HZ.out.1 HZ.out.2.1 HZ.out.2.2.2.1 HZ.out.2.2.2.2⟩
    · rw [if_pos rfl] at hre; subst hre; have hf := HFIN.out wr _ HO.out hbw; have HF := Lib.hid hf; clear hf n0 n1 n2 n3 iG5
      go_upto_region 24 with fail
      refine abs_world (F := fun wz => Blk wz b #[.slice va vn vc, .slice oa on oc, .slice (some ⟨gm, 0, none⟩) S.made.length capm] 27 ∧ StOwn B wz (.slice va vn vc) (.slice oa on oc) (.slice (some ⟨gm, 0, none⟩) S.made.length capm) (mk1 S x nm k m (kd == 1)) ∧ Blk wz (w.heap.size + 1) #[.int .i64 0, .int .i64 0, .int .i64 0, .bool false, .string { data := #[] }, .slice none 0 0] 46 ∧ Below B w wz ∧ Spared b w wz) HF.out ?_; rintro wz ⟨f1, f2, f3, f4, f5⟩; have l3 := f3.lt; have g0 := f3.cell 0; have g1 := f3.cell 1; have g2 := f3.cell 2; have g3 := f3.cell 3; have g4 := f3.cell 4; have g5' := f3.cell 5; have fz0 := f3.frozen 0; have fz1 := f3.frozen 1; have fz2 := f3.frozen 2; have fz3 := f3.frozen 3; have fz4 := f3.frozen 4; have fz5 := f3.frozen 5; simp at g0 g1 g2 g3 g4 g5'; have HZ := Lib.hid (And.intro f1 (And.intro f2 (And.intro f3 (And.intro f4 f5)))); have hr55 : ∀ ww, Calls Tryz.prog 55 #[.int .i64 0] ww fun e w' => e = .returned (.agg #[.int .i64 0, .int .i64 0, .int .i64 0, .bool false, .string { data := #[] }, .slice none 0 0]) ∧ Below ww.heap.size ww w' := fun ww => fail55 0 ww
      clear f1 f2 f3 f4 f5; go_wp2_with ((go_at_call 55; with_reducible refine aT (hr55 _) fun p => ?_))
      exact bodyPost_ret (v := resV 0 0 0) (by unfold results; simp only [Tryz.results56, resV]; go_simp) rfl ⟨rfl, fin46 (r := w.heap.size + 1) keep46 (by omega) hblt hB HZ.out.2.2.1 HZ.out.1 HZ.out.2.1 HZ.out.2.2.2.1 HZ.out.2.2.2.2⟩
end Go.Proofs.YtjkenolgkkknaaaGreatDoor
