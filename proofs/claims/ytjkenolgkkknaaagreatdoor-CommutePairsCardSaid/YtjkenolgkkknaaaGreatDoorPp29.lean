/- Part of the proof that the named pairs of calls commute. Conditions: none. -/
import Derived.Test.YtjkenolgkkknaaaGreatDoorPp22
import Derived.Lib.ItoaLen
set_option linter.unusedVariables false
set_option linter.unusedSimpArgs false
set_option maxRecDepth 100000
set_option maxHeartbeats 8000000
namespace Go.Proofs.YtjkenolgkkknaaaGreatDoor
open Go.RowKit
theorem m0 : mayM s2 = true := by kernel_rfl
theorem l0 : (shapeT s2 3).length ≤ 1000000000000 := by
 have h : (shapeT s2 3).length.ble 1000 = true := by kernel_rfl
 have := Nat.le_of_ble_eq_true h
 omega
theorem VwAt.counts_at {w : World} {k p : Nat} {c : PCall} {fine : Bool} {L T : List (Int × Int)} {M : List Int} {by_ co go : Int} (h : VwAt w k p c fine L T M by_ co go) (n : Int) :
 VwAt (w.setCell ⟨k, 14, none⟩ (.int .i64 n)) k p c fine L T M by_ n go := by
 obtain ⟨lv, tv, mv, h1, h2, h3, h4⟩ := h
 refine ⟨lv, tv, mv, ?_, own_set h2 h1 (by decide) _ _, own_set h3 h1 (by decide) _ _, own_set h4 h1 (by decide) _ _⟩
 have := h1.set_ 14 (.int .i64 n)
 simpa [vwCells] using this
theorem paths_link (k p : Nat) (S : PSt) (c : PCall) (fine : Bool) (w : World) (h : VwNew w k p c fine) (hL : Laid k (fun w => SP w p S) w) (hwf : S.wf) (hlk : linkedB S = true) (hk : c.kind = 8) (hp : (parseM c.path).1 = 0) (hnl : (parseM c.path).2.length ≤ 1000000000) (hp2 : (parseM c.path2).1 = 0) (hnl2 : (parseM c.path2).2.length ≤ 1000000000)
 (R1 R2 : VRes) (hR1 : vwalkF S (parseM c.path).2 (0, 0) 1 [] [1] = R1) (hR2 : vwalkF S (parseM c.path2).2 (0, 0) 1 R1.L (R1.M ++ [1]) = R2) (hl1 : R1.L.length ≤ 1000000000) (hm1 : R1.M.length ≤ 1000000000) :
 Calls Tryz.prog 44 #[.pointer (some ⟨k, 0, none⟩)] w fun e w' => e = .returned (.tuple #[]) ∧ VwAt w' k p c fine R2.L [R2.last] R2.M 0 R1.num 0 ∧ Below k w w' := by
 obtain ⟨i9x, hi9, h90, h91, h92⟩ := info_parts info91
 have iK := h.lt
 have hkw : k ≤ w.heap.size := by have := iK.lt; omega
 have c1 : w.cell? ⟨k, 1, none⟩ = some (.int .i64 c.kind) := h.cell 1
 have c6 : w.cell? ⟨k, 6, none⟩ = some (.string c.path) := h.cell 6
 have hwalk : ∀ ww b3, Below w.heap.size w ww → Blk ww b3 #[.int .i64 0, .int .i64 0] 91 → Calls Tryz.prog 89 #[.pointer (some ⟨k, 0, none⟩), .string c.path] ww _ := fun ww b3 hb h3 =>
  walk89 k k p b3 _ S _ [] [] c.path _ _ ww (VwNew.own (h.below hb iK.lt) b3 _ h3) (hL.below (hb.mono hkw)) (Nat.le_trans hkw hb.size) hwf hlk hp hnl (by simp) (by simp)
 simp only [List.nil_append] at hwalk
 rw [hR1] at hwalk
 have hwalk2 : ∀ ww b3 c3 lv mv, Below k w ww → VwOwn k ww k p b3 c3 ⟨c, fine, .slice none 0 0, 0, 0, 0⟩ R1.L R1.M lv mv → k ≤ ww.heap.size → Calls Tryz.prog 89 #[.pointer (some ⟨k, 0, none⟩), .string c.path2] ww fun e w' => e = .returned (.tuple #[pairAt R2.last, .int .i64 R2.num]) ∧ (∃ lv' mv', VwOwn k w' k p b3 c3 ⟨c, fine, .slice none 0 0, 0, 0, 0⟩ R2.L R2.M lv' mv') ∧ Below k ww w' := fun ww b3 c3 lv mv hb hv hkk => by
  have := walk89 k k p b3 c3 S _ R1.L R1.M c.path2 lv mv ww hv (hL.below hb) hkk hwf hlk hp2 hnl2 hl1 hm1; rw [hR2] at this; exact this
 obtain ⟨⟨l1, l2⟩, rn, RL, RM⟩ := R1
 obtain ⟨⟨g1, g2⟩, gn, GL, GM⟩ := R2
 unfold pairAt at hwalk hwalk2
 simp only at hwalk hwalk2 ⊢
 have H := Lib.hid h
 clear h hL hwf hlk hp hnl hp2 hnl2 hR1 hR2 hl1 hm1
 rw [hk] at c1
 go_enter Tryz.func44, Tryz.ntmps44
 go_upto_region 4 with (go_at_call 89; refine (hwalk _ w.heap.size (bel w _) (Blk.new _ _ _)).mono ?_; rintro e w1 ⟨rfl, ⟨lv1, mv1, hv1⟩, hb1⟩; have e0 : w1.cell? ⟨w.heap.size, 0, none⟩ = some (.int .i64 0) := hv1.ex.cell 0; have e1 : w1.cell? ⟨w.heap.size, 1, none⟩ = some (.int .i64 0) := hv1.ex.cell 1; have f0 := hv1.ex.frozen 0; have f1 := hv1.ex.frozen 1; have i3 := hv1.ex.lt; have HV1 := Lib.hid (And.intro hv1 hb1); clear hv1 hb1)
 refine abs_world (F := fun wA => VwOwn k wA k p w.heap.size #[.int .i64 l1, .int .i64 l2] ⟨c, fine, .slice none 0 0, 0, 0, 0⟩ RL RM lv1 mv1 ∧ Below k w wA) ⟨HV1.out.1.exSet _ _, ((((bel w (w.alloc (Obj.cells #[.int .i64 0, .int .i64 0] 91))).mono hkw).trans HV1.out.2).setCell (p := ⟨w.heap.size, 0, none⟩) hkw _).setCell (p := ⟨w.heap.size, 1, none⟩) hkw _⟩ ?_
 clear e0 e1 f0 f1 i3 HV1 c1 c6
 rintro wA ⟨hVA, hbA⟩
 have a1 : wA.cell? ⟨k, 1, none⟩ = some (.int .i64 c.kind) := hVA.blk.cell 1
 rw [hk] at a1
 have a7 : wA.cell? ⟨k, 7, none⟩ = some (.string c.path2) := hVA.blk.cell 7
 have iKA := hVA.blk.lt
 have hkA : k ≤ wA.heap.size := by have := iKA.lt; omega
 have hw2 := hwalk2 wA w.heap.size _ lv1 mv1 hbA hVA hkA
 have q0 : wA.cell? ⟨w.heap.size, 0, none⟩ = some (.int .i64 l1) := hVA.ex.cell 0
 have q1 : wA.cell? ⟨w.heap.size, 1, none⟩ = some (.int .i64 l2) := hVA.ex.cell 1
 have i3A := hVA.ex.lt
 have HA := Lib.hid (And.intro hVA hbA)
 clear hVA hbA hwalk hwalk2
 go_upto_region 10 with (go_at_call 89; refine hw2.mono ?_; rintro e w2 ⟨rfl, ⟨lv2, mv2, hv2⟩, hb2⟩; have e0 : w2.cell? ⟨w.heap.size, 0, none⟩ = some (.int .i64 l1) := hv2.ex.cell 0; have e1 : w2.cell? ⟨w.heap.size, 1, none⟩ = some (.int .i64 l2) := hv2.ex.cell 1; have f0 := hv2.ex.frozen 0; have f1 := hv2.ex.frozen 1; have i3 := hv2.ex.lt; have HV2 := Lib.hid (And.intro hv2 hb2); clear hv2 hb2)
 refine abs_world (F := fun wB => VwOwn k wB k p w.heap.size #[.int .i64 g1, .int .i64 g2] ⟨c, fine, .slice none 0 0, 0, 0, 0⟩ GL GM lv2 mv2 ∧ Below k w wB ∧ True) ⟨HV2.out.1.exSet _ _, ((HA.out.2.trans HV2.out.2).setCell (p := ⟨w.heap.size, 0, none⟩) hkw _).setCell (p := ⟨w.heap.size, 1, none⟩) hkw _, trivial⟩ ?_
 clear e0 e1 f0 f1 i3 HV2 HA hw2 a7 q0 q1 iKA i3A a1
 rintro wB ⟨hVB, hbB, -⟩
 have b11 : wB.cell? ⟨k, 11, none⟩ = some (.slice none 0 0) := hVB.blk.cell 11
 have q0 : wB.cell? ⟨w.heap.size, 0, none⟩ = some (.int .i64 g1) := hVB.ex.cell 0
 have q1 : wB.cell? ⟨w.heap.size, 1, none⟩ = some (.int .i64 g2) := hVB.ex.cell 1
 have iKB := hVB.blk.lt
 have i3B := hVB.ex.lt
 have hkB : k ≤ wB.heap.size := by have := iKB.lt; omega
 have HB := Lib.hid (And.intro hVB (And.intro hbB trivial))
 clear hVB hbB
 refine wp_region_eff [6, 7, 10] true (fun w' => w'.cell? ⟨k, 11, none⟩ = some (.slice none 0 0) ∧ w'.cell? ⟨w.heap.size, 0, none⟩ = some (.int .i64 g1) ∧ w'.cell? ⟨w.heap.size, 1, none⟩ = some (.int .i64 g2)) (by kernel_rfl) (by kernel_rfl) ?_ ?_
 · (try dsimp only); (repeat' apply And.intro) <;> go_simp
 repeat
  refine wpL_look rfl rfl ?_; apply Exists.intro; refine ⟨?_, ?_⟩
  focus
   rintro w' ⟨s0, s1, s2⟩; go_simp
   first | done | rfl
  simp only [Act.put, sA, sZ, sS]
 refine wpL_do rfl rfl ?_
 apply Exists.intro
 apply Exists.intro
 refine ⟨?_, ?_, ?_⟩
 focus
  go_simp; exact ⟨rfl, rfl⟩
 focus
  refine .inl ?_
  (try dsimp only); (repeat' apply And.intro) <;> go_simp
 simp only [Act.put, sA, sZ, sS]
 refine wpL_act rfl rfl ?_
 refine eff_append (.tmp 72) (.tmp 74) 60 ?e00 k 91 i9x (.agg #[.int .i64 0, .int .i64 0]) 2 16 Tryz.underlying60 hi9 h90 h91 h92 ?e9 ?e10 (.slice none 0 0) 0 [] ?e1 ?e2 ⟨wB.heap.size, 0, none⟩ 1 1 [.int .i64 g1, .int .i64 g2] ?e3 ?e4 ?news ?e5 ?e6 ?e7 ?e8 ?_
 case e00 => rfl
 case e9 => rfl
 case e10 => decide
 case e1 => rfl
 case e3 => rfl
 case e4 => rfl
 case e2 => exact World.ownsRow_nil _ k 91 2
 case e5 => intro u hu; simp at hu; rcases hu with rfl | rfl <;> rfl
 case e6 => unfold maxLen; omega
 case e7 => omega
 case e8 => simp; omega
 case news => exact news_new wB.drew [.int .i64 g1, .int .i64 g2] 91 wB.heap.size
 intro v' w5 hown5 hgrow hloc
 obtain ⟨a', cp', rfl⟩ := own_form hown5
 have hVB2 := HB.out.1.below (bel wB (wB.drew.alloc (Obj.cells #[.int .i64 g1, .int .i64 g2] 91)))
 have hfin := hVB2.turns (T := [(g1, g2)]) hgrow hown5
 have hbk5 : Blk w5 k _ 62 := hVB2.grown_blk (v := .slice none 0 0) hgrow (by simp [Value.ownBlock])
 have hx5 : Blk w5 w.heap.size #[.int .i64 g1, .int .i64 g2] 91 := (hgrow.block _ (by have := i3B.lt; simp; omega) (by simp [Value.ownBlock])).trans hVB2.ex
 have b11 : w5.cell? ⟨k, 11, none⟩ = some (.slice none 0 0) := hbk5.cell 11
 have f11 : w5.frozen? ⟨k, 11, none⟩ = false := hbk5.frozen 11
 have r0 : w5.cell? ⟨w.heap.size, 0, none⟩ = some (.int .i64 g1) := hx5.cell 0
 have r1 : w5.cell? ⟨w.heap.size, 1, none⟩ = some (.int .i64 g2) := hx5.cell 1
 have iK5 := hbk5.lt
 have hb5 : Below k w (w5.setCell ⟨k, 11, none⟩ (.slice a' (0 + 1) cp')) := HB.out.2.1.trans (((bel wB (wB.drew.alloc (Obj.cells #[.int .i64 g1, .int .i64 g2] 91))).mono hkB).trans (turned_below (v := .slice none 0 0) hgrow (by simp; omega) (Nat.le_refl _) (fun g hg => by simp [Value.ownBlock] at hg)))
 have HF := Lib.hid (And.intro hfin hb5)
 clear hown5 hgrow hloc hVB2 hfin hb5 hbk5 hx5
 refine ⟨.inl ?_, ?_⟩
 focus
  (try dsimp only); (repeat' apply And.intro) <;> go_simp
 simp only [Act.put, sA, sZ, sS]
 repeat
  refine wpL_look rfl rfl ?_; apply Exists.intro; refine ⟨?_, ?_⟩
  focus
   rintro w' ⟨s0, s1, s2⟩; go_simp
   first | done | rfl
  simp only [Act.put, sA, sZ, sS]
 refine wpL_skip rfl rfl ?_
 refine ⟨w5.setCell ⟨k, 11, none⟩ (.slice a' (0 + 1) cp'), ?_, .inr ⟨rfl, rfl⟩, ?_⟩
 focus
  go_simp
 simp only [Act.put, sA, sZ, sS]
 refine wpL_end ?_
 go_upto_region 11 with fail
 refine abs_world (F := fun wC => VwAt wC k p c fine GL [(g1, g2)] GM 0 0 0 ∧ Below k w wC) HF.out ?_
 clear HF b11 q0 q1 iKB i3B f11 r0 r1 HB iK5
 rintro wC ⟨hVC, hbC⟩
 obtain ⟨lv5, tv5, mv5, g5, _⟩ := id hVC
 have c14 : wC.cell? ⟨k, 14, none⟩ = some (.int .i64 0) := g5.cell 14
 have f14 := g5.frozen 14
 have iC := g5.lt
 have HC := Lib.hid (And.intro (hVC.counts_at rn) (hbC.setCell (p := ⟨k, 14, none⟩) (Nat.le_refl _) (.int .i64 rn)))
 clear hVC hbC g5
 go_wp2_with fail
 exact bodyPost_end (v := .tuple #[]) (by simp [results, go_sem]) rfl ⟨rfl, HC.out⟩
theorem view_link {S S' : PSt} {c : PCall} {r : PRes} (hwf : S.wf) (hlk : linkedB S = true) (hk : c.kind = 8) (hp : (parseM c.path).1 = 0) (hnl : (parseM c.path).2.length ≤ 1000000000) (hp2 : (parseM c.path2).1 = 0) (hnl2 : (parseM c.path2).2.length ≤ 1000000000) (D : Did S c S' r)
 (R1 R2 : VRes) (hR1 : vwalkF S (parseM c.path).2 (0, 0) 1 [] [1] = R1) (hR2 : vwalkF S (parseM c.path2).2 (0, 0) 1 R1.L (R1.M ++ [1]) = R2) (hl1 : R1.L.length ≤ 1000000000) (hm1 : R1.M.length ≤ 1000000000) :
 HasView S c (r.code == 0) R2.L (cutL (r.code == 0) [R2.last]) R2.M 0 (cutI (r.code == 0) R1.num) := by
 intro ww p h
 have := of23 p S S' c r _ _ _ 0 R1.num 0 ww h hwf D (by omega) (fun wx k fine hn hl => paths_link k p S c fine wx hn hl hwf hlk hk hp hnl hp2 hnl2 R1 R2 hR1 hR2 hl1 hm1)
 rw [cutI_zero] at this
 exact this
def z200 : ByteArray := ⟨(List.replicate 200 (0 : UInt8)).toArray⟩
def s6 : PSt := ⟨[⟨1, true, [⟨⟨#[100]⟩, 10⟩, ⟨⟨#[101]⟩, 3⟩, ⟨⟨#[120]⟩, 2⟩], ⟨#[]⟩⟩, ⟨2, false, [], z200⟩, ⟨3, true, [], ⟨#[]⟩⟩, ⟨10, true, [], ⟨#[]⟩⟩], [⟨0, 0, 2⟩, ⟨1, 0, 2⟩], [2, 1]⟩
def pth (i : Nat) : ByteArray := ⟨#[47, 110] ++ (if i < 10 then #[UInt8.ofNat (48 + i)] else #[49, UInt8.ofNat (38 + i)])⟩
def doB (S : PSt) (c : PCall) : PSt × PRes := if c.kind = 8 then doM S c (linkDo S c PRes.zero) else doM S c (createM S c PRes.zero)
def okP (p : ByteArray) : Bool := (parseM p).1 == 0 && (parseM p).2.length.ble 1000
theorem okP_ {p : ByteArray} (h : okP p = true) : (parseM p).1 = 0 ∧ (parseM p).2.length ≤ 1000000000 := by
 unfold okP at h
 simp only [Bool.and_eq_true, beq_iff_eq] at h
 exact ⟨h.1, lenB h.2⟩
def okB (S : PSt) (c : PCall) : Bool := goodB S && (linkedB S && (okP c.path && ((c.kind == 0 || c.kind == 1) || (okP c.path2 && c.kind == 8))))
theorem okB_ {S : PSt} {c : PCall} (h : okB S c = true) : goodB S = true ∧ linkedB S = true ∧ okP c.path = true ∧ ((c.kind = 0 ∨ c.kind = 1) ∨ (okP c.path2 = true ∧ c.kind = 8)) := by
 unfold okB at h
 simpa only [Bool.and_eq_true, Bool.or_eq_true, beq_iff_eq] using h
theorem did_b {S : PSt} {c : PCall} (h : okB S c = true) : Did S c (doB S c).1 (doB S c).2 := by
 obtain ⟨hg, hl, hp, hk⟩ := okB_ h
 obtain ⟨hp1, hp2⟩ := okP_ hp
 rcases hk with hk | ⟨hq, hk⟩
 · have e : doB S c = doM S c (createM S c PRes.zero) := by
    unfold doB; rw [if_neg (by omega)]
   rw [e]; exact did_create (good_wf hg).1 (good_wf hg).2.1 hk hp1 hp2 rfl
 · obtain ⟨hq1, hq2⟩ := okP_ hq
   · have e : doB S c = doM S c (linkDo S c PRes.zero) := by
      unfold doB; rw [if_pos hk]
     rw [e]; exact did_link (good_wf hg).1 (good_wf hg).2.1 hk hp1 hp2 hq1 hq2 rfl
def vA (S : PSt) (c : PCall) : VRes := vwalkF S (parseM c.path).2 (0, 0) 1 [] [1]
def vB (S : PSt) (c : PCall) : VRes := vwalkF S (parseM c.path2).2 (0, 0) 1 (vA S c).L ((vA S c).M ++ [1])
def vL (S : PSt) (c : PCall) : List (Int × Int) := if c.kind = 8 then (vB S c).L else (vA S c).L
def vT (S : PSt) (c : PCall) : List (Int × Int) := cutL ((doB S c).2.code == 0) (if c.kind = 8 then [(vB S c).last] else [(vA S c).last])
def vM (S : PSt) (c : PCall) : List Int := if c.kind = 8 then (vB S c).M else (vA S c).M
def vO (S : PSt) (c : PCall) : Int := if c.kind = 8 then cutI ((doB S c).2.code == 0) (vA S c).num else 0
theorem view_b {S : PSt} {c : PCall} (h : okB S c = true) (hl1 : (vA S c).L.length.ble 1000 = true) (hm1 : (vA S c).M.length.ble 1000 = true) :
 HasView S c ((doB S c).2.code == 0) (vL S c) (vT S c) (vM S c) 0 (vO S c) := by
 have D := did_b h
 obtain ⟨hg, hl, hp, hk⟩ := okB_ h
 obtain ⟨hp1, hp2⟩ := okP_ hp
 rcases hk with hk | ⟨hq, hk⟩
 · have e := view_create (good_wf hg).1 hl hk hp1 hp2 D; unfold vL vT vM vO; rw [if_neg (by omega), if_neg (by omega), if_neg (by omega), if_neg (by omega)]; exact e
 · obtain ⟨hq1, hq2⟩ := okP_ hq
   · have e := view_link (good_wf hg).1 hl hk hp1 hp2 hq1 hq2 D (vA S c) (vB S c) rfl rfl (lenB hl1) (lenB hm1); unfold vL vT vM vO; rw [if_pos hk, if_pos hk, if_pos hk, if_pos hk]; exact e
end Go.Proofs.YtjkenolgkkknaaaGreatDoor
namespace Go
def putsL (σ : Nat → Value) : Nat → List Oper → Act → Act
 | _, [], a => a
 | i, o :: r, a => putsL σ (i + 1) r (a.put o.dst (σ i))
def dstsL (l : List Oper) : List Tmp := l.filterMap (·.dst)
def updV (σ : Nat → Value) (i : Nat) (v : Value) : Nat → Value := fun j => if j = i then v else σ j
theorem Act.put_put (a : Act) (x : Option Tmp) (v u : Value) : (a.put x v).put x u = a.put x u := by
 cases x with
 | none => rfl
 | some d => simp [Act.put, Array.setIfInBounds_setIfInBounds]
theorem putsL_comm (σ : Nat → Value) (x : Option Tmp) (v : Value) : ∀ (l : List Oper) (i : Nat) (a : Act), (∀ d, x = some d → d ∉ dstsL l) → (putsL σ i l a).put x v = putsL σ i l (a.put x v)
 | [], _, _, _ => rfl
 | o :: r, i, a, h => by
   simp only [putsL]; rw [putsL_comm σ x v r (i + 1) _ (fun d hd hm => h d hd (by
    unfold dstsL at hm ⊢; rw [List.filterMap_cons]
    split
    · exact hm
    · exact List.mem_cons_of_mem _ hm))]
   congr 1
   refine Act.put_comm a _ _ (fun d hd hx => h d hx ?_); unfold dstsL; rw [List.filterMap_cons, hd]; exact List.mem_cons_self
theorem putsL_congr {σ τ : Nat → Value} : ∀ (l : List Oper) (i : Nat) (a : Act), (∀ j, i ≤ j → σ j = τ j) → putsL σ i l a = putsL τ i l a
 | [], _, _, _ => rfl
 | o :: r, i, a, h => by
   simp only [putsL]; rw [h i (Nat.le_refl _), putsL_congr r (i + 1) _ (fun j hj => h j (by omega))]
theorem dstsL_cons (o : Oper) (r : List Oper) : dstsL (o :: r) = match o.dst with | none => dstsL r | some d => d :: dstsL r := by
 unfold dstsL
 rw [List.filterMap_cons]
 cases o.dst <;> rfl
theorem dstsL_mem {l : List Oper} {j : Nat} {o : Oper} {d : Tmp} (ho : l[j]? = some o) (hd : o.dst = some d) : d ∈ dstsL l := List.mem_filterMap.2 ⟨o, mG ho, hd⟩
theorem putsL_upd (σ : Nat → Value) (v : Value) : ∀ (l : List Oper) (i j : Nat) (a : Act) (o : Oper), (dstsL l).Nodup → l[j]? = some o → (putsL σ i l a).put o.dst v = putsL (updV σ (i + j) v) i l a
 | [], _, _, _, _, _, h => by simp at h
 | q :: r, i, 0, a, o, hn, h => by
   simp only [List.getElem?_cons_zero, Option.some.injEq] at h; subst h; simp only [putsL]; have hnd : ∀ d, q.dst = some d → d ∉ dstsL r := fun d hd hm => by
    rw [dstsL_cons, hd] at hn; exact (List.nodup_cons.1 hn).1 hm
   rw [putsL_comm σ q.dst v r (i + 1) _ hnd, Act.put_put]; have e : updV σ (i + 0) v i = v := by simp [updV]
   rw [e]; exact putsL_congr r (i + 1) _ (fun j hj => by unfold updV; rw [if_neg (by omega)])
 | q :: r, i, j + 1, a, o, hn, h => by
   simp only [List.getElem?_cons_succ] at h; simp only [putsL]; have hn' : (dstsL r).Nodup := by
    rw [dstsL_cons] at hn
    split at hn
    · exact hn
    · exact (List.nodup_cons.1 hn).2
   rw [putsL_upd σ v r (i + 1) j _ o hn' h]; have e : updV σ (i + (j + 1)) v i = σ i := by unfold updV; rw [if_neg (by omega)]
   rw [e, show i + 1 + j = i + (j + 1) by omega]
theorem putsL_out (σ : Nat → Value) (x : Tmp) : ∀ (l : List Oper) (i : Nat) (a : Act), x ∉ dstsL l → (putsL σ i l a).eval (.tmp x) = a.eval (.tmp x)
 | [], _, _, _ => rfl
 | o :: r, i, a, h => by
   simp only [putsL]; rw [putsL_out σ x r (i + 1) _ (fun hm => h (by rw [dstsL_cons]; split; exact hm; exact List.mem_cons_of_mem _ hm))]; exact Act.eval_put fun d hd hx => h (by
    cases hx; rw [dstsL_cons, hd]; exact List.mem_cons_self)
theorem put_size (a : Act) (x : Option Tmp) (v : Value) : (a.put x v).tmps.size = a.tmps.size := by
 cases x <;> simp [Act.put]
theorem eval_put_self (a : Act) (d : Tmp) (v : Value) (h : d < a.tmps.size) : (a.put (some d) v).eval (.tmp d) = v := by
 simp [Act.put, Act.eval, h]
theorem putsL_in (σ : Nat → Value) : ∀ (l : List Oper) (i j : Nat) (a : Act) (o : Oper) (d : Tmp), (dstsL l).Nodup → l[j]? = some o → o.dst = some d → d < a.tmps.size → (putsL σ i l a).eval (.tmp d) = σ (i + j)
 | [], _, _, _, _, _, _, h, _, _ => by simp at h
 | q :: r, i, 0, a, o, d, hn, h, hd, hl => by
   simp only [List.getElem?_cons_zero, Option.some.injEq] at h; subst h; simp only [putsL]; rw [putsL_out σ d r (i + 1) _ (fun hm => by
    rw [dstsL_cons, hd] at hn; exact (List.nodup_cons.1 hn).1 hm), hd]
   exact eval_put_self a d _ hl
 | q :: r, i, j + 1, a, o, d, hn, h, hd, hl => by
   simp only [List.getElem?_cons_succ] at h; simp only [putsL]; have hn' : (dstsL r).Nodup := by
    rw [dstsL_cons] at hn
    split at hn
    · exact hn
    · exact (List.nodup_cons.1 hn).2
   rw [putsL_in σ r (i + 1) j _ o d hn' h hd (by rw [put_size]; exact hl), show i + 1 + j = i + (j + 1) by omega]
def Region.invB (l : List Oper) : Bool :=
 Region.noSelect l.toArray && decide ((dstsL l).Nodup) && (List.range l.length).all fun i => match l[i]? with
  | some o => o.after.toList.all fun e => !Region.binds .any e || decide (e.on < i)
  | none => true
def Oper.waits (o : Oper) : List Nat := (o.after.toList.filter fun e => Region.binds .any e).map (·.on)
def EachOp (p : Nat → Oper → Prop) : Nat → List Oper → Prop
 | _, [] => True
 | i, o :: r => p i o ∧ EachOp p (i + 1) r
theorem EachOp.at_ {p : Nat → Oper → Prop} : ∀ {l : List Oper} {i j : Nat} {o : Oper}, EachOp p i l → l[j]? = some o → p (i + j) o
 | [], _, _, _, _, h => by simp at h
 | q :: r, i, 0, o, h, ho => by
   simp only [List.getElem?_cons_zero, Option.some.injEq] at ho; subst ho; exact h.1
 | q :: r, i, j + 1, o, h, ho => by
   simp only [List.getElem?_cons_succ] at ho; have := EachOp.at_ h.2 ho; rw [show i + 1 + j = i + (j + 1) by omega] at this; exact this
section
variable {P : Program} {l : List Oper} {Q : Exit → Act → World → Prop}
theorem wpAny_inv (R : (Nat → Prop) → (Nat → Value) → World → Prop) {a0 : Act} (hB : Region.invB l = true) (hsz : ∀ d ∈ dstsL l, d < a0.tmps.size)
 (hstep : EachOp (fun i o => ∀ (D : Nat → Prop) (σ : Nat → Value) (w : World) (a : Act), ¬ D i → (∀ k, o.waits.contains k = true → D k) → R D σ w → (∀ j q d, l[j]? = some q → q.dst = some d → a.eval (.tmp d) = σ j) → (∀ d, (dstsL l).contains d = false → a.eval (.tmp d) = a0.eval (.tmp d)) →
  (Region.wanted o (yielded l.toArray a.tmps) = true → o.eff P a w fun v w' => R (fun j => j = i ∨ D j) (updV σ i v) w') ∧ (Region.wanted o (yielded l.toArray a.tmps) = false → R (fun j => j = i ∨ D j) (updV σ i undef) w)) 0 l)
 (hend : ∀ σ w, R (fun _ => True) σ w → Q .normal (putsL σ 0 l a0) w) :
 ∀ (n : Nat) (listed : Array Bool) (σ : Nat → Value) (w : World), listed.size = l.length → listed.toList.count false = n → R (fun j => listed.getD j true = true) σ w → wpAny P .any l.toArray Q n listed (putsL σ 0 l a0) w := by
 simp only [Region.invB, Bool.and_eq_true, decide_eq_true_eq, List.all_eq_true, beq_iff_eq] at hB
 obtain ⟨⟨hsel, hnd⟩, hlt⟩ := hB
 intro n
 induction n with
 | zero =>
   intro listed σ w hs hc hR; have hall : ∀ j, listed.getD j true = true := fun j => by
    by_cases hj : j < listed.size
    · rw [List.count_eq_zero] at hc; have hm : listed[j] ∈ listed.toList := by simp
      rcases h : listed[j] with _ | _
      · rw [h] at hm; exact absurd hm hc
      · simp [Array.getD, hj, h]
    · simp [Array.getD, hj]
   refine ⟨List.eq_nil_iff_forall_not_mem.2 fun i hi => ?_, hend σ w ?_⟩
   · obtain ⟨h0, _⟩ := mem_ready.1 hi; rw [hall i] at h0; cases h0
   · have e : (fun j => listed.getD j true = true) = fun _ => True := funext fun j => propext ⟨fun _ => trivial, fun _ => hall j⟩
     rw [← e]; exact hR
 | succ n ih =>
   intro listed σ w hs hc hR; have un : ∀ j, j < listed.size → ¬ listed.getD j false = true → listed.getD j true = false := fun j hj h => by
    simp [Array.getD, hj] at h ⊢; exact h
   have hrd : ∀ i, listed.getD i true = false → Region.ready .any l.toArray listed ≠ [] := by
    intro i
    induction i using Nat.strongRecOn with
    | ind i ihi =>
      intro h h0; have hi : i < l.length := by
       rw [← hs]; by_cases hj : i < listed.size
       · exact hj
       · simp [Array.getD, hj] at h
      by_cases hall : ∀ e ∈ l[i].after, Region.binds .any e = true → listed.getD e.on false = true
      · have : i ∈ Region.ready .any l.toArray listed := mem_ready.2 ⟨h, l[i], by simp [hi], hall⟩; rw [h0] at this; cases this
      · obtain ⟨e, he⟩ := Classical.not_forall.1 hall; obtain ⟨hm, he⟩ := Classical.not_imp.1 he; obtain ⟨hb, hx⟩ := Classical.not_imp.1 he; have h1 := hlt i (List.mem_range.2 hi); rw [gE hi] at h1; simp only [List.all_eq_true, Bool.or_eq_true, Bool.not_eq_true', decide_eq_true_eq] at h1; have hon : e.on < i := by
         rcases h1 e (by simpa using hm) with h2 | h2
         · rw [hb] at h2; cases h2
         · exact h2
        exact ihi e.on hon (un e.on (by omega) hx) h0
   refine ⟨fun h0 => ?_, fun i hi => ?_⟩
   · exfalso; have hm : false ∈ listed.toList := by
      refine Classical.byContradiction fun h => ?_
      rw [List.count_eq_zero.2 h] at hc; cases hc
     obtain ⟨j, hj, he⟩ := List.getElem_of_mem hm; have hj' : j < listed.size := by simpa using hj
     refine hrd j ?_ h0; simp [Array.getD, hj']; simpa using he
   · obtain ⟨h0, o, ho, hd⟩ := mem_ready.1 hi; have ho' : l[i]? = some o := by simpa using ho
     obtain ⟨hil, hio⟩ := gI.1 ho'; have his : i < listed.size := by omega
     unfold wpOp; simp only [ho]; have hst := EachOp.at_ hstep ho'; rw [Nat.zero_add] at hst; have h1 := hst (fun j => listed.getD j true = true) σ w (putsL σ 0 l a0) (by rw [h0]; exact Bool.false_ne_true) (fun k hk => ?_) hR (fun j q d hq hqd => ?_) (fun d hdm => ?_)
     · have hgo : ∀ v w', R (fun j => j = i ∨ listed.getD j true = true) (updV σ i v) w' → wpAny P .any l.toArray Q n (listed.setIfInBounds i true) ((putsL σ 0 l a0).put o.dst v) w' := by
        intro v w' hR'; rw [putsL_upd σ v l 0 i a0 o hnd ho', Nat.zero_add]; refine ih _ _ _ (by simpa using hs) ?_ ?_
        · have hlf : listed[i] = false := by simpa [Array.getD, his] using h0
          rw [Array.toList_setIfInBounds, List.count_set (by simpa using his)]; simp [hlf] at hc ⊢; omega
        · have e : (fun j => (listed.setIfInBounds i true).getD j true = true) = fun j => j = i ∨ listed.getD j true = true := funext fun j => propext (by
           by_cases hij : i = j
           · subst hij; simp [Array.getD, his]
           · rw [getD_set_ne true hij]; constructor
             · exact .inr
             · rintro (h | h)
               · exact absurd h.symm hij
               · exact h)
          rw [e]; exact hR'
       rcases hwd : Region.wanted o (yielded l.toArray (putsL σ 0 l a0).tmps) with _ | _
       · rw [if_neg (by simp)]; exact hgo _ _ (h1.2 hwd)
       · rw [if_pos rfl]; exact .inl (Oper.wp_of_eff (h1.1 hwd) hgo)
     · unfold Oper.waits at hk; simp only [List.contains_eq_mem, decide_eq_true_eq] at hk; obtain ⟨e, he, rfl⟩ := List.mem_map.1 hk; obtain ⟨he1, he2⟩ := List.mem_filter.1 he; have := hd e (by simpa using he1) he2; by_cases hj : e.on < listed.size
       · simp [Array.getD, hj] at this ⊢; exact this
       · simp [Array.getD, hj]
     · have := putsL_in σ l 0 j a0 q d hnd hq hqd (hsz d (dstsL_mem hq hqd)); rw [Nat.zero_add] at this; exact this
     · refine putsL_out σ d l 0 a0 (fun hm => ?_); have : (dstsL l).contains d = true := by simpa using hm
       rw [this] at hdm; cases hdm
theorem wp_region_invG {id : Nat} (R : (Nat → Prop) → (Nat → Value) → World → Prop) {a0 : Act} {w : World} (hm : P.follows .mixedOrders = true) (hB : Region.invB l = true) (hsz : ((dstsL l).all fun d => decide (d < a0.tmps.size)) = true)
 (h0 : ∀ σ, R (fun j => l.length ≤ j) σ w.drew)
 (hstep : EachOp (fun i o => ∀ (D : Nat → Prop) (σ : Nat → Value) (w : World) (a : Act), ¬ D i → (∀ k, o.waits.contains k = true → D k) → R D σ w → (∀ j q d, l[j]? = some q → q.dst = some d → a.eval (.tmp d) = σ j) → (∀ d, (dstsL l).contains d = false → a.eval (.tmp d) = a0.eval (.tmp d)) →
  (Region.wanted o (yielded l.toArray a.tmps) = true → o.eff P a w fun v w' => R (fun j => j = i ∨ D j) (updV σ i v) w') ∧ (Region.wanted o (yielded l.toArray a.tmps) = false → R (fun j => j = i ∨ D j) (updV σ i undef) w)) 0 l)
 (hend : ∀ σ w, R (fun _ => True) σ w → Q .normal (putsL σ 0 l a0) w) : (Code.region id l.toArray true).wp P Q a0 w := by
 have hsz' : ∀ d ∈ dstsL l, d < a0.tmps.size := fun d hd => by
  have := List.all_eq_true.1 hsz d hd; simpa using this
 have hB' := hB
 simp only [Region.invB, Bool.and_eq_true, decide_eq_true_eq, List.all_eq_true, beq_iff_eq] at hB'
 obtain ⟨⟨_, hnd⟩, _⟩ := hB'
 have hself : ∀ (l' : List Oper) (i : Nat) (τ : Nat → Value), (∀ j o d, l'[j]? = some o → o.dst = some d → τ (i + j) = a0.eval (.tmp d)) → (∀ d ∈ dstsL l', d < a0.tmps.size) → putsL τ i l' a0 = a0 := by
  intro l'
  induction l' with
  | nil => intro i τ _ _; rfl
  | cons o r ih =>
    intro i τ hτ hs; simp only [putsL]; have e : a0.put o.dst (τ i) = a0 := by
     rcases hd : o.dst with _ | d
     · rfl
     · have h1 := hτ 0 o d rfl hd; rw [Nat.add_zero] at h1; have hdl := hs d (dstsL_mem (j := 0) rfl hd); rw [h1]; rcases a0 with ⟨t, df⟩
       simp only [Act.put, Act.eval]
       congr 1
       apply Array.ext
       · simp
       · intro k hk1 hk2; rw [Array.getElem_setIfInBounds]
         split
         · rename_i hdk
           subst hdk; simp [hk2]
         · rfl
    rw [e]; exact ih (i + 1) τ (fun j o' d ho hd => by
     have := hτ (j + 1) o' d (by simpa using ho) hd; rw [show i + 1 + j = i + (j + 1) by omega]; exact this) (fun d hd => hs d (by rw [dstsL_cons]; split; exact hd; exact List.mem_cons_of_mem _ hd))
 refine wp_region_any hm ?_
 have h1 := wpAny_inv (Q := Q) R hB hsz' hstep hend l.length (Array.replicate l.length false) (fun j => match l[j]? with | some o => (match o.dst with | some d => a0.eval (.tmp d) | none => undef) | none => undef) w.drew (by simp) (by simp) (by
  have e : (fun j => (Array.replicate l.length false).getD j true = true) = fun j => l.length ≤ j := funext fun j => propext (by
   by_cases hj : j < l.length
   · simp [hj] <;> omega
   · simp [hj] <;> omega)
  rw [e]; exact h0 _)
 rw [hself l 0 _ (fun j o d ho hd => by rw [Nat.zero_add, ho]; simp only [hd]) hsz'] at h1
 simpa using h1
theorem EachOp.imp {p q : Nat → Oper → Prop} : ∀ {l : List Oper} {i : Nat}, (∀ j o, l[j]? = some o → p (i + j) o → q (i + j) o) → EachOp p i l → EachOp q i l
 | [], _, _, _ => trivial
 | o :: r, i, h, hp => ⟨h 0 o rfl hp.1, EachOp.imp (fun j o' ho h1 => by
  have := h (j + 1) o' (by simpa using ho); rw [show i + 1 + j = i + (j + 1) by omega] at h1 ⊢; exact this h1) hp.2⟩
theorem wp_region_inv {id : Nat} (R : (Nat → Prop) → (Nat → Value) → World → Prop) {a0 : Act} {w : World} (hm : P.follows .mixedOrders = true) (hB : (Region.invB l && l.all fun o => o.guard == none) = true) (hsz : ((dstsL l).all fun d => decide (d < a0.tmps.size)) = true)
 (h0 : ∀ σ, R (fun j => l.length ≤ j) σ w.drew)
 (hstep : EachOp (fun i o => ∀ (D : Nat → Prop) (σ : Nat → Value) (w : World) (a : Act), ¬ D i → (∀ k, o.waits.contains k = true → D k) → R D σ w → (∀ j q d, l[j]? = some q → q.dst = some d → a.eval (.tmp d) = σ j) → (∀ d, (dstsL l).contains d = false → a.eval (.tmp d) = a0.eval (.tmp d)) →
  o.eff P a w fun v w' => R (fun j => j = i ∨ D j) (updV σ i v) w') 0 l)
 (hend : ∀ σ w, R (fun _ => True) σ w → Q .normal (putsL σ 0 l a0) w) : (Code.region id l.toArray true).wp P Q a0 w := by
 simp only [Bool.and_eq_true, List.all_eq_true, beq_iff_eq] at hB
 refine wp_region_invG R hm hB.1 hsz h0 (EachOp.imp (fun j o ho hp => ?_) hstep) hend
 intro D σ w a h1 h2 h3 h4 h5
 have hw : Region.wanted o (yielded l.toArray a.tmps) = true := by
  unfold Region.wanted; rw [hB.2 o (mG ho)]
 exact ⟨fun _ => hp D σ w a h1 h2 h3 h4 h5, fun e => by rw [hw] at e; cases e⟩
end
end Go
namespace Go.Proofs.YtjkenolgkkknaaaGreatDoor
open Go.RowKit
theorem VwNew.at_ {w : World} {k p : Nat} {c : PCall} {fine : Bool} (h : VwNew w k p c fine) : VwAt w k p c fine [] [] [] 0 0 0 :=
 ⟨.slice none 0 0, .slice none 0 0, .slice none 0 0, h, World.ownsRow_nil w k 91 2, World.ownsRow_nil w k 91 2, World.ownsRow_nil w k 3 1⟩
theorem paths_none (k p : Nat) (c : PCall) (fine : Bool) (w : World) (h : VwNew w k p c fine) (hk : 3 ≤ c.kind ∧ c.kind ≤ 7) :
 Calls Tryz.prog 44 #[.pointer (some ⟨k, 0, none⟩)] w fun e w' => e = .returned (.tuple #[]) ∧ VwAt w' k p c fine [] [] [] 0 0 0 ∧ Below k w w' := by
 have iK := h.lt
 have hkw : k ≤ w.heap.size := by have := iK.lt; omega
 have c1 : w.cell? ⟨k, 1, none⟩ = some (.int .i64 c.kind) := h.cell 1
 have H := Lib.hid h
 clear h
 have g1 : decide (c.kind ≤ 2) = false := decide_eq_false (by omega)
 have g2 : decide (8 ≤ c.kind) = false := decide_eq_false (by omega)
 have n0 : ¬ c.kind = 0 := by omega
 have n1 : ¬ c.kind = 1 := by omega
 have n8 : ¬ c.kind = 8 := by omega
 have n9 : ¬ c.kind = 9 := by omega
 have n10 : ¬ c.kind = 10 := by omega
 have n11 : ¬ c.kind = 11 := by omega
 have n12 : ¬ c.kind = 12 := by omega
 have n13 : ¬ c.kind = 13 := by omega
 clear hk
 go_enter Tryz.func44, Tryz.ntmps44
 go_wp2_with fail
 exact bodyPost_end (v := .tuple #[]) (by simp [results, go_sem]) rfl ⟨rfl, H.out.at_.below (bel w _), (bel w _).mono hkw⟩
theorem paths_open (k p : Nat) (S : PSt) (c : PCall) (fine : Bool) (w : World) (h : VwNew w k p c fine) (hL : Laid k (fun w => SP w p S) w) (hwf : S.wf) (hlk : linkedB S = true) (hk : c.kind = 2) (hp : (parseM c.path).1 = 0) (hnl : (parseM c.path).2.length ≤ 1000000000) :
 Calls Tryz.prog 44 #[.pointer (some ⟨k, 0, none⟩)] w fun e w' => let R := vwalkF S (parseM c.path).2 (0, 0) 1 [] [1]
  e = .returned (.tuple #[]) ∧ VwAt w' k p c fine R.L [] R.M 0 0 0 ∧ Below k w w' := by
 have iK := h.lt
 have hkw : k ≤ w.heap.size := by have := iK.lt; omega
 have c1 : w.cell? ⟨k, 1, none⟩ = some (.int .i64 c.kind) := h.cell 1
 have c6 : w.cell? ⟨k, 6, none⟩ = some (.string c.path) := h.cell 6
 have hwalk : ∀ ww b3, Below w.heap.size w ww → Blk ww b3 #[.int .i64 0, .int .i64 0] 91 → Calls Tryz.prog 89 #[.pointer (some ⟨k, 0, none⟩), .string c.path] ww _ := fun ww b3 hb h3 =>
  walk89 k k p b3 _ S _ [] [] c.path _ _ ww (VwNew.own (h.below hb iK.lt) b3 _ h3) (hL.below (hb.mono hkw)) (Nat.le_trans hkw hb.size) hwf hlk hp hnl (by simp) (by simp)
 simp only [List.nil_append] at hwalk
 generalize vwalkF S (parseM c.path).2 (0, 0) 1 [] [1] = R at hwalk ⊢
 obtain ⟨⟨l1, l2⟩, rn, RL, RM⟩ := R
 unfold pairAt at hwalk
 simp only at hwalk ⊢
 have H := Lib.hid h
 clear h hL hwf hlk hp hnl
 rw [hk] at c1
 go_enter Tryz.func44, Tryz.ntmps44
 go_upto_region 4 with (go_at_call 89; refine (hwalk _ w.heap.size (bel w _) (Blk.new _ _ _)).mono ?_; rintro e w1 ⟨rfl, ⟨lv1, mv1, hv1⟩, hb1⟩; have e0 : w1.cell? ⟨w.heap.size, 0, none⟩ = some (.int .i64 0) := hv1.ex.cell 0; have e1 : w1.cell? ⟨w.heap.size, 1, none⟩ = some (.int .i64 0) := hv1.ex.cell 1; have f0 := hv1.ex.frozen 0; have f1 := hv1.ex.frozen 1; have i3 := hv1.ex.lt; have HV1 := Lib.hid (And.intro hv1 hb1); clear hv1 hb1)
 refine abs_world (F := fun wA => VwOwn k wA k p w.heap.size #[.int .i64 l1, .int .i64 l2] ⟨c, fine, .slice none 0 0, 0, 0, 0⟩ RL RM lv1 mv1 ∧ Below k w wA) ⟨HV1.out.1.exSet _ _, ((((bel w (w.alloc (Obj.cells #[.int .i64 0, .int .i64 0] 91))).mono hkw).trans HV1.out.2).setCell (p := ⟨w.heap.size, 0, none⟩) hkw _).setCell (p := ⟨w.heap.size, 1, none⟩) hkw _⟩ ?_
 clear e0 e1 f0 f1 i3 HV1 c1
 rintro wA ⟨hVA, hbA⟩
 have a1 : wA.cell? ⟨k, 1, none⟩ = some (.int .i64 c.kind) := hVA.blk.cell 1
 rw [hk] at a1
 have iKA := hVA.blk.lt
 have hkA : k ≤ wA.heap.size := by have := iKA.lt; omega
 have HA := Lib.hid (And.intro hVA hbA)
 clear hVA hbA
 go_wp2_with fail
 exact bodyPost_end (v := .tuple #[]) (by simp [results, go_sem]) rfl ⟨rfl, (HA.out.1.below (bel wA _)).at_, HA.out.2.trans ((bel wA _).mono hkA)⟩
structure VwC (w : World) (k p : Nat) (c : PCall) (fine : Bool) (L T : List (Int × Int)) (M : List Int) (bytes counts gone : Int) (lv tv mv : Value) : Prop where
 blk : Blk w k (vwCells p ⟨c, fine, tv, bytes, counts, gone⟩ lv mv) 62
 lo : w.ownsRow k 91 2 lv L.length (L.map prCells).flatten
 tu : w.ownsRow k 91 2 tv T.length (T.map prCells).flatten
 mo : w.ownsRow k 3 1 mv M.length (M.map (Value.int .i64))
section
variable {w w1 w' : World} {k p : Nat} {c : PCall} {fine : Bool} {L T : List (Int × Int)} {M : List Int} {by_ co go : Int} {lv tv mv : Value}
theorem VwC.at_ (h : VwC w k p c fine L T M by_ co go lv tv mv) : VwAt w k p c fine L T M by_ co go := ⟨lv, tv, mv, h.blk, h.lo, h.tu, h.mo⟩
theorem VwC.below (h : VwC w k p c fine L T M by_ co go lv tv mv) (hb : Below w.heap.size w w') : VwC w' k p c fine L T M by_ co go lv tv mv := by
 have hk : Keep (fun _ => False) w w' := Keep.of_below hb _
 exact ⟨hk.blk h.blk id, hk.own h.lo (fun _ _ => id), hk.own h.tu (fun _ _ => id), hk.own h.mo (fun _ _ => id)⟩
theorem VwC.setBytes (h : VwC w k p c fine L T M by_ co go lv tv mv) (n : Int) : VwC (w.setCell ⟨k, 13, none⟩ (.int .i64 n)) k p c fine L T M n co go lv tv mv := by
 refine ⟨?_, own_set h.lo h.blk (by decide) 13 _, own_set h.tu h.blk (by decide) 13 _, own_set h.mo h.blk (by decide) 13 _⟩
 have := h.blk.set_ 13 (.int .i64 n)
 simpa [vwCells] using this
theorem VwC.met (h : VwC w k p c fine L T M by_ co go lv tv mv) {mv' : Value} {n : Int} (hg : w.grownBy w1 mv.ownBlock) (hown : w1.ownsRow k 3 1 mv' (M.length + 1) (M.map (Value.int .i64) ++ [.int .i64 n])) :
 VwC (w1.setCell ⟨k, 12, none⟩ mv') k p c fine L T (M ++ [n]) by_ co go lv tv mv' := by
 have hkp := keep_grown (lv := mv) hg k 12 mv'
 have hnk := own_ne_blk h.mo h.blk (by decide)
 have hblk1 : Blk w1 k (vwCells p ⟨c, fine, tv, by_, co, go⟩ lv mv) 62 := (hg.block k h.blk.lt.lt (fun e => hnk e.symm)).trans h.blk
 refine ⟨?_, ?_, ?_, ?_⟩
 · have := hblk1.set_ 12 mv'; simpa [vwCells] using this
 · refine hkp.own h.lo (fun g hg hT => ?_); rcases hT with rfl | hT
   · exact own_ne_blk h.lo h.blk (by decide) hg
   · exact own_ne_own h.mo h.lo (by decide) hg hT
 · refine hkp.own h.tu (fun g hg hT => ?_); rcases hT with rfl | hT
   · exact own_ne_blk h.tu h.blk (by decide) hg
   · exact own_ne_own h.mo h.tu (by decide) hg hT
 · have := own_set hown hblk1 (by decide) 12 mv'; simpa using this
end
theorem VwAt.c {w : World} {k p : Nat} {c : PCall} {fine : Bool} {L T : List (Int × Int)} {M : List Int} {by_ co go : Int} (h : VwAt w k p c fine L T M by_ co go) : ∃ lv tv mv, VwC w k p c fine L T M by_ co go lv tv mv := by
 obtain ⟨lv, tv, mv, h1, h2, h3, h4⟩ := h
 exact ⟨lv, tv, mv, h1, h2, h3, h4⟩
theorem own_ge {w : World} {B : Nat} {e : TypeId} {s n : Nat} {v : Value} {xs : List Value} (h : w.ownsRow B e s v n xs) {g : Nat} (hg : v.ownBlock = some g) : B ≤ g := by
 rcases h.2 with ⟨rfl, _⟩ | ⟨g', cap, cur, rfl, hB, _⟩
 · simp [Value.ownBlock] at hg
 · have : g' = g := by simpa [Value.ownBlock] using hg
   omega
theorem grown_below {B : Nat} {w w1 : World} {o : Option Nat} (hg : w.grownBy w1 o) (ho : ∀ g, o = some g → B ≤ g) (hB : B ≤ w.heap.size) : Below B w w1 :=
 ((Keep.refl (fun b => o = some b) w).grown hg (fun g hg => .inl hg)).below hB (fun i hi h => by have := ho i h; omega)
theorem of23b (p : Nat) (S S' : PSt) (c : PCall) (r : PRes) (y : PDesc) (I : Nat) (w : World) (h : SP w p S) (hwf : S.wf) (D : Did S c S' r) (hk3 : 3 ≤ c.kind) (hk7 : c.kind ≤ 7) (hfine : r.code = 0) (hI : idxM (isFd c) S.op = I) (hy : S.op[I]? = some y) :
 Calls Tryz.prog 23 #[.pointer (some ⟨p, 0, none⟩), .agg (callAr c)] w fun e w' => ∃ k, e = .returned (.pointer (some ⟨k, 0, none⟩)) ∧ VwAt w' k p c true [] [] [y.num] (if c.kind = 3 then 0 else y.num) 0 0 ∧ Below w.heap.size w w' := by
 have hfb : (r.code == 0) = true := by simpa using hfine
 clear hfine
 have HIY := Lib.hid (And.intro hI hy)
 clear hI hy
 obtain ⟨i0, hi, hz0, hz1, hz2⟩ := info_parts info3
 obtain ⟨hl, iv, ov, mv, c0, c1, c2, hr⟩ := h
 have hio : iv.oneCell' = true := by obtain ⟨_, _, _, h3, _⟩ := hr; exact h3.one
 have hoo := hr.1.one
 have hmo := hr.2.1.one
 have iP : BlockLt p w := ⟨hl⟩
 have hop := hwf.2.1
 have HS := Lib.hid hr
 have HSP := Lib.hid (⟨hl, iv, ov, mv, c0, c1, c2, hr⟩ : SP w p S)
 obtain ⟨ao, co0, eo, hato⟩ := hr.1.at_
 rw [lM] at eo
 have HO := Lib.hid hato
 have HEO := Lib.hid eo
 clear hr hato eo
 unfold callAr
 go_enter Tryz.func23, Tryz.ntmps23
 go_upto_region 1 with fail
 go_cut [6] (fun v6 wx => ∃ b6 nv, v6 = .pointer (some ⟨b6, 0, none⟩) ∧ Below (w.alloc (Obj.cells #[.int .i64 c.kind, .int .i64 c.core, .int .i64 c.fd, .int .i64 c.off, .int .i64 c.num, .string c.path, .string c.path2, .string c.data] 29)).heap.size (w.alloc (Obj.cells #[.int .i64 c.kind, .int .i64 c.core, .int .i64 c.fd, .int .i64 c.off, .int .i64 c.num, .string c.path, .string c.path2, .string c.data] 29)) wx ∧ Blk wx b6 #[.int .i64 r.code, .int .i64 r.fd, .int .i64 r.num, .bool r.dir, .string r.data, nv] 46)
 case first =>
  go_region_held3 (fun w' => w'.cell? ⟨p, 0, none⟩ = some iv ∧ w'.cell? ⟨p, 1, none⟩ = some ov ∧ w'.cell? ⟨p, 2, none⟩ = some mv ∧ w'.cell? ⟨w.heap.size, 0, none⟩ = some (.int .i64 c.kind) ∧ w'.cell? ⟨w.heap.size, 1, none⟩ = some (.int .i64 c.core) ∧ w'.cell? ⟨w.heap.size, 2, none⟩ = some (.int .i64 c.fd) ∧ w'.cell? ⟨w.heap.size, 3, none⟩ = some (.int .i64 c.off) ∧ w'.cell? ⟨w.heap.size, 4, none⟩ = some (.int .i64 c.num) ∧ w'.cell? ⟨w.heap.size, 5, none⟩ = some (.string c.path) ∧ w'.cell? ⟨w.heap.size, 6, none⟩ = some (.string c.path2) ∧ w'.cell? ⟨w.heap.size, 7, none⟩ = some (.string c.data))
   (first | (try dsimp only) <;> (repeat' apply And.intro) <;> go_simp)
   (first | (go_at_call 20; refine (D _ _ _ _ (HS.out.below (bel w _) (Nat.le_refl _))).mono ?_; rintro e wa ⟨hb, iv1, ov1, mv1, nv1, rfl, hs1, hn1⟩; obtain ⟨pa, rfl⟩ := hb.rest; clear hb; obtain ⟨a11, a12, a13, a14, a15, a16, a17, a18, a19, rfl, rfl, rfl⟩ := hs1.forms; obtain ⟨n11, n12, n13, rfl⟩ := hn1.form; clear hs1 hn1))
  all_goals go_wp2_with fail
  all_goals go_meet
  all_goals (refine ⟨_, .slice n11 n12 n13, rfl, bel (w.alloc (Obj.cells #[.int .i64 c.kind, .int .i64 c.core, .int .i64 c.fd, .int .i64 c.off, .int .i64 c.num, .string c.path, .string c.path2, .string c.data] 29)) _, ?_⟩)
  all_goals (repeat (first | exact Blk.new_i _ _ _ _ | refine Blk.alloc ?_ _ | refine Blk.junk ?_ _ | refine Blk.drew ?_))
 case rest =>
  obtain ⟨b6, nv, rfl, hb6, h6⟩ := hcut; have hbw : Below w.heap.size w wc := (bel w (w.alloc (Obj.cells #[.int .i64 c.kind, .int .i64 c.core, .int .i64 c.fd, .int .i64 c.off, .int .i64 c.num, .string c.path, .string c.path2, .string c.data] 29))).trans (hb6.mono (by simp)); have d0 : wc.cell? ⟨b6, 0, none⟩ = some (.int .i64 r.code) := h6.cell 0; have i6 := h6.lt; have hbxc : Blk wc w.heap.size #[.int .i64 c.kind, .int .i64 c.core, .int .i64 c.fd, .int .i64 c.off, .int .i64 c.num, .string c.path, .string c.path2, .string c.data] 29 := (Blk.new w #[.int .i64 c.kind, .int .i64 c.core, .int .i64 c.fd, .int .i64 c.off, .int .i64 c.num, .string c.path, .string c.path2, .string c.data] 29).below hb6 (by simp); have y0 : wc.cell? ⟨w.heap.size, 0, none⟩ = some (.int .i64 c.kind) := hbxc.cell 0; have y1 : wc.cell? ⟨w.heap.size, 1, none⟩ = some (.int .i64 c.core) := hbxc.cell 1; have y2 : wc.cell? ⟨w.heap.size, 2, none⟩ = some (.int .i64 c.fd) := hbxc.cell 2; have y3 : wc.cell? ⟨w.heap.size, 3, none⟩ = some (.int .i64 c.off) := hbxc.cell 3; have y4 : wc.cell? ⟨w.heap.size, 4, none⟩ = some (.int .i64 c.num) := hbxc.cell 4; have y5 : wc.cell? ⟨w.heap.size, 5, none⟩ = some (.string c.path) := hbxc.cell 5; have y6 : wc.cell? ⟨w.heap.size, 6, none⟩ = some (.string c.path2) := hbxc.cell 6; have y7 : wc.cell? ⟨w.heap.size, 7, none⟩ = some (.string c.data) := hbxc.cell 7; have iXc := hbxc.lt; clear hbxc h6
  go_upto_region 3 with fail
  refine abs_world (F := fun wA => VwNew wA wc.heap.size p c true ∧ Below wc.heap.size wc wA) ⟨Blk.new _ _ _, bel _ _⟩ ?_; clear d0; rintro wA ⟨hN, hbA⟩; have hcall := paths_none wc.heap.size p c true wA hN ⟨by omega, by omega⟩; have HA := Lib.hid hbA; clear hN hbA
  go_upto_region 4 with (go_at_call 44; refine hcall.mono ?_; rintro e w3 ⟨rfl, hv3, hb3⟩; have HV3 := Lib.hid (And.intro hv3 hb3); clear hv3 hb3)
  clear hcall; refine abs_world (F := fun wB => VwAt wB wc.heap.size p c true [] [] [] 0 0 0 ∧ Below wc.heap.size wc wB) ⟨HV3.out.1, HA.out.trans HV3.out.2⟩ ?_; clear HV3 HA; rintro wB ⟨hvB, hbB⟩; have hB0 : Below (w.alloc (Obj.cells #[.int .i64 c.kind, .int .i64 c.core, .int .i64 c.fd, .int .i64 c.off, .int .i64 c.num, .string c.path, .string c.path2, .string c.data] 29)).heap.size (w.alloc (Obj.cells #[.int .i64 c.kind, .int .i64 c.core, .int .i64 c.fd, .int .i64 c.off, .int .i64 c.num, .string c.path, .string c.path2, .string c.data] 29)) wB := hb6.trans (hbB.mono hb6.size); have hBw : Below w.heap.size w wB := hbw.trans (hbB.mono hbw.size); have hbxB : Blk wB w.heap.size #[.int .i64 c.kind, .int .i64 c.core, .int .i64 c.fd, .int .i64 c.off, .int .i64 c.num, .string c.path, .string c.path2, .string c.data] 29 := (Blk.new w #[.int .i64 c.kind, .int .i64 c.core, .int .i64 c.fd, .int .i64 c.off, .int .i64 c.num, .string c.path, .string c.path2, .string c.data] 29).below hB0 (by simp); have x0 : wB.cell? ⟨w.heap.size, 0, none⟩ = some (.int .i64 c.kind) := hbxB.cell 0; have x1 : wB.cell? ⟨w.heap.size, 1, none⟩ = some (.int .i64 c.core) := hbxB.cell 1; have x2 : wB.cell? ⟨w.heap.size, 2, none⟩ = some (.int .i64 c.fd) := hbxB.cell 2; have iXB := hbxB.lt; have iPB : BlockLt p wB := ⟨by have := hBw.size; omega⟩
  have p1 : wB.cell? ⟨p, 1, none⟩ = some ov := (hBw.cell (p := ⟨p, 1, none⟩) hl).trans c1; have hrow : RowAt wB 3 ov (S.op.map PDesc.cells) := HS.out.1.below hBw (Nat.le_refl _); have hidx : ∀ ww, Below wB.heap.size wB ww → Calls Tryz.prog 45 #[ov, .func (.func 46) #[] #[.pointer (some ⟨w.heap.size, 0, none⟩)]] ww _ := fun ww hb =>
   index45v S.op ov (.pointer (some ⟨w.heap.size, 0, none⟩)) (isFd c) ww (hrow.below hb (Nat.le_refl _)) hop (fun z wz _ hz => of46 c z w.heap.size wz ⟨by have := iXB.lt; have := hb.size; have := hz.size; omega⟩ ((hz.cell (p := ⟨w.heap.size, 1, none⟩) (by have := iXB.lt; have := hb.size; show w.heap.size < ww.heap.size; omega)).trans ((hb.cell (p := ⟨w.heap.size, 1, none⟩) iXB.lt).trans x1)) ((hz.cell (p := ⟨w.heap.size, 2, none⟩) (by have := iXB.lt; have := hb.size; show w.heap.size < ww.heap.size; omega)).trans ((hb.cell (p := ⟨w.heap.size, 2, none⟩) iXB.lt).trans x2)))
  obtain ⟨hI, hy⟩ := HIY.out; rw [hI] at hidx; clear hI; obtain ⟨hIl, -⟩ := gI.1 hy; obtain ⟨lv, tv, mvv, hV⟩ := hvB.c; obtain ⟨am, cm, rfl⟩ := own_form hV.mo; have m12 : wB.cell? ⟨wc.heap.size, 12, none⟩ = some (.slice am 0 cm) := hV.blk.cell 12; have m13 : wB.cell? ⟨wc.heap.size, 13, none⟩ = some (.int .i64 0) := hV.blk.cell 13; have f12 := hV.blk.frozen 12; have f13 := hV.blk.frozen 13; have iVB := hV.blk.lt; have eo := HEO.out; subst eo; obtain ⟨bo, off, rfl, iG0, iG, hcz⟩ := HO.out wB hBw I y.cells (by rw [gM, hy]; rfl); have zc := hcz 2 _ rfl; have HZ := Lib.hid (show ∀ wr, Below w.heap.size w wr → BlockLt bo wr ∧ wr.cell? ⟨bo, off + I * 3 + 2, none⟩ = some (.int .i64 y.num) from fun wr hr => by
   obtain ⟨b', o', e', _, ig, hc'⟩ := HO.out wr hr I y.cells (by rw [gM, hy]; rfl); cases e'; exact ⟨ig, hc' 2 _ rfl⟩)
  have HB := Lib.hid (And.intro hV hBw); have hII : (I : Int) < S.op.length := by omega
  clear hvB hbB hB0 hBw hbxB hrow hcz hV hy D; by_cases hk : c.kind = 3
  · rw [hk] at x0
    go_upto_region 14 with (go_at_call 45; refine aT (hidx _ (bel wB _)) fun pj => ?_)
    refine abs_world (F := fun wE => VwC wE wc.heap.size p c true [] [] [] 0 0 0 lv tv (.slice am 0 cm) ∧ Below w.heap.size w wE) ⟨HB.out.1.below (bel wB _), HB.out.2.trans ((bel wB _).mono HB.out.2.size)⟩ ?_; clear x0 x1 x2 iXB hidx m12 m13 f12 f13 iVB iG zc p1 iPB HB; rintro wE ⟨hVE, hbE⟩; have m12 : wE.cell? ⟨wc.heap.size, 12, none⟩ = some (.slice am 0 cm) := hVE.blk.cell 12; have m13 : wE.cell? ⟨wc.heap.size, 13, none⟩ = some (.int .i64 0) := hVE.blk.cell 13; have iKE := hVE.blk.lt; have iPE : BlockLt p wE := ⟨by have := hbE.size; omega⟩
    have p1 : wE.cell? ⟨p, 1, none⟩ = some (.slice (some ⟨bo, off, none⟩) S.op.length co0) := (hbE.cell (p := ⟨p, 1, none⟩) hl).trans c1; obtain ⟨iG, zc⟩ := HZ.out wE hbE; have HE := Lib.hid (And.intro hVE hbE); clear hVE hbE; refine wp_region_eff [13, 14, 17] true (fun w' => w'.cell? ⟨wc.heap.size, 12, none⟩ = some (.slice am 0 cm) ∧ w'.cell? ⟨p, 1, none⟩ = some (.slice (some ⟨bo, off, none⟩) S.op.length co0) ∧ w'.cell? ⟨bo, off + I * 3 + 2, none⟩ = some (.int .i64 y.num)) (by kernel_rfl) (by kernel_rfl) ?_ ?_
    · (try dsimp only); (repeat' apply And.intro) <;> go_simp
    repeat
     refine wpL_look rfl rfl ?_; apply Exists.intro; refine ⟨?_, ?_⟩
     focus
      rintro w' ⟨s0, s1, s2⟩; go_simp
      first | done | rfl
     simp only [Act.put, sA, sZ, sS]
    refine wpL_do rfl rfl ?_; apply Exists.intro; apply Exists.intro; refine ⟨?_, ?_, ?_⟩
    focus
     go_simp; exact ⟨rfl, rfl⟩
    focus
     refine .inl ?_
     (try dsimp only); (repeat' apply And.intro) <;> go_simp
    simp only [Act.put, sA, sZ, sS]; refine wpL_act rfl rfl ?_; refine eff_append (.tmp 71) (.tmp 80) 25 ?e00 wc.heap.size 3 i0 (.int .i64 0) 1 8 Tryz.underlying25 hi hz0 hz1 hz2 ?e9 ?e10 (.slice am 0 cm) 0 [] ?e1 ?e2 ⟨wE.heap.size, 0, none⟩ 1 1 [.int .i64 y.num] ?e3 ?e4 ?news ?e5 ?e6 ?e7 ?e8 ?_
    case e00 => rfl
    case e9 => rfl
    case e10 => decide
    case e1 => rfl
    case e3 => rfl
    case e4 => rfl
    case e2 => exact (HE.out.1.below (bel wE (wE.drew.alloc (Obj.cells #[.int .i64 y.num] 3)))).mo
    case e5 => intro u hu; simp at hu; subst hu; rfl
    case e6 => unfold maxLen; omega
    case e7 => omega
    case e8 => simp; have := iKE.lt; omega
    case news => exact news_new wE.drew [.int .i64 y.num] 3 wE.heap.size
    intro v' w2 hown2 hgrow hloc; obtain ⟨a', cp', rfl⟩ := own_form hown2; have hV2 := HE.out.1.below (bel wE (wE.drew.alloc (Obj.cells #[.int .i64 y.num] 3))); have hfin := hV2.met (n := y.num) hgrow hown2; have hnk2 := own_ne_blk hV2.mo hV2.blk (by decide); have hbk2 : Blk w2 wc.heap.size _ 62 := (hgrow.block wc.heap.size hV2.blk.lt.lt (fun e => hnk2 e.symm)).trans hV2.blk; have b9 : w2.cell? ⟨wc.heap.size, 9, none⟩ = some (.bool true) := hbk2.cell 9; have b12 : w2.cell? ⟨wc.heap.size, 12, none⟩ = some (.slice am 0 cm) := hbk2.cell 12; have b13 : w2.cell? ⟨wc.heap.size, 13, none⟩ = some (.int .i64 0) := hbk2.cell 13; have f12 : w2.frozen? ⟨wc.heap.size, 12, none⟩ = false := hbk2.frozen 12; have iK2 := hbk2.lt; have hb2 : Below w.heap.size w (w2.setCell ⟨wc.heap.size, 12, none⟩ (.slice a' (0 + 1) cp')) := HE.out.2.trans (((bel wE (wE.drew.alloc (Obj.cells #[.int .i64 y.num] 3))).mono HE.out.2.size).trans (turned_below (v := .slice am 0 cm) hgrow (by simp; have := HE.out.2.size; omega) hbw.size (fun g hg => by have := own_ge hV2.mo hg; have := hbw.size; omega))); have hlt2 : w.heap.size ≤ w2.heap.size := by have := hb2.size; simpa using this
    have hbw2 : Below w.heap.size w w2 := HE.out.2.trans (((bel wE (wE.drew.alloc (Obj.cells #[.int .i64 y.num] 3))).mono HE.out.2.size).trans (grown_below hgrow (fun g hg => by have := own_ge hV2.mo hg; have := hbw.size; omega) (by simp; have := HE.out.2.size; omega))); have p12 : w2.cell? ⟨p, 1, none⟩ = some (.slice (some ⟨bo, off, none⟩) S.op.length co0) := (hbw2.cell (p := ⟨p, 1, none⟩) hl).trans c1; obtain ⟨iG2, zc2⟩ := HZ.out w2 hbw2; have iP2 : BlockLt p w2 := ⟨by omega⟩
    have HF := Lib.hid (And.intro hfin hb2); clear hown2 hgrow hloc hV2 hfin hb2 hbk2 hnk2; refine ⟨.inl ?_, ?_⟩
    focus
     (try dsimp only); (repeat' apply And.intro) <;> go_simp
    simp only [Act.put, sA, sZ, sS]
    repeat
     refine wpL_look rfl rfl ?_; apply Exists.intro; refine ⟨?_, ?_⟩
     focus
      rintro w' ⟨s0, s1, s2⟩; go_simp
      first | done | rfl
     simp only [Act.put, sA, sZ, sS]
    refine wpL_skip rfl rfl ?_; refine ⟨w2.setCell ⟨wc.heap.size, 12, none⟩ (.slice a' (0 + 1) cp'), ?_, .inr ⟨rfl, rfl⟩, ?_⟩
    focus
     go_simp
    simp only [Act.put, sA, sZ, sS]; refine wpL_end ?_; clear b12 b13 f12 m12 m13 iKE HE p1 iPE iG zc p12 iG2 zc2 iP2; go_wp2_with fail; exact bodyPost_ret (v := .pointer (some ⟨wc.heap.size, 0, none⟩)) (by simp [results, Tryz.results23, go_sem]) rfl ⟨_, rfl, by first | exact HF.out.1.at_ | (rw [if_pos hk]; exact HF.out.1.at_), HF.out.2⟩
  · have hk4 : c.kind = 4 ∨ c.kind = 5 ∨ c.kind = 6 ∨ c.kind = 7 := by omega
    rcases hk4 with hq | hq | hq | hq <;> rw [hq] at x0
    all_goals
     go_upto_region 11 with (go_at_call 45; refine aT (hidx _ (bel wB _)) fun pj => ?_)
     go_upto_region 12 with fail
     refine abs_world (F := fun wE => VwC wE wc.heap.size p c true [] [] [] y.num 0 0 lv tv (.slice am 0 cm) ∧ Below w.heap.size w wE) ⟨(HB.out.1.setBytes y.num).below (bel _ _), (HB.out.2.setCell (p := ⟨wc.heap.size, 13, none⟩) hbw.size (.int .i64 y.num)).trans ((bel _ _).mono (HB.out.2.setCell (p := ⟨wc.heap.size, 13, none⟩) hbw.size (.int .i64 y.num)).size)⟩ ?_; clear x0 x1 x2 iXB iPB p1 hidx m12 m13 f12 f13 iVB zc iG HB; rintro wE ⟨hVE, hbE⟩; have m12 : wE.cell? ⟨wc.heap.size, 12, none⟩ = some (.slice am 0 cm) := hVE.blk.cell 12; have m13 : wE.cell? ⟨wc.heap.size, 13, none⟩ = some (.int .i64 y.num) := hVE.blk.cell 13; have iKE := hVE.blk.lt; have HE := Lib.hid (And.intro hVE hbE); clear hVE hbE; refine wp_region_eff [9, 10, 13] true (fun w' => w'.cell? ⟨wc.heap.size, 12, none⟩ = some (.slice am 0 cm) ∧ w'.cell? ⟨wc.heap.size, 13, none⟩ = some (.int .i64 y.num)) (by kernel_rfl) (by kernel_rfl) ?_ ?_
     · (try dsimp only); (repeat' apply And.intro) <;> go_simp
     repeat
      refine wpL_look rfl rfl ?_; apply Exists.intro; refine ⟨?_, ?_⟩
      focus
       rintro w' ⟨s0, s1⟩; go_simp
       first | done | rfl
      simp only [Act.put, sA, sZ, sS]
     refine wpL_do rfl rfl ?_; apply Exists.intro; apply Exists.intro; refine ⟨?_, ?_, ?_⟩
     focus
      go_simp; exact ⟨rfl, rfl⟩
     focus
      refine .inl ?_
      (try dsimp only); (repeat' apply And.intro) <;> go_simp
     simp only [Act.put, sA, sZ, sS]; refine wpL_act rfl rfl ?_; refine eff_append (.tmp 56) (.tmp 61) 25 ?e00 wc.heap.size 3 i0 (.int .i64 0) 1 8 Tryz.underlying25 hi hz0 hz1 hz2 ?e9 ?e10 (.slice am 0 cm) 0 [] ?e1 ?e2 ⟨wE.heap.size, 0, none⟩ 1 1 [.int .i64 y.num] ?e3 ?e4 ?news ?e5 ?e6 ?e7 ?e8 ?_
     case e00 => rfl
     case e9 => rfl
     case e10 => decide
     case e1 => rfl
     case e3 => rfl
     case e4 => rfl
     case e2 => exact (HE.out.1.below (bel wE (wE.drew.alloc (Obj.cells #[.int .i64 y.num] 3)))).mo
     case e5 => intro u hu; simp at hu; subst hu; rfl
     case e6 => unfold maxLen; omega
     case e7 => omega
     case e8 => simp; have := iKE.lt; omega
     case news => exact news_new wE.drew [.int .i64 y.num] 3 wE.heap.size
     intro v' w2 hown2 hgrow hloc; obtain ⟨a', cp', rfl⟩ := own_form hown2; have hV2 := HE.out.1.below (bel wE (wE.drew.alloc (Obj.cells #[.int .i64 y.num] 3))); have hfin := hV2.met (n := y.num) hgrow hown2; have hnk2 := own_ne_blk hV2.mo hV2.blk (by decide); have hbk2 : Blk w2 wc.heap.size _ 62 := (hgrow.block wc.heap.size hV2.blk.lt.lt (fun e => hnk2 e.symm)).trans hV2.blk; have b9 : w2.cell? ⟨wc.heap.size, 9, none⟩ = some (.bool true) := hbk2.cell 9; have b12 : w2.cell? ⟨wc.heap.size, 12, none⟩ = some (.slice am 0 cm) := hbk2.cell 12; have b13 : w2.cell? ⟨wc.heap.size, 13, none⟩ = some (.int .i64 y.num) := hbk2.cell 13; have f12 : w2.frozen? ⟨wc.heap.size, 12, none⟩ = false := hbk2.frozen 12; have iK2 := hbk2.lt; have hb2 : Below w.heap.size w (w2.setCell ⟨wc.heap.size, 12, none⟩ (.slice a' (0 + 1) cp')) := HE.out.2.trans (((bel wE (wE.drew.alloc (Obj.cells #[.int .i64 y.num] 3))).mono HE.out.2.size).trans (turned_below (v := .slice am 0 cm) hgrow (by simp; have := HE.out.2.size; omega) hbw.size (fun g hg => by have := own_ge hV2.mo hg; have := hbw.size; omega))); have HF := Lib.hid (And.intro hfin hb2); clear hown2 hgrow hloc hV2 hfin hb2 hbk2 hnk2; refine ⟨.inl ?_, ?_⟩
     focus
      (try dsimp only); (repeat' apply And.intro) <;> go_simp
     simp only [Act.put, sA, sZ, sS]
     repeat
      refine wpL_look rfl rfl ?_; apply Exists.intro; refine ⟨?_, ?_⟩
      focus
       rintro w' ⟨s0, s1⟩; go_simp
       first | done | rfl
      simp only [Act.put, sA, sZ, sS]
     refine wpL_skip rfl rfl ?_; refine ⟨w2.setCell ⟨wc.heap.size, 12, none⟩ (.slice a' (0 + 1) cp'), ?_, .inr ⟨rfl, rfl⟩, ?_⟩
     focus
      go_simp
     simp only [Act.put, sA, sZ, sS]; refine wpL_end ?_; clear b12 b13 f12 m12 m13 iKE HE; go_wp2_with fail; exact bodyPost_ret (v := .pointer (some ⟨wc.heap.size, 0, none⟩)) (by simp [results, Tryz.results23, go_sem]) rfl ⟨_, rfl, by first | exact HF.out.1.at_ | (rw [if_neg hk]; exact HF.out.1.at_), HF.out.2⟩
section
variable {w w1 w' : World} {k p : Nat} {c : PCall} {fine : Bool} {L T : List (Int × Int)} {M : List Int} {by_ co go : Int} {lv tv mv : Value}
theorem VwC.looks (h : VwC w k p c fine L T M by_ co go lv tv mv) (hne : lv.ownBlock ≠ none → tv.ownBlock ≠ lv.ownBlock) {lv' : Value} {q : Int × Int} (hg : w.grownBy w1 lv.ownBlock) (hown : w1.ownsRow k 91 2 lv' (L.length + 1) ((L.map prCells).flatten ++ prCells q)) :
 VwC (w1.setCell ⟨k, 10, none⟩ lv') k p c fine (L ++ [q]) T M by_ co go lv' tv mv := by
 have hkp := keep_grown (lv := lv) hg k 10 lv'
 have hnk := own_ne_blk h.lo h.blk (by decide)
 have hblk1 : Blk w1 k (vwCells p ⟨c, fine, tv, by_, co, go⟩ lv mv) 62 := (hg.block k h.blk.lt.lt (fun e => hnk e.symm)).trans h.blk
 refine ⟨?_, ?_, ?_, ?_⟩
 · have := hblk1.set_ 10 lv'; simpa [vwCells] using this
 · have := own_set hown hblk1 (by decide) 10 lv'; simpa using this
 · refine hkp.own h.tu (fun g hg hT => ?_); rcases hT with rfl | hT
   · exact own_ne_blk h.tu h.blk (by decide) hg
   · exact hne (by rw [hT]; simp) (by rw [hg, hT])
 · refine hkp.own h.mo (fun g hg hT => ?_); rcases hT with rfl | hT
   · exact own_ne_blk h.mo h.blk (by decide) hg
   · exact own_ne_own h.lo h.mo (by decide) hg hT
end
def bucketsF (n : Int) (q : Nat) : List (Int × Int) := (List.range q).map fun (b : Nat) => (n, (b : Int))
def allB (S : PSt) (n : Int) : List (Int × Int) := if 0 ≤ idxM (isNum n) S.ins then (match S.ins[(idxM (isNum n) S.ins).toNat]? with | some x => if x.dir = true then bucketsF n 8 else [] | none => []) else []
theorem VwC.of_own {w : World} {k p b3 : Nat} {c3 : Array Value} {c : PCall} {fine : Bool} {by_ co go : Int} {L : List (Int × Int)} {M : List Int} {lv mv : Value} (h : VwOwn k w k p b3 c3 ⟨c, fine, .slice none 0 0, by_, co, go⟩ L M lv mv) : VwC w k p c fine L [] M by_ co go lv (.slice none 0 0) mv :=
 ⟨h.blk, h.lo, World.ownsRow_nil w k 91 2, h.mo⟩
theorem all90 (k p : Nat) (S : PSt) (c : PCall) (fine : Bool) (L : List (Int × Int)) (M : List Int) (by_ co go : Int) (lv mv : Value) (n : Int) (w : World) (h : VwC w k p c fine L [] M by_ co go lv (.slice none 0 0) mv) (hL : Laid k (fun w => SP w p S) w) (hwf : S.wf) (hpos : 0 < S.ins.length) (hl : L.length ≤ 1000000000) :
 Calls Tryz.prog 90 #[.pointer (some ⟨k, 0, none⟩), .int .i64 n] w fun e w' => e = .returned (.tuple #[]) ∧ (∃ lv', VwC w' k p c fine (L ++ allB S n) [] M by_ co go lv' (.slice none 0 0) mv) ∧ Below k w w' := by
 obtain ⟨i9x, hi9, h90, h91, h92⟩ := info_parts info91
 have iK := h.blk.lt
 have hkw : k ≤ w.heap.size := by have := iK.lt; omega
 have k0 : w.cell? ⟨k, 0, none⟩ = some (.pointer (some ⟨p, 0, none⟩)) := h.blk.cell 0
 obtain ⟨w0, hsp, hB0, hb0⟩ := hL
 have hcall : Calls Tryz.prog 48 #[.pointer (some ⟨k, 0, none⟩), .int .i64 n] w _ := inode48 k p S n w iK k0 (hsp.below hb0 (Nat.le_refl _)) hwf.1 hpos
 obtain ⟨hl0, iv, ov, mv0, g0, g1, g2, hr⟩ := hsp
 obtain ⟨ai, capi, rfl, hati⟩ := hr.ins_at2
 have hsA : w.cell? ⟨p, 0, none⟩ = some (.slice ai S.ins.length capi) := (hb0.cell (p := ⟨p, 0, none⟩) hl0).trans g0
 unfold allB
 have hib := idxM_bounds (isNum n) S.ins
 generalize idxM (isNum n) S.ins = K at hcall hib ⊢
 have H := Lib.hid h
 clear h hwf g0 g1 g2 hr
 by_cases hK0 : 0 ≤ K
 · rw [if_pos hK0]; obtain ⟨j, rfl⟩ : ∃ j : Nat, K = j := ⟨K.toNat, by omega⟩
   obtain ⟨x, hx⟩ : ∃ x, S.ins[j]? = some x := ⟨_, gE (by omega)⟩
   obtain ⟨bi, off, ev, rfl, iG0, ho1, hev, hcl⟩ := hati j x hx; obtain ⟨iG, y0, y1, y2, y3⟩ := hcl w hb0; rw [Int.toNat_natCast, hx]; simp only; have hcall2 : Calls Tryz.prog 48 #[.pointer (some ⟨k, 0, none⟩), .int .i64 n] w fun e w' => e = .returned (.pointer (some ⟨bi, off + j * 4, none⟩)) ∧ Below w.heap.size w w' := by
    refine hcall.mono ?_; rintro e w' ⟨⟨bi', off', cap', h1, rfl⟩, h2⟩; rw [hsA] at h1; simp only [Option.some.injEq, Value.slice.injEq, Addr.mk.injEq] at h1; obtain ⟨⟨rfl, rfl, -⟩, -, rfl⟩ := h1; refine ⟨?_, h2⟩; unfold placeAt; rw [if_pos hK0, Int.toNat_natCast]
   obtain ⟨xn, xd, xe, xdat⟩ := x; simp only at y0 y1 ⊢; clear hcall hcl hev hx y2 y3 hsA hati; rcases xd with _ | _
   · simp only [Bool.false_eq_true, if_false, List.append_nil]
     go_enter Tryz.func90, Tryz.ntmps90
     go_wp2_with (go_at_call 48; refine hcall2.mono ?_; rintro e w' ⟨rfl, hb⟩; obtain ⟨pj, rfl⟩ := hb.rest; clear hb)
     exact bodyPost_ret (v := .tuple #[]) (by simp [results, go_sem]) rfl ⟨rfl, ⟨lv, H.out.below (bel w _)⟩, (bel w _).mono hkw⟩
   · simp only [if_true]
     go_enter Tryz.func90, Tryz.ntmps90
     go_upto_region 3 with (go_at_call 48; refine hcall2.mono ?_; rintro e w' ⟨rfl, hb⟩; obtain ⟨pj, rfl⟩ := hb.rest; clear hb)
     refine abs_world (F := fun wA => VwC wA k p c fine (L ++ bucketsF n 0) [] M by_ co go lv (.slice none 0 0) mv ∧ Below k w wA) ⟨by have := H.out.below (bel w (w.junk pj)); simpa [bucketsF] using this, (bel w _).mono hkw⟩ ?_; clear hcall2 y0 y1 iG iK k0; rintro wA ⟨hVA, hbA⟩; have HA := Lib.hid (And.intro hVA hbA); clear hVA hbA
     go_loopw [18] (fun v18 wr => ∃ (q : Nat) (lv' : Value), v18 = .int .i64 q ∧ q ≤ 8 ∧ VwC wr k p c fine (L ++ bucketsF n q) [] M by_ co go lv' (.slice none 0 0) mv ∧ Below k w wr) (fun v18 _ => (8 - intOf v18).toNat)
     case atStart => exact ⟨0, lv, rfl, by omega, HA.out.1, HA.out.2⟩
     case round =>
      obtain ⟨q, lv', rfl, hq, hV, hb⟩ := hrel; have iKr := hV.blk.lt; by_cases hlt : q < 8
      · have hltI : (q : Int) < 8 := by omega
        obtain ⟨al, cl, rfl⟩ := own_form hV.lo; have l10 : wr.cell? ⟨k, 10, none⟩ = some (.slice al (L ++ bucketsF n q).length cl) := hV.blk.cell 10; have hll : (L ++ bucketsF n q).length ≤ 1000000008 := by simp [bucketsF]; omega
        have hkr : k ≤ wr.heap.size := by have := iKr.lt; omega
        generalize hLL : L ++ bucketsF n q = LL at hV l10 hll; have HV := Lib.hid (And.intro hV (And.intro hb hLL)); have HO := Lib.hid (hV.below (bel wr (wr.alloc (Obj.cells #[.int .i64 n, .int .i64 q] 91)))).lo; have HN := Lib.hid (news_new wr [.int .i64 n, .int .i64 q] 91 wr.heap.size); clear hV hb hLL; go_wp2_with (at_builtin; refine wpList_append_own_at _ rfl (.tmp 25) (.tmp 29) 60 rfl k 91 i9x (.agg #[.int .i64 0, .int .i64 0]) 2 16 Tryz.underlying60 hi9 h90 h91 h92 rfl (by decide) _ _ (LL.map prCells).flatten rfl HO.out ⟨wr.heap.size, 0, none⟩ 1 1 [.int .i64 n, .int .i64 q] rfl rfl HN.out (by intro u hu; simp at hu; rcases hu with rfl | rfl <;> rfl) (by unfold maxLen; omega) (by omega) (by simp; omega) ?_)
        intro v' w2 hown2 hgrow _ hloc; obtain ⟨a', cp', rfl⟩ := own_form hown2; have hV2 := HV.out.1.below (bel wr (wr.alloc (Obj.cells #[.int .i64 n, .int .i64 q] 91))); have hfin := hV2.looks (q := (n, (q : Int))) (fun h e => h (by rw [← e]; rfl)) hgrow hown2; have hnk2 := own_ne_blk hV2.lo hV2.blk (by decide); have hbk2 : Blk w2 k _ 62 := (hgrow.block k hV2.blk.lt.lt (fun e => hnk2 e.symm)).trans hV2.blk; have b10 : w2.cell? ⟨k, 10, none⟩ = some (.slice al LL.length cl) := hbk2.cell 10; have f10 : w2.frozen? ⟨k, 10, none⟩ = false := hbk2.frozen 10; have iK2 := hbk2.lt; have hbf : Below k w (w2.setCell ⟨k, 10, none⟩ (.slice a' (LL.length + 1) cp')) := HV.out.2.1.trans (((bel wr (wr.alloc (Obj.cells #[.int .i64 n, .int .i64 q] 91))).mono hkr).trans (turned_below (v := .slice al LL.length cl) hgrow (by simp; omega) (Nat.le_refl _) (fun g hg => own_ge hV2.lo hg))); have HF := Lib.hid (And.intro hfin hbf); clear hown2 hgrow hloc hV2 hfin hbf hbk2 hnk2; go_wp2_with fail
        go_roundw
        case rel => exact ⟨q + 1, _, by go_num, by omega, by have := HF.out.1; rw [show LL ++ [(n, (q : Int))] = L ++ bucketsF n (q + 1) by rw [← HV.out.2.2]; simp [bucketsF, List.range_succ]] at this; exact this, HF.out.2⟩
        case measure => simp [intOf]; omega
      · have hqe : q = 8 := by omega
        subst hqe; have HV := Lib.hid (And.intro hV hb); clear hV hb; go_wp2_with fail; exact bodyPost_end (v := .tuple #[]) (by simp [results, go_sem]) rfl ⟨rfl, ⟨_, HV.out.1⟩, HV.out.2⟩
 · rw [if_neg hK0]; simp only [List.append_nil]; have hcall2 : Calls Tryz.prog 48 #[.pointer (some ⟨k, 0, none⟩), .int .i64 n] w fun e w' => e = .returned (.pointer none) ∧ Below w.heap.size w w' := by
    refine hcall.mono ?_; rintro e w' ⟨⟨bi', off', cap', h1, rfl⟩, h2⟩; refine ⟨?_, h2⟩; unfold placeAt; rw [if_neg hK0]
   clear hcall hati hsA
   go_enter Tryz.func90, Tryz.ntmps90
   go_wp2_with (go_at_call 48; refine hcall2.mono ?_; rintro e w' ⟨rfl, hb⟩; obtain ⟨pj, rfl⟩ := hb.rest; clear hb)
   exact bodyPost_ret (v := .tuple #[]) (by simp [results, go_sem]) rfl ⟨rfl, ⟨lv, H.out.below (bel w _)⟩, (bel w _).mono hkw⟩
theorem vwalk_len (S : PSt) : ∀ (ns : List ByteArray) (last : Int × Int) (num : Int) (L : List (Int × Int)) (M : List Int), (vwalkF S ns last num L M).L.length ≤ L.length + ns.length
 | [], last, num, L, M => by unfold vwalkF; simp
 | n :: r, last, num, L, M => by
   unfold vwalkF
   split
   · (simp <;> omega)
   · split
     · (simp <;> omega)
     · split
       · simp
       · split
         · (simp <;> omega)
         · have := vwalk_len S r (if r.isEmpty = true then (num, bucketM n) else last) (by assumption : PEnt).num (L ++ [(num, bucketM n)]) (M ++ [(by assumption : PEnt).num]); simp only [lP, List.length_cons, List.length_nil] at this ⊢; omega
theorem paths_list (k p : Nat) (S : PSt) (c : PCall) (fine : Bool) (w : World) (h : VwNew w k p c fine) (hL : Laid k (fun w => SP w p S) w) (hwf : S.wf) (hlk : linkedB S = true) (hpos : 0 < S.ins.length) (hk : c.kind = 12) (hp : (parseM c.path).1 = 0) (hnl : (parseM c.path).2.length ≤ 1000000000) :
 Calls Tryz.prog 44 #[.pointer (some ⟨k, 0, none⟩)] w fun e w' => let R := vwalkF S (parseM c.path).2 (0, 0) 1 [] [1]
  e = .returned (.tuple #[]) ∧ VwAt w' k p c fine (R.L ++ allB S R.num) [] R.M 0 0 0 ∧ Below k w w' := by
 have iK := h.lt
 have hkw : k ≤ w.heap.size := by have := iK.lt; omega
 have c1 : w.cell? ⟨k, 1, none⟩ = some (.int .i64 c.kind) := h.cell 1
 have c6 : w.cell? ⟨k, 6, none⟩ = some (.string c.path) := h.cell 6
 have hwalk : ∀ ww b3, Below w.heap.size w ww → Blk ww b3 #[.int .i64 0, .int .i64 0] 91 → Calls Tryz.prog 89 #[.pointer (some ⟨k, 0, none⟩), .string c.path] ww _ := fun ww b3 hb h3 =>
  walk89 k k p b3 _ S _ [] [] c.path _ _ ww (VwNew.own (h.below hb iK.lt) b3 _ h3) (hL.below (hb.mono hkw)) (Nat.le_trans hkw hb.size) hwf hlk hp hnl (by simp) (by simp)
 simp only [List.nil_append] at hwalk
 have hln := vwalk_len S (parseM c.path).2 (0, 0) 1 [] [1]
 generalize vwalkF S (parseM c.path).2 (0, 0) 1 [] [1] = R at hwalk hln ⊢
 obtain ⟨⟨l1, l2⟩, rn, RL, RM⟩ := R
 unfold pairAt at hwalk
 simp only at hwalk ⊢
 have H := Lib.hid h
 have HLL := Lib.hid hL
 have HLEN := Lib.hid (show RL.length ≤ 1000000000 by simp only [List.length_nil] at hln; omega)
 clear h hL hlk hp hnl hln
 rw [hk] at c1
 go_enter Tryz.func44, Tryz.ntmps44
 go_upto_region 4 with (go_at_call 89; refine (hwalk _ w.heap.size (bel w _) (Blk.new _ _ _)).mono ?_; rintro e w1 ⟨rfl, ⟨lv1, mv1, hv1⟩, hb1⟩; have e0 : w1.cell? ⟨w.heap.size, 0, none⟩ = some (.int .i64 0) := hv1.ex.cell 0; have e1 : w1.cell? ⟨w.heap.size, 1, none⟩ = some (.int .i64 0) := hv1.ex.cell 1; have f0 := hv1.ex.frozen 0; have f1 := hv1.ex.frozen 1; have i3 := hv1.ex.lt; have HV1 := Lib.hid (And.intro hv1 hb1); clear hv1 hb1)
 refine abs_world (F := fun wA => VwOwn k wA k p w.heap.size #[.int .i64 l1, .int .i64 l2] ⟨c, fine, .slice none 0 0, 0, 0, 0⟩ RL RM lv1 mv1 ∧ Below k w wA) ⟨HV1.out.1.exSet _ _, ((((bel w (w.alloc (Obj.cells #[.int .i64 0, .int .i64 0] 91))).mono hkw).trans HV1.out.2).setCell (p := ⟨w.heap.size, 0, none⟩) hkw _).setCell (p := ⟨w.heap.size, 1, none⟩) hkw _⟩ ?_
 clear e0 e1 f0 f1 i3 HV1 c1
 rintro wA ⟨hVA, hbA⟩
 have a1 : wA.cell? ⟨k, 1, none⟩ = some (.int .i64 c.kind) := hVA.blk.cell 1
 rw [hk] at a1
 have iKA := hVA.blk.lt
 have hkA : k ≤ wA.heap.size := by have := iKA.lt; omega
 have hall := all90 k p S c fine RL RM 0 0 0 lv1 mv1 rn wA (VwC.of_own hVA) (HLL.out.below hbA) hwf hpos (HLEN.out)
 have HA := Lib.hid (And.intro hVA hbA)
 clear hVA hbA
 go_wp2_with (go_at_call 90; refine hall.mono ?_; rintro e w2 ⟨rfl, ⟨lv2, hv2⟩, hb2⟩; have HF := Lib.hid (And.intro hv2 hb2); clear hv2 hb2)
 exact bodyPost_end (v := .tuple #[]) (by simp [results, go_sem]) rfl ⟨rfl, HF.out.1.at_, HA.out.2.trans HF.out.2⟩
theorem apart_bytes (iv ov mv : Value) (S : PSt) (x y : PCall) (f1 f2 : Bool) (L1 T1 L2 T2 : List (Int × Int)) (M1 M2 : List Int) (b1 o1 b2 o2 : Int) (w : World) (h : StRead w iv ov mv S) (hwf : S.wf) (hask0 : askedM S x y = true) (hx : x.kind < 15) (hy : y.kind < 15)
 (V1 : HasView S x f1 L1 T1 M1 b1 o1) (V2 : HasView S y f2 L2 T2 M2 b2 o2) (hby : b1 ≠ 0) (hbe : b1 = b2) (t1b t2b : Bool)
 (hB1 : ∀ ww k1 k2 p, VwAt ww k1 p x f1 L1 T1 M1 b1 o1 0 → VwAt ww k2 p y f2 L2 T2 M2 b2 o2 0 → SP ww p S → Calls Tryz.prog 25 #[.pointer (some ⟨k1, 0, none⟩), .pointer (some ⟨k2, 0, none⟩)] ww fun e w' => e = .returned (.bool t1b) ∧ Below ww.heap.size ww w')
 (hB2 : ∀ ww k1 k2 p, VwAt ww k1 p x f1 L1 T1 M1 b1 o1 0 → VwAt ww k2 p y f2 L2 T2 M2 b2 o2 0 → SP ww p S → Calls Tryz.prog 25 #[.pointer (some ⟨k2, 0, none⟩), .pointer (some ⟨k1, 0, none⟩)] ww fun e w' => e = .returned (.bool t2b) ∧ Below ww.heap.size ww w') (hc1 : o1 = 0 ∨ y.kind ≠ 14) (hc2 : o2 = 0 ∨ x.kind ≠ 14)
 (l1 : L1.length ≤ 1000000000) (l2 : L2.length ≤ 1000000000) (t1 : T1.length ≤ 1000000000) (t2 : T2.length ≤ 1000000000) :
 Calls Tryz.prog 10 #[.agg #[iv, ov, mv], x.val, y.val] w fun e w' => e = .returned (.bool (!(meetsM T1 L2 T2 || meetsM T2 L1 T1) && (t1b && t2b))) ∧ Below w.heap.size w w' := by
 have hio : iv.oneCell' = true := by obtain ⟨_, _, _, h3, _⟩ := h; exact h3.one
 have hoo := h.1.one
 have hmo := h.2.1.one
 have hask : ∀ ww k1 k2 k3, Below w.heap.size w ww → Blk ww k1 #[iv, ov, mv] 27 → Blk ww k2 #[.int .i64 x.kind, .int .i64 x.core, .int .i64 x.fd, .int .i64 x.off, .int .i64 x.num, .string x.path, .string x.path2, .string x.data] 29 → Blk ww k3 #[.int .i64 y.kind, .int .i64 y.core, .int .i64 y.fd, .int .i64 y.off, .int .i64 y.num, .string y.path, .string y.path2, .string y.data] 29 →
  Calls Tryz.prog 19 #[.pointer (some ⟨k1, 0, none⟩), .pointer (some ⟨k2, 0, none⟩), .pointer (some ⟨k3, 0, none⟩)] ww fun e w' => e = .returned (.bool true) ∧ Below ww.heap.size ww w' := fun ww k1 k2 k3 hb h1 h2 h3 => by
  have := asked19 k1 k2 k3 S x y ww (SP.of_blk h1 (h.below hb (Nat.le_refl _))) hwf (CP.of_blk h2) (CP.of_blk h3); rw [hask0] at this; exact this
 have HS := Lib.hid h
 obtain ⟨r1, hr1⟩ : ∃ r, meetsM T1 L2 T2 = r := ⟨_, rfl⟩
 obtain ⟨r2, hr2⟩ : ∃ r, meetsM T2 L1 T1 = r := ⟨_, rfl⟩
 rw [hr1, hr2]
 have HR1 := Lib.hid hr1
 have HR2 := Lib.hid hr2
 clear h hwf hask0 hr1 hr2
 unfold PCall.val
 go_enter Tryz.func10, Tryz.ntmps10
 go_upto_region 3 with (go_at_call 19; refine aT (hask _ _ _ _ (bel _ _) (by repeat (first | exact Blk.new_i _ _ _ _ | refine Blk.alloc ?_ _)) (by repeat (first | exact Blk.new_i _ _ _ _ | refine Blk.alloc ?_ _)) (by repeat (first | exact Blk.new_i _ _ _ _ | refine Blk.alloc ?_ _))) fun p => ?_)
 have F0 : ∀ (W : World), W = (((w.alloc (Obj.cells #[iv, ov, mv] 27)).alloc (Obj.cells #[.int .i64 x.kind, .int .i64 x.core, .int .i64 x.fd, .int .i64 x.off, .int .i64 x.num, .string x.path, .string x.path2, .string x.data] 29)).alloc (Obj.cells #[.int .i64 y.kind, .int .i64 y.core, .int .i64 y.fd, .int .i64 y.off, .int .i64 y.num, .string y.path, .string y.path2, .string y.data] 29)).junk p → SP W w.heap.size S ∧ Blk W (w.heap.size + 1) #[.int .i64 x.kind, .int .i64 x.core, .int .i64 x.fd, .int .i64 x.off, .int .i64 x.num, .string x.path, .string x.path2, .string x.data] 29 ∧ Blk W (w.heap.size + 1 + 1) #[.int .i64 y.kind, .int .i64 y.core, .int .i64 y.fd, .int .i64 y.off, .int .i64 y.num, .string y.path, .string y.path2, .string y.data] 29 ∧ Below w.heap.size w W := by
  rintro W rfl; exact ⟨SP.of_blk ((((Blk.new w _ 27).alloc _).alloc _).junk _) (HS.out.below (bel w _) (Nat.le_refl _)), ((Blk.new_i _ _ _ _).alloc _).junk _, (Blk.new_i _ _ _ _).junk _, bel w _⟩
 refine abs_world (F := fun W => SP W w.heap.size S ∧ Blk W (w.heap.size + 1) #[.int .i64 x.kind, .int .i64 x.core, .int .i64 x.fd, .int .i64 x.off, .int .i64 x.num, .string x.path, .string x.path2, .string x.data] 29 ∧ Blk W (w.heap.size + 1 + 1) #[.int .i64 y.kind, .int .i64 y.core, .int .i64 y.fd, .int .i64 y.off, .int .i64 y.num, .string y.path, .string y.path2, .string y.data] 29 ∧ Below w.heap.size w W) (F0 _ rfl) ?_
 clear hask F0
 rintro W ⟨hsp, hbx, hby2, hbW⟩
 have iX := hbx.lt
 have iY := hby2.lt
 have u0 : W.cell? ⟨w.heap.size + 1, 0, none⟩ = some (.int .i64 x.kind) := hbx.cell 0
 have u1 : W.cell? ⟨w.heap.size + 1, 1, none⟩ = some (.int .i64 x.core) := hbx.cell 1
 have u2 : W.cell? ⟨w.heap.size + 1, 2, none⟩ = some (.int .i64 x.fd) := hbx.cell 2
 have u3 : W.cell? ⟨w.heap.size + 1, 3, none⟩ = some (.int .i64 x.off) := hbx.cell 3
 have u4 : W.cell? ⟨w.heap.size + 1, 4, none⟩ = some (.int .i64 x.num) := hbx.cell 4
 have u5 : W.cell? ⟨w.heap.size + 1, 5, none⟩ = some (.string x.path) := hbx.cell 5
 have u6 : W.cell? ⟨w.heap.size + 1, 6, none⟩ = some (.string x.path2) := hbx.cell 6
 have u7 : W.cell? ⟨w.heap.size + 1, 7, none⟩ = some (.string x.data) := hbx.cell 7
 have v0 : W.cell? ⟨w.heap.size + 1 + 1, 0, none⟩ = some (.int .i64 y.kind) := hby2.cell 0
 have v1 : W.cell? ⟨w.heap.size + 1 + 1, 1, none⟩ = some (.int .i64 y.core) := hby2.cell 1
 have v2 : W.cell? ⟨w.heap.size + 1 + 1, 2, none⟩ = some (.int .i64 y.fd) := hby2.cell 2
 have v3 : W.cell? ⟨w.heap.size + 1 + 1, 3, none⟩ = some (.int .i64 y.off) := hby2.cell 3
 have v4 : W.cell? ⟨w.heap.size + 1 + 1, 4, none⟩ = some (.int .i64 y.num) := hby2.cell 4
 have v5 : W.cell? ⟨w.heap.size + 1 + 1, 5, none⟩ = some (.string y.path) := hby2.cell 5
 have v6 : W.cell? ⟨w.heap.size + 1 + 1, 6, none⟩ = some (.string y.path2) := hby2.cell 6
 have v7 : W.cell? ⟨w.heap.size + 1 + 1, 7, none⟩ = some (.string y.data) := hby2.cell 7
 have HW := Lib.hid (And.intro hsp hbW)
 clear hsp hbx hby2 hbW
 refine wp_region_eff [1, 3] false (fun w' => w'.cell? ⟨w.heap.size + 1, 0, none⟩ = some (.int .i64 x.kind) ∧ w'.cell? ⟨w.heap.size + 1, 1, none⟩ = some (.int .i64 x.core) ∧ w'.cell? ⟨w.heap.size + 1, 2, none⟩ = some (.int .i64 x.fd) ∧ w'.cell? ⟨w.heap.size + 1, 3, none⟩ = some (.int .i64 x.off) ∧ w'.cell? ⟨w.heap.size + 1, 4, none⟩ = some (.int .i64 x.num) ∧ w'.cell? ⟨w.heap.size + 1, 5, none⟩ = some (.string x.path) ∧ w'.cell? ⟨w.heap.size + 1, 6, none⟩ = some (.string x.path2) ∧ w'.cell? ⟨w.heap.size + 1, 7, none⟩ = some (.string x.data) ∧ w'.cell? ⟨w.heap.size + 1 + 1, 0, none⟩ = some (.int .i64 y.kind) ∧ w'.cell? ⟨w.heap.size + 1 + 1, 1, none⟩ = some (.int .i64 y.core) ∧ w'.cell? ⟨w.heap.size + 1 + 1, 2, none⟩ = some (.int .i64 y.fd) ∧ w'.cell? ⟨w.heap.size + 1 + 1, 3, none⟩ = some (.int .i64 y.off) ∧ w'.cell? ⟨w.heap.size + 1 + 1, 4, none⟩ = some (.int .i64 y.num) ∧ w'.cell? ⟨w.heap.size + 1 + 1, 5, none⟩ = some (.string y.path) ∧ w'.cell? ⟨w.heap.size + 1 + 1, 6, none⟩ = some (.string y.path2) ∧ w'.cell? ⟨w.heap.size + 1 + 1, 7, none⟩ = some (.string y.data)) (by kernel_rfl) (by kernel_rfl) ?_ ?_
 · (try dsimp only); (repeat' apply And.intro) <;> go_simp
 repeat
  refine wpL_look rfl rfl ?_; apply Exists.intro; refine ⟨?_, ?_⟩
  focus
   rintro w' ⟨s0, s1, s2, s3, s4, s5, s6, s7, s8, s9, s10, s11, s12, s13, s14, s15⟩; go_simp
   first | done | rfl
  simp only [Act.put, sA, sZ, sS]
 refine wpL_act rfl rfl ?_
 refine eff_call 23 #[.pointer (some ⟨w.heap.size, 0, none⟩), .agg #[.int .i64 x.kind, .int .i64 x.core, .int .i64 x.fd, .int .i64 x.off, .int .i64 x.num, .string x.path, .string x.path2, .string x.data]] ?hr1 ?_
 case hr1 =>
  go_simp
  first | done | rfl
 refine (V1 _ w.heap.size (HW.out.1.below (bel W _) (Nat.le_refl _))).mono ?_
 rintro e w' ⟨k1, rfl, hv1, hb⟩
 obtain ⟨q1, rfl⟩ := hb.rest
 clear hb
 have HV1 := Lib.hid hv1
 clear hv1
 refine ⟨_, rfl, .inl ?_, ?_⟩
 · (try dsimp only); (repeat' apply And.intro) <;> go_simp
 simp only [Act.put, sA, sZ, sS]
 repeat
  refine wpL_look rfl rfl ?_; apply Exists.intro; refine ⟨?_, ?_⟩
  focus
   rintro w' ⟨s0, s1, s2, s3, s4, s5, s6, s7, s8, s9, s10, s11, s12, s13, s14, s15⟩; go_simp
   first | done | rfl
  simp only [Act.put, sA, sZ, sS]
 refine wpL_act rfl rfl ?_
 refine eff_call 23 #[.pointer (some ⟨w.heap.size, 0, none⟩), .agg #[.int .i64 y.kind, .int .i64 y.core, .int .i64 y.fd, .int .i64 y.off, .int .i64 y.num, .string y.path, .string y.path2, .string y.data]] ?hr2 ?_
 case hr2 =>
  go_simp
  first | done | rfl
 refine (V2 _ w.heap.size (HW.out.1.below (bel W _) (Nat.le_refl _))).mono ?_
 rintro e w' ⟨k2, rfl, hv2, hb⟩
 have hv1' := HV1.out.below hb
 obtain ⟨q2, rfl⟩ := hb.rest
 clear hb
 have HV2 := Lib.hid (And.intro hv1' hv2)
 clear hv1' hv2 HV1
 refine ⟨_, rfl, .inl ?_, ?_⟩
 · (try dsimp only); (repeat' apply And.intro) <;> go_simp
 simp only [Act.put, sA, sZ, sS]
 repeat
  refine wpL_look rfl rfl ?_; apply Exists.intro; refine ⟨?_, ?_⟩
  focus
   rintro w' ⟨s0, s1, s2, s3, s4, s5, s6, s7, s8, s9, s10, s11, s12, s13, s14, s15⟩; go_simp
   first | done | rfl
  simp only [Act.put, sA, sZ, sS]
 refine wpL_end ?_
 go_upto_region 4 with fail
 refine abs_world (F := fun wB => (VwAt wB k1 w.heap.size x f1 L1 T1 M1 b1 o1 0 ∧ VwAt wB k2 w.heap.size y f2 L2 T2 M2 b2 o2 0) ∧ SP wB w.heap.size S ∧ Below w.heap.size w wB) ⟨HV2.out, HW.out.1.below (bel W _) (Nat.le_refl _), HW.out.2.trans ((bel W _).mono HW.out.2.size)⟩ ?_
 clear u0 u1 u2 u3 u4 u5 u6 u7 v0 v1 v2 v3 v4 v5 v6 v7 iX iY HW HV2
 rintro wB ⟨⟨g1, g2⟩, hspB, hbB⟩
 have bs1 : ∀ ww, Below wB.heap.size wB ww → Calls Tryz.prog 25 #[.pointer (some ⟨k1, 0, none⟩), .pointer (some ⟨k2, 0, none⟩)] ww _ := fun ww hb => hB1 ww k1 k2 w.heap.size (g1.below hb) (g2.below hb) (hspB.below hb (Nat.le_refl _))
 have bs2 : ∀ ww, Below wB.heap.size wB ww → Calls Tryz.prog 25 #[.pointer (some ⟨k2, 0, none⟩), .pointer (some ⟨k1, 0, none⟩)] ww _ := fun ww hb => hB2 ww k1 k2 w.heap.size (g1.below hb) (g2.below hb) (hspB.below hb (Nat.le_refl _))
 have m1 : ∀ ww, Below wB.heap.size wB ww → Calls Tryz.prog 24 #[.pointer (some ⟨k1, 0, none⟩), .pointer (some ⟨k2, 0, none⟩)] ww _ := fun ww hb => meets24 k1 k2 w.heap.size w.heap.size x y f1 f2 L1 T1 L2 T2 M1 M2 b1 o1 0 b2 o2 0 ww (g1.below hb) (g2.below hb) t1 l2 t2
 have m2 : ∀ ww, Below wB.heap.size wB ww → Calls Tryz.prog 24 #[.pointer (some ⟨k2, 0, none⟩), .pointer (some ⟨k1, 0, none⟩)] ww _ := fun ww hb => meets24 k2 k1 w.heap.size w.heap.size y x f2 f1 L2 T2 L1 T1 M2 M1 b2 o2 0 b1 o1 0 ww (g2.below hb) (g1.below hb) t2 l1 t1
 have n1 : ∀ ww, Below wB.heap.size wB ww → Calls Tryz.prog 26 #[.pointer (some ⟨k1, 0, none⟩), .pointer (some ⟨k2, 0, none⟩)] ww _ := fun ww hb => counted26 k1 k2 w.heap.size w.heap.size x y f1 f2 L1 T1 L2 T2 M1 M2 b1 o1 b2 o2 0 ww (g1.below hb) (g2.below hb) hc1
 have n2 : ∀ ww, Below wB.heap.size wB ww → Calls Tryz.prog 26 #[.pointer (some ⟨k2, 0, none⟩), .pointer (some ⟨k1, 0, none⟩)] ww _ := fun ww hb => counted26 k2 k1 w.heap.size w.heap.size y x f2 f1 L2 T2 L1 T1 M2 M1 b2 o2 b1 o1 0 ww (g2.below hb) (g1.below hb) hc2
 simp only [HR1.out] at m1
 simp only [HR2.out] at m2
 have y13 : wB.cell? ⟨k1, 13, none⟩ = some (.int .i64 b1) := by obtain ⟨_, _, _, h, _⟩ := g1; exact h.cell 13
 have z13 : wB.cell? ⟨k2, 13, none⟩ = some (.int .i64 b2) := by obtain ⟨_, _, _, h, _⟩ := g2; exact h.cell 13
 have j1 : BlockLt k1 wB := by obtain ⟨_, _, _, h, _⟩ := g1; exact h.lt
 have j2 : BlockLt k2 wB := by obtain ⟨_, _, _, h, _⟩ := g2; exact h.lt
 have HB := Lib.hid hbB
 clear g1 g2 hbB V1 V2 hspB hB1 hB2
 have hz : (b1 != 0) = true := by simpa using hby
 have hz2 : (b1 == b2) = true := by simpa using hbe
 clear hbe hby
 rcases r1 with _ | _
 · rcases r2 with _ | _
   · rcases t1b with _ | _
     · go_upto_region 6 with (first | ((go_at_call 24; with_reducible refine aT (m1 _ (bel wB _)) fun p => ?_)) | ((go_at_call 24; with_reducible refine aT (m2 _ (bel wB _)) fun p => ?_)) | ((go_at_call 26; with_reducible refine aT (n1 _ (bel wB _)) fun p => ?_)) | ((go_at_call 26; with_reducible refine aT (n2 _ (bel wB _)) fun p => ?_)))
       refine wp_region_quiet_rest (by kernel_rfl) (by kernel_rfl) (WQ.out ?_)
       repeat
        refine WQ_step (fun K hK => ?_); go_simp
        first
         | (refine hK _ ?_; clear hK K)
         | (apply Exists.intro
            refine ⟨fun _ => ?_, hK _ ?_⟩
            focus ((first | ((with_reducible refine calls_in (bs1 _ (bel wB _)) (fun w' hb => ?_); first | exact hb.rest | exact rest1 hb | exact rest2 hb)) | ((with_reducible refine calls_in (bs2 _ (bel wB _)) (fun w' hb => ?_); first | exact hb.rest | exact rest1 hb | exact rest2 hb))))
            clear hK K)
       refine WQ_nil ?_; intro w1 hw1; obtain ⟨p, hw1⟩ := hw1; subst hw1; go_wp2_with (first | ((go_at_call 24; with_reducible refine aT (m1 _ (bel wB _)) fun p => ?_)) | ((go_at_call 24; with_reducible refine aT (m2 _ (bel wB _)) fun p => ?_)) | ((go_at_call 26; with_reducible refine aT (n1 _ (bel wB _)) fun p => ?_)) | ((go_at_call 26; with_reducible refine aT (n2 _ (bel wB _)) fun p => ?_)))
       go_ret; exact ⟨by simp, HB.out.trans ((bel wB _).mono HB.out.size)⟩
     · rcases t2b with _ | _
       · go_upto_region 6 with (first | ((go_at_call 24; with_reducible refine aT (m1 _ (bel wB _)) fun p => ?_)) | ((go_at_call 24; with_reducible refine aT (m2 _ (bel wB _)) fun p => ?_)) | ((go_at_call 26; with_reducible refine aT (n1 _ (bel wB _)) fun p => ?_)) | ((go_at_call 26; with_reducible refine aT (n2 _ (bel wB _)) fun p => ?_)))
         refine wp_region_quiet_rest (by kernel_rfl) (by kernel_rfl) (WQ.out ?_)
         repeat
          refine WQ_step (fun K hK => ?_); go_simp
          first
           | (refine hK _ ?_; clear hK K)
           | (apply Exists.intro
              refine ⟨fun _ => ?_, hK _ ?_⟩
              focus ((first | ((with_reducible refine calls_in (bs1 _ (bel wB _)) (fun w' hb => ?_); first | exact hb.rest | exact rest1 hb | exact rest2 hb)) | ((with_reducible refine calls_in (bs2 _ (bel wB _)) (fun w' hb => ?_); first | exact hb.rest | exact rest1 hb | exact rest2 hb))))
              clear hK K)
         refine WQ_nil ?_; intro w1 hw1; obtain ⟨p, hw1⟩ := hw1; subst hw1; go_wp2_with (first | ((go_at_call 24; with_reducible refine aT (m1 _ (bel wB _)) fun p => ?_)) | ((go_at_call 24; with_reducible refine aT (m2 _ (bel wB _)) fun p => ?_)) | ((go_at_call 26; with_reducible refine aT (n1 _ (bel wB _)) fun p => ?_)) | ((go_at_call 26; with_reducible refine aT (n2 _ (bel wB _)) fun p => ?_)))
         go_ret; exact ⟨by simp, HB.out.trans ((bel wB _).mono HB.out.size)⟩
       · go_upto_region 6 with (first | ((go_at_call 24; with_reducible refine aT (m1 _ (bel wB _)) fun p => ?_)) | ((go_at_call 24; with_reducible refine aT (m2 _ (bel wB _)) fun p => ?_)) | ((go_at_call 26; with_reducible refine aT (n1 _ (bel wB _)) fun p => ?_)) | ((go_at_call 26; with_reducible refine aT (n2 _ (bel wB _)) fun p => ?_)))
         refine wp_region_quiet_rest (by kernel_rfl) (by kernel_rfl) (WQ.out ?_)
         repeat
          refine WQ_step (fun K hK => ?_); go_simp
          first
           | (refine hK _ ?_; clear hK K)
           | (apply Exists.intro
              refine ⟨fun _ => ?_, hK _ ?_⟩
              focus ((first | ((with_reducible refine calls_in (bs1 _ (bel wB _)) (fun w' hb => ?_); first | exact hb.rest | exact rest1 hb | exact rest2 hb)) | ((with_reducible refine calls_in (bs2 _ (bel wB _)) (fun w' hb => ?_); first | exact hb.rest | exact rest1 hb | exact rest2 hb))))
              clear hK K)
         refine WQ_nil ?_; intro w1 hw1; obtain ⟨p, hw1⟩ := hw1; subst hw1; go_wp2_with (first | ((go_at_call 24; with_reducible refine aT (m1 _ (bel wB _)) fun p => ?_)) | ((go_at_call 24; with_reducible refine aT (m2 _ (bel wB _)) fun p => ?_)) | ((go_at_call 26; with_reducible refine aT (n1 _ (bel wB _)) fun p => ?_)) | ((go_at_call 26; with_reducible refine aT (n2 _ (bel wB _)) fun p => ?_)))
         go_ret; exact ⟨by first | rfl | simp, HB.out.trans ((bel wB _).mono HB.out.size)⟩
   · go_wp2_with (first | ((go_at_call 24; with_reducible refine aT (m1 _ (bel wB _)) fun p => ?_)) | ((go_at_call 24; with_reducible refine aT (m2 _ (bel wB _)) fun p => ?_)) | ((go_at_call 26; with_reducible refine aT (n1 _ (bel wB _)) fun p => ?_)) | ((go_at_call 26; with_reducible refine aT (n2 _ (bel wB _)) fun p => ?_)))
     go_ret; exact ⟨by simp, HB.out.trans ((bel wB _).mono HB.out.size)⟩
 · go_wp2_with (first | ((go_at_call 24; with_reducible refine aT (m1 _ (bel wB _)) fun p => ?_)) | ((go_at_call 24; with_reducible refine aT (m2 _ (bel wB _)) fun p => ?_)) | ((go_at_call 26; with_reducible refine aT (n1 _ (bel wB _)) fun p => ?_)) | ((go_at_call 26; with_reducible refine aT (n2 _ (bel wB _)) fun p => ?_)))
   go_ret; exact ⟨by simp, HB.out.trans ((bel wB _).mono HB.out.size)⟩
theorem join_le : ∀ (ls : List (List UInt8)), (Lib.join ls [32]).length ≤ (ls.map fun l => l.length + 1).sum := by
 intro ls
 unfold Lib.join
 induction ls with
 | nil => simp [List.intercalate]
 | cons a r ih =>
   cases r with
   | nil => simp [List.intercalate]
   | cons b r =>
     have e : [32].intercalate (a :: b :: r) = a ++ ([32] ++ [(32 : UInt8)].intercalate (b :: r)) := by simp [List.intercalate, List.intersperse]
     rw [e]; simp only [lP, List.length_cons, List.length_nil, List.map_cons, List.sum_cons] at ih ⊢; omega
theorem line_le (ws : List ByteArray) : (lineM ws).length ≤ (ws.map fun s => s.size + 1).sum + 1 := by
 unfold lineM
 have := join_le (ws.map (·.data.toList))
 rw [List.map_map] at this
 simp only [lP, List.length_cons, List.length_nil]
 have e : (ws.map ((fun l : List UInt8 => l.length + 1) ∘ fun s : ByteArray => s.data.toList)).sum = (ws.map fun s => s.size + 1).sum := rfl
 omega
theorem itoaB_le {n : Int} (h : I64 n) : (itoaB n).size ≤ 21 := Lib.itoa_length_le n h.1 h.2
theorem shown_le (p : ByteArray) : (shownM p).size ≤ p.size + 1 := by
 unfold shownM
 split
 · show 1 ≤ p.size + 1; omega
 · omega
theorem hex_le (s : ByteArray) : (hexM s).size ≤ 2 * s.size + 1 := by
 unfold hexM
 split
 · show 1 ≤ _; omega
 · show (hexL s.data.toList).length ≤ _; rw [hexL_len]; show 2 * s.size ≤ _; omega
theorem idxFrom_hit {α : Type} (p : α → Bool) : ∀ (zs : List α) (q k : Nat), idxFrom p zs q = (k : Int) → ∃ j x, k = q + j ∧ zs[j]? = some x ∧ p x = true
 | [], q, k, h => by unfold idxFrom at h; omega
 | z :: r, q, k, h => by
   unfold idxFrom at h
   split at h
   · rename_i hz
     exact ⟨0, z, by omega, rfl, hz⟩
   · obtain ⟨j, x, h1, h2, h3⟩ := idxFrom_hit p r (q + 1) k h; exact ⟨j + 1, x, by omega, by simpa using h2, h3⟩
theorem idxM_hit {α : Type} {p : α → Bool} {zs : List α} {x : α} (h0 : 0 ≤ idxM p zs) (hx : zs[(idxM p zs).toNat]? = some x) : p x = true := by
 obtain ⟨k, hk⟩ : ∃ k : Nat, idxM p zs = k := ⟨(idxM p zs).toNat, by omega⟩
 rw [hk, Int.toNat_natCast] at hx
 obtain ⟨j, y, h1, h2, h3⟩ := idxFrom_hit p zs 0 k hk
 rw [Nat.zero_add] at h1
 subst h1
 rw [h2] at hx
 cases hx
 exact h3
def wLen (S : PSt) : Nat → Int → Nat → Nat
 | 0, _, _ => 0
 | f + 1, n, p => match S.ins[(idxM (isNum n) S.ins).toNat]? with
   | none => 0
   | some x => if x.dir = true then p + 40 + (x.ents.map fun e => wLen S f e.num (p + 1 + e.name.size)).sum else p + 2 * x.data.size + 40
theorem sum_le {α : Type} (f g : α → Nat) : ∀ (l : List α), (∀ x ∈ l, f x ≤ g x) → (l.map f).sum ≤ (l.map g).sum
 | [], _ => Nat.le_refl _
 | x :: r, h => by
   have h1 := h x (List.mem_cons_self); have h2 := sum_le f g r (fun y hy => h y (List.mem_cons_of_mem _ hy)); simp only [List.map_cons, List.sum_cons]; omega
theorem flatMap_le {α : Type} (f : α → List UInt8) (g : α → Nat) : ∀ (l : List α), (∀ x ∈ l, (f x).length ≤ g x) → (l.flatMap f).length ≤ (l.map g).sum := by
 intro l h
 rw [List.length_flatMap]
 exact sum_le _ _ l h
theorem wlk_le {S : PSt} (hwf : S.wf) : ∀ (f : Nat) (n : Int) (p : ByteArray), wlkOk S f n = true → (wlkT S f n p).length ≤ wLen S f n p.size
 | 0, n, p, h => by cases h
 | f + 1, n, p, h => by
   unfold wlkOk at h; simp only [Bool.and_eq_true, decide_eq_true_eq] at h; obtain ⟨h0, h⟩ := h; unfold wlkT wLen; rcases hx : S.ins[(idxM (isNum n) S.ins).toNat]? with _ | x
   · simp
   · rw [hx] at h; simp only at h ⊢; have hp := idxM_hit h0 hx; have hn : x.num = n := by simpa [isNum] using hp
     have hi : I64 n := by rw [← hn]; exact (hwf.2.2.2.1 x (mG hx)).1
     have h1 := itoaB_le hi; have h2 := shown_le p; by_cases hd : x.dir = true
     · rw [if_pos hd, if_pos hd]; rw [hd] at h; simp only [Bool.not_true, Bool.false_or, List.all_eq_true] at h; have hl := line_le [⟨#[100]⟩, shownM p, itoaB n]; have hsz : (⟨#[100]⟩ : ByteArray).size = 1 := rfl; simp only [List.map_cons, List.map_nil, List.sum_cons, List.sum_nil, hsz] at hl; have hm := flatMap_le (fun e : PEnt => wlkT S f e.num (p ++ ⟨#[47]⟩ ++ e.name)) (fun e => wLen S f e.num (p.size + 1 + e.name.size)) x.ents (fun e he => by
        have := wlk_le hwf f e.num (p ++ ⟨#[47]⟩ ++ e.name) (h e he); have e1 : (p ++ ⟨#[47]⟩ ++ e.name).size = p.size + 1 + e.name.size := by rw [ByteArray.size_append, ByteArray.size_append]; rfl
        rw [e1] at this; exact this)
       rw [lP]; omega
     · rw [if_neg hd, if_neg hd]; have hl := line_le [⟨#[102]⟩, shownM p, itoaB n, hexM x.data]; have hsz : (⟨#[102]⟩ : ByteArray).size = 1 := rfl; have h3 := hex_le x.data; simp only [List.map_cons, List.map_nil, List.sum_cons, List.sum_nil, hsz] at hl; omega
def shLen (S : PSt) (f : Nat) : Nat := wLen S f 1 0 + (S.ins.map fun x => 2 * x.data.size + 40).sum + (S.op.map fun _ => 80).sum + (S.made.map fun _ => 22).sum + 2
theorem shape_le {S : PSt} (hwf : S.wf) {f : Nat} (h : wlkOk S f 1 = true) : (shapeT S f).length ≤ shLen S f := by
 have h1 := wlk_le hwf f 1 ⟨#[]⟩ h
 have h2 := flatMap_le (unT S) (fun x => 2 * x.data.size + 40) S.ins (fun x hx => by
  unfold unT
  split
  · have hl := line_le [⟨#[117]⟩, itoaB x.num, hexM x.data]; have hsz : (⟨#[117]⟩ : ByteArray).size = 1 := rfl; have h3 := hex_le x.data; have h4 := itoaB_le (hwf.2.2.2.1 x hx).1; simp only [List.map_cons, List.map_nil, List.sum_cons, List.sum_nil, hsz] at hl; omega
  · simp)
 have h3 := flatMap_le opT (fun _ => 80) S.op (fun d hd => by
  unfold opT; have hl := line_le [⟨#[111]⟩, itoaB d.core, itoaB d.fd, itoaB d.num]; have hsz : (⟨#[111]⟩ : ByteArray).size = 1 := rfl; obtain ⟨a1, a2, a3⟩ := hwf.2.2.2.2.1 d hd; have b1 := itoaB_le a1; have b2 := itoaB_le a2; have b3 := itoaB_le a3; simp only [List.map_cons, List.map_nil, List.sum_cons, List.sum_nil, hsz] at hl; omega)
 have h4 := flatMap_le mdT (fun _ => 22) S.made (fun m hm => by
  unfold mdT; have := itoaB_le (hwf.2.2.2.2.2 m hm); have e : (Lib.itoa m).length = (itoaB m).size := rfl; simp only [List.length_cons]; omega)
 unfold shapeT filesT restT shLen
 simp only [lP, List.length_cons, List.length_nil]
 have e0 : (⟨#[]⟩ : ByteArray).size = 0 := rfl
 rw [e0] at h1
 omega
end Go.Proofs.YtjkenolgkkknaaaGreatDoor
