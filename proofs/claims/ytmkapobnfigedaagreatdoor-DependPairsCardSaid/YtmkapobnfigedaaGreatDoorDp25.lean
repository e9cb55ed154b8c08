/- Part of the proof of a law of chapter 15. Conditions: none. -/
import Derived.Test.YtmkapobnfigedaaGreatDoorDp23
import Derived.Test.YtmkapobnfigedaaGreatDoorDp24
set_option linter.unusedVariables false
set_option linter.unusedSimpArgs false
set_option maxRecDepth 100000
set_option maxHeartbeats 8000000
namespace Go.Proofs.YtmkapobnfigedaaGreatDoor
open Go.RowKit
def atX (S : PSt) (s : ByteArray) : Except Int Nat := if (parseM s).1 ≠ 0 then .error (codeM (parseM s).1) else if (walkM S 0 (parseM s).2).2 ≠ 0 then .error (walkM S 0 (parseM s).2).2 else .ok (walkM S 0 (parseM s).2).1
def parX (S : PSt) (s : ByteArray) : Except Int (Nat × ByteArray) := if (parseM s).1 ≠ 0 then .error (codeM (parseM s).1) else parentM S (parseM s).2
theorem parX_ok {S : PSt} {s : ByteArray} {K : Nat} {l : ByteArray} (h : parX S s = .ok (K, l)) : ∃ x, S.ins[K]? = some x ∧ x.dir = true := by
 unfold parX at h
 split at h
 · cases h
 · exact parent_ok h
theorem atX_ok {S : PSt} (hf : Fine S) {s : ByteArray} {K : Nat} (h : atX S s = .ok K) : ∃ x, S.ins[K]? = some x := by
 unfold atX at h
 split at h
 · cases h
 · split at h
   · cases h
   · cases h; exact ⟨_, gE (walkM_lt hf (parseM s).2 0 hf.pos)⟩
theorem parent113x (d b : Nat) (S : PSt) (c : PCall) (s : ByteArray) (w : World) (h : DR w d b S c) (hp : (parseM s).1 ≠ 0) :
 Calls Tryz.prog 170 #[.pointer (some ⟨d, 0, none⟩), .string s] w fun e w' => e = thrown (codeM (parseM s).1) ∧ Below w.heap.size w w' := by
 have hpar : ∀ ww, Calls Tryz.prog 198 #[.string s] ww fun e w' => e = thrown (codeM (parseM s).1) ∧ Below ww.heap.size ww w' := fun ww => by
  refine (parse150 s ww).mono ?_; intro e w' h; rcases h with ⟨h, _⟩ | ⟨_, h1, h2⟩
  · exact absurd h hp
  · exact ⟨h1, h2⟩
 clear h hp
 go_enter Tryz.func170, Tryz.ntmps170
 go_wp2_with (go_at_call 198; refine aE (hpar _) fun p => ?_)
 exact ⟨rfl, rfl, bel w _⟩
theorem Opened.parX_call {B : Nat} {w : World} {d b bi gm capi capm : Nat} {ov nv : Value} {S : PSt} {c : PCall} {r : PRes} (o : Opened B w d b bi gm capi capm ov nv S c r) (hf : Fine S) (s : ByteArray) (R : Except Int (Nat × ByteArray)) (hR : parX S s = R) :
 ∀ ww, Below w.heap.size w ww → Calls Tryz.prog 170 #[.pointer (some ⟨d, 0, none⟩), .string s] ww fun e w' => (match R with | .ok (K, l) => e = .returned (.tuple #[.pointer (some ⟨bi, K * 4, none⟩), .string l]) | .error k => e = thrown k) ∧ Below ww.heap.size ww w' := by
 intro ww hb
 unfold parX at hR
 by_cases hp : (parseM s).1 = 0
 · rw [if_neg (by simpa using hp)] at hR; have := o.parent_call hf s hp (Nat.le_trans (parse_len hp) (by decide)) R hR ww hb; rcases R with k | ⟨K, l⟩ <;> exact this
 · rw [if_pos hp] at hR; subst hR; exact parent113x d b S c s ww (o.at_.read.below hb (Nat.le_refl _)) hp
theorem Opened.atX_call {B : Nat} {w : World} {d b bi gm capi capm : Nat} {ov nv : Value} {S : PSt} {c : PCall} {r : PRes} (o : Opened B w d b bi gm capi capm ov nv S c r) (hf : Fine S) (s : ByteArray) (R : Except Int Nat) (hR : atX S s = R) :
 ∀ ww, Below w.heap.size w ww → Calls Tryz.prog 178 #[.pointer (some ⟨d, 0, none⟩), .string s] ww fun e w' => (match R with | .ok K => e = .returned (.pointer (some ⟨bi, K * 4, none⟩)) | .error k => e = thrown k) ∧ Below ww.heap.size ww w' := by
 intro ww hb
 unfold atX at hR
 by_cases hp : (parseM s).1 = 0
 · rw [if_neg (by simpa using hp)] at hR; refine (o.at_call hf s hp (Nat.le_trans (parse_len hp) (by decide)) _ _ rfl ww hb).mono ?_; rintro e w' ⟨h1, h2⟩; refine ⟨?_, h2⟩; rcases h1 with ⟨h, h'⟩ | ⟨h, h'⟩
   · rw [if_neg (by simpa using h)] at hR; subst hR; exact h'
   · rw [if_pos h] at hR; subst hR; exact h'
 · rw [if_pos hp] at hR; subst hR; exact at122x d b S c s ww (o.at_.read.below hb (Nat.le_refl _)) hp
theorem take_miss {bi K : Nat} {x : PIn} {ea : Option Addr} {ec : Nat} {w : World} (hI : InoAt w bi K x ea ec) (l : ByteArray) (hm : hitE x.ents l = false) :
 Calls Tryz.prog 187 #[.pointer (some ⟨bi, K * 4, none⟩), .string l] w fun e w' => e = thrown 1 ∧ Below w.heap.size w w' := by
 have hent := fun ww hb => hI.ent ww l hb
 rw [hm] at hent
 have y2 := hI.y2
 have iB := hI.iB
 clear hI hm
 go_enter Tryz.func187, Tryz.ntmps187
 go_wp2_with (first | (go_at_call 171; refine aT (hent _ (bel _ _)) fun p => ?_) | (go_at_call 172; with_reducible refine aE (throw_yes _ _) fun p => ?_))
 exact ⟨rfl, rfl, bel w _⟩
def rem1 (S : PSt) (c : PCall) (r : PRes) (num : Int) : Except Int (PSt × PRes) := match S.ins[(findN S.nums num).toNat]? with
 | none => .error 0
 | some y => if c.kind = 9 then (if y.dir = true then .error 8 else .ok (tidyM S num, r)) else if y.dir = false then .error 7 else if 0 < y.ents.length then .error 3 else .ok ({ S with ins := delAt S.ins (findN S.nums num).toNat }, r)
def removeM (S : PSt) (c : PCall) (r : PRes) : Except Int (PSt × PRes) := match parX S c.path with
 | .error k => .error k
 | .ok (K, l) => match S.ins[K]? with
   | none => .error 0
   | some x => if hitE x.ents l = false then .error 1 else match x.ents[bsE x.ents l]? with
     | none => .error 0
     | some e => rem1 (S.ents K x (delAt x.ents (bsE x.ents l))) c r e.num
theorem ents_get {S : PSt} {K : Nat} {x : PIn} {es : List PEnt} (hx : S.ins[K]? = some x) (q : Nat) : (S.ents K x es).ins[q]? = if K = q then some { x with ents := es } else S.ins[q]? := by
 unfold PSt.ents
 show (S.ins.set K _)[q]? = _
 obtain ⟨hl, -⟩ := gI.1 hx
 rw [List.getElem?_set]
 by_cases e : K = q
 · subst e; rw [if_pos rfl, if_pos rfl, if_pos hl]
 · rw [if_neg e, if_neg e]
theorem ents_mem {S : PSt} {K : Nat} {x y : PIn} {es : List PEnt} (hx : S.ins[K]? = some x) (hy : y ∈ (S.ents K x es).ins) : y ∈ S.ins ∨ y = { x with ents := es } := by
 obtain ⟨q, hq⟩ := List.mem_iff_getElem?.1 hy
 rw [ents_get hx] at hq
 split at hq
 · cases hq; exact .inr rfl
 · exact .inl (mG hq)
theorem Fine.take {S : PSt} (hf : Fine S) {K : Nat} {x : PIn} (hx : S.ins[K]? = some x) (q : Nat) (hq : q < x.ents.length) : Fine (S.ents K x (delAt x.ents q)) := by
 have hn := nums_ents S K x (delAt x.ents q) hx
 have hxm := mG hx
 have hsub : ∀ e ∈ delAt x.ents q, e ∈ x.ents := fun e he => (List.mem_append.1 he).elim List.mem_of_mem_take List.mem_of_mem_drop
 obtain ⟨a1, a2, a3, a4, a5, a6⟩ := hf.wf
 have hl : (S.ents K x (delAt x.ents q)).ins.length = S.ins.length := by unfold PSt.ents; simp
 refine ⟨⟨by rw [hl]; exact a1, a2, a3, fun y hy => ?_, a5, a6⟩, by rw [hl]; exact hf.pos, fun y hy e he => ?_, fun d hd => by rw [hn]; exact hf.opens d hd⟩
 · rcases ents_mem hx hy with h | rfl
   · exact a4 y h
   · obtain ⟨b1, b2, b3⟩ := a4 x hxm; exact ⟨b1, by show (delAt x.ents q).length ≤ _; rw [delAt_len _ _ hq]; omega, fun e he => b3 e (hsub e he)⟩
 · rw [hn]; rcases ents_mem hx hy with h | rfl
   · exact hf.find y h e he
   · exact hf.find x hxm e (hsub e he)
theorem Small.take {S : PSt} (hs : Small S) {K : Nat} {x : PIn} (hx : S.ins[K]? = some x) (q : Nat) (hq : q < x.ents.length) : Small (S.ents K x (delAt x.ents q)) := by
 have hl : (S.ents K x (delAt x.ents q)).ins.length = S.ins.length := by unfold PSt.ents; simp
 refine ⟨by rw [hl]; exact hs.ins, fun y hy => ?_, hs.made, hs.each⟩
 rcases ents_mem hx hy with h | rfl
 · exact hs.ents y h
 · have := hs.ents x (mG hx); show (delAt x.ents q).length ≤ _; rw [delAt_len _ _ hq]; omega
theorem Opened.dpart {B : Nat} {w : World} {d b bi gm capi capm : Nat} {ov nv : Value} {S : PSt} {c : PCall} {r : PRes} (o : Opened B w d b bi gm capi capm ov nv S c r) : DPart B w d b bi capi ov (.slice (some ⟨gm, 0, none⟩) S.made.length capm) nv S c r := ⟨o.hBb, o.hBd, o.hD, o.hb, o.st, o.nm⟩
theorem remove78 (B d b : Nat) (S : PSt) (c : PCall) (r : PRes) (w : World) (h : DoAt B w d b S c r) (hB : B ≤ w.heap.size) (hf : Fine S) (hs : Small S) (hmd : 0 < S.made.length) :
 Calls Tryz.prog 148 #[.pointer (some ⟨d, 0, none⟩)] w (RunOut B w d b c (removeM S c r)) := by
 obtain ⟨bi, gm, capi, capm, ov, nv, ho⟩ := h.open_ hf.pos hmd
 obtain ⟨PM, hPM⟩ : ∃ PM, parX S c.path = PM := ⟨_, rfl⟩
 have hpar := ho.parX_call hf c.path PM hPM
 unfold removeM
 rw [hPM]
 have d6 : w.cell? ⟨d, 6, none⟩ = some (.string c.path) := ho.hD.cell 6
 have iD := ho.hD.lt
 have iW : Bel w w := inferInstance
 rcases PM with k | ⟨K, l⟩
 · simp only; have hpar1 : ∀ ww, Below w.heap.size w ww → Calls Tryz.prog 170 #[.pointer (some ⟨d, 0, none⟩), .string c.path] ww fun e w' => e = thrown k ∧ Below ww.heap.size ww w' := hpar
   clear hpar hPM hf hs ho h
   go_enter Tryz.func148, Tryz.ntmps148
   go_wp2_with (go_at_call 170; refine aE (hpar1 _ (bel _ _)) fun p => ?_)
   exact ⟨rfl, (bel w _).mono hB, rfl⟩
 have hpar1 : ∀ ww, Below w.heap.size w ww → Calls Tryz.prog 170 #[.pointer (some ⟨d, 0, none⟩), .string c.path] ww fun e w' => e = .returned (.tuple #[.pointer (some ⟨bi, K * 4, none⟩), .string l]) ∧ Below ww.heap.size ww w' := hpar
 obtain ⟨x, hx, _⟩ := parX_ok hPM
 simp only
 rw [hx]
 simp only
 by_cases hhit : hitE x.ents l = true
 · have hq := hitE_lt hhit; obtain ⟨e0, he0⟩ : ∃ e0, x.ents[bsE x.ents l]? = some e0 := ⟨_, gE hq⟩
   rw [if_neg (by rw [hhit]; decide), he0]; simp only; have hf1 := hf.take hx _ hq; have hs1 := hs.take hx _ hq; have hfd := hf.find x (mG hx) e0 (mG he0); rw [← nums_ents S K x (delAt x.ents (bsE x.ents l)) hx] at hfd; have htake : ∀ ww, Below w.heap.size w ww → Calls Tryz.prog 187 #[.pointer (some ⟨bi, K * 4, none⟩), .string l] ww _ := fun ww hb => take130 B ww ov (.slice (some ⟨gm, 0, none⟩) S.made.length capm) S bi capi K x l (ho.below hb).st hx (Nat.le_trans hB hb.size) (hs.ents x (mG hx)) hhit e0 he0
   have HO := Lib.hid ho; generalize hS1 : S.ents K x (delAt x.ents (bsE x.ents l)) = S1 at hf1 hs1 hfd htake ⊢; have HP : ∀ (ww w3 : World), Below w.heap.size w ww → Keep (InEn ww) ww w3 → StOwn B w3 (.slice (some ⟨bi, 0, none⟩) S.ins.length capi) ov (.slice (some ⟨gm, 0, none⟩) S.made.length capm) S1 → Opened B w3 d b bi gm capi capm ov nv S1 c r := fun ww w3 hb hk hst => by
    subst hS1; exact Opened.put (HO.out.below hb) hk hst
   have hmd1 : 0 < S1.made.length := by subst hS1; exact hmd
   have HPM := Lib.hid HP; clear hpar hPM hf hs ho h HP hx hhit hq he0 hS1 HO hmd; generalize hnum : e0.num = num at htake hfd ⊢; clear hnum e0; obtain ⟨RR, hRR⟩ : ∃ RR, rem1 S1 c r num = RR := ⟨_, rfl⟩
   rw [hRR]; have HRR := Lib.hid hRR; clear hRR
   go_enter Tryz.func148, Tryz.ntmps148
   go_upto_region 2 with (first | (go_at_call 170; refine aE (hpar1 _ (bel _ _)) fun p => ?_) | (go_at_call 187; refine (htake _ (bel _ _)).mono ?_; rintro e w3 ⟨rfl, hb3, hk3, hs3⟩; have o3 := HPM.out _ _ (bel w _) hk3 hs3; have HW3 := Lib.hid (And.intro o3 (((bel w _).mono hB).trans hb3)); clear hb3 hk3 hs3 o3))
   refine abs_world (F := fun wA => Opened B wA d b bi gm capi capm ov nv S1 c r ∧ Below B w wA) HW3.out ?_; clear HW3 iD d6 htake hpar1 iW; rintro wA ⟨hA, hbA⟩; obtain ⟨K2, hfn⟩ : ∃ K2 : Nat, findN S1.nums num = K2 := ⟨(findN S1.nums num).toNat, by omega⟩
   have hK2 : K2 < S1.ins.length := by
    rcases findN_bounds S1.nums num with h | h
    · omega
    · have h2 := h.2; unfold PSt.nums at h2 hfn; rw [lM] at h2; omega
   obtain ⟨y, hy⟩ : ∃ y, S1.ins[K2]? = some y := ⟨_, gE hK2⟩
   have hRR := HRR.out.symm; clear HRR; unfold rem1 at hRR; rw [hfn, Int.toNat_natCast, hy] at hRR; simp only at hRR; have hfind : ∀ ww, Below wA.heap.size wA ww → Calls Tryz.prog 102 #[.pointer (some ⟨b, 0, none⟩), .int .i64 num] ww _ := fun ww hb => find_sp b S1 num ww (hA.at_.read.sp.below hb (Nat.le_refl _)) hf1.wf
   rw [hfn] at hfind; obtain ⟨ea, ec, hI⟩ := hA.ino hs1 hy; have htd : ∀ ww, Below wA.heap.size wA ww → Calls Tryz.prog 145 #[.pointer (some ⟨d, 0, none⟩), .int .i64 num] ww fun e w' => e = .returned (.tuple #[]) ∧ Below B w w' ∧ DPart B w' d b bi capi ov (.slice (some ⟨gm, 0, none⟩) S1.made.length capm) nv (tidyM S1 num) c r := fun ww hb => (tidy75a (hA.dpart.below hb) (Nat.le_trans hB (Nat.le_trans hbA.size hb.size)) hf1.wf num hy hfn).mono fun e w' ⟨h1, h2, h3⟩ => ⟨h1, (hbA.trans (hb.mono (Nat.le_trans hB hbA.size))).trans h2, h3⟩
   obtain ⟨iI, y0, y1, y2, y3, hrow, hent, hful⟩ := hI; have hA0 := hA; have hAp := hA.dpart; have iD := hA.hD.lt; have iL := hA.hb.lt; have d0 : wA.cell? ⟨d, 0, none⟩ = some (.pointer (some ⟨b, 0, none⟩)) := hA.hD.cell 0; have d1 : wA.cell? ⟨d, 1, none⟩ = some (.int .i64 c.kind) := hA.hD.cell 1; have b0 : wA.cell? ⟨b, 0, none⟩ = some (.slice (some ⟨bi, 0, none⟩) S1.ins.length capi) := hA.hb.cell 0; have hKI : (K2 : Int) < S1.ins.length := by omega
   have hlen : (0 : Int) ≤ y.ents.length := by omega
   have hKl := hK2; have HF1 := Lib.hid (And.intro hf1 (And.intro hs1 hmd1)); have HA := Lib.hid (And.intro hAp hbA); have iA : Bel wA wA := inferInstance; clear hA hA0 hAp hbA hf1 hs1 hfd hmd1 hrow hent hful hy hfn y0 y3 HPM; generalize y.dir = yd at y1 hRR; generalize hyl : y.ents.length = yl at y2 hlen hRR; clear hyl y; by_cases hk : c.kind = 9
   · rw [if_pos hk] at hRR; rw [hk] at d1; rcases yd with _ | _
     · simp only [Bool.false_eq_true, if_false] at hRR; subst hRR; go_wp2_with (first | (go_at_call 102; refine aT (hfind _ (bel _ _)) fun p => ?_) | (go_at_call 172; with_reducible refine aT (throw_no _ _) fun p => ?_) | (go_at_call 145; refine (htd _ (bel _ _)).mono ?_; rintro e w7 ⟨rfl, hb7, hp7⟩; have H7 := Lib.hid (And.intro hb7 hp7); clear hb7 hp7))
       exact bodyPost_end (v := .tuple #[]) (by simp [results, go_sem]) rfl ⟨H7.out.1, rfl, H7.out.2.at_⟩
     · simp only [if_true] at hRR; subst hRR; go_wp2_with (first | (go_at_call 102; refine aT (hfind _ (bel _ _)) fun p => ?_) | (go_at_call 172; with_reducible refine aE (throw_yes _ _) fun p => ?_))
       exact ⟨rfl, HA.out.2.trans ((bel wA _).mono (Nat.le_trans hB HA.out.2.size)), rfl⟩
   · rw [if_neg hk] at hRR; have hkb : (c.kind == 9) = false := by simpa using hk
     rcases yd with _ | _
     · simp only [if_true] at hRR; subst hRR; go_wp2_with (first | (go_at_call 102; refine aT (hfind _ (bel _ _)) fun p => ?_) | (go_at_call 172; with_reducible refine aE (throw_yes _ _) fun p => ?_))
       exact ⟨rfl, HA.out.2.trans ((bel wA _).mono (Nat.le_trans hB HA.out.2.size)), rfl⟩
     · rw [if_neg (by decide)] at hRR; by_cases hz : 0 < yl
       · rw [if_pos hz] at hRR; subst hRR; have hzI : (0 : Int) < yl := by omega
         go_wp2_with (first | (go_at_call 102; refine aT (hfind _ (bel _ _)) fun p => ?_) | (go_at_call 172; with_reducible refine aT (throw_no _ _) fun p => ?_) | (go_at_call 172; with_reducible refine aE (throw_yes _ _) fun p => ?_))
         exact ⟨rfl, HA.out.2.trans ((bel wA _).mono (Nat.le_trans hB HA.out.2.size)), rfl⟩
       · rw [if_neg hz] at hRR; subst hRR; have hzI : ¬ (0 : Int) < yl := by omega
         have hwK : IntKind.i64.wrap ((K2 : Int) + 1) = (K2 : Int) + 1 := I64.wrap ⟨by omega, by have := HF1.out.1.wf.1; omega⟩
         go_upto_region 9 with (first | (go_at_call 102; refine aT (hfind _ (bel _ _)) fun p => ?_) | (go_at_call 172; with_reducible refine aT (throw_no _ _) fun p => ?_))
         refine abs_world (F := fun wB => DPart B wB d b bi capi ov (.slice (some ⟨gm, 0, none⟩) S1.made.length capm) nv S1 c r ∧ Below B w wB) ⟨HA.out.1.below (bel _ _), HA.out.2.trans ((bel wA _).mono (Nat.le_trans hB HA.out.2.size))⟩ ?_; clear iD iL d0 d1 b0 iI y1 y2 HA hfind htd iA wA; rintro wA ⟨hA, hbA⟩; have iD := hA.hD.lt; have iL := hA.hb.lt; have d0 : wA.cell? ⟨d, 0, none⟩ = some (.pointer (some ⟨b, 0, none⟩)) := hA.hD.cell 0; have b0 : wA.cell? ⟨b, 0, none⟩ = some (.slice (some ⟨bi, 0, none⟩) S1.ins.length capi) := by have := hA.hb.cell 0; simpa using this
         obtain ⟨is, hi1, hi2, hi3⟩ := hA.st.delIns K2 hKl; have hdel := delete125 B bi capi (is.map IRec.cells) K2 wA.drew (by rw [lM, hi2]; exact hi1.keep ((Keep.refl (fun _ => False) wA).drew) (fun _ _ h => h)) (irec_len _) (irec_one _) (by rw [lM, hi2]; exact hKl) (by rw [lM, hi2]; exact HF1.out.1.wf.1); rw [lM, hi2] at hdel; have HA := Lib.hid (And.intro hA (And.intro hbA hi3)); clear hA hbA hi3 hi1; refine wp_region_eff [14, 17] true (fun w' => w'.cell? ⟨d, 0, none⟩ = some (.pointer (some ⟨b, 0, none⟩)) ∧ w'.cell? ⟨b, 0, none⟩ = some (.slice (some ⟨bi, 0, none⟩) S1.ins.length capi)) (by kernel_rfl) (by kernel_rfl) ?_ ?_
         · (try dsimp only); (repeat' apply And.intro) <;> go_simp
         repeat
          refine wpL_look rfl rfl ?_; apply Exists.intro; refine ⟨?_, ?_⟩
          focus
           rintro w' ⟨s0, s1⟩; go_simp
           first | done | rfl
          simp only [Act.put, sA, sZ, sS]
         refine wpL_act rfl rfl ?_; refine eff_call 182 #[.slice (some ⟨bi, 0, none⟩) S1.ins.length capi, .int .i64 K2, .int .i64 ((K2 : Int) + 1)] ?hr ?_
         case hr =>
          go_simp
          first | done | rfl
         refine hdel.mono ?_; rintro e w5 ⟨rfl, ho5, hk5⟩; obtain ⟨hA, hbA, hi3⟩ := HA.out; have hk45 : Keep (fun g => g = bi) wA w5 := ((Keep.refl (fun g => g = bi) wA).drew).trans hk5 (fun _ _ h => h); obtain ⟨hBi, arr, hbi⟩ : B ≤ bi ∧ ∃ arr, Blk wA bi arr 68 := by
          obtain ⟨_, _, is', h3, _⟩ := hA.st; rcases h3 with ⟨h0, _⟩ | ⟨g, cap', arr, heq, hgB, hgb, _⟩
          · cases h0
          · simp only [Value.slice.injEq, Option.some.injEq, Addr.mk.injEq] at heq; obtain ⟨⟨rfl, -, -⟩, -, -⟩ := heq; exact ⟨hgB, arr, hgb⟩
         have hX : ∀ g, g = bi → ∃ c, Blk wA g c 68 := fun g hg => by rw [hg]; exact ⟨arr, hbi⟩
         have hst5 := hi3 w5 _ _ hk45 hX ho5; have hnb : ∀ {g : Nat} {cc : Array Value} {t : TypeId}, Blk wA g cc t → t ≠ 68 → ¬ g = bi := fun hb ht hg => by
          subst hg; exact hb.ne_ hbi ht rfl
         have hD5 := hk45.blk hA.hD (hnb hA.hD (by decide)); have hB5 := hk45.blk hA.hb (hnb hA.hb (by decide)); have hN5 := hA.nm.keep hk45 (fun g hg h => by
          obtain ⟨cc, hcc⟩ := hA.nm.blk_of hg; exact hnb hcc (by decide) h)
         have hBA : B ≤ wA.heap.size := Nat.le_trans hB hbA.size; have hbw5 : Below B w w5 := hbA.trans (hk45.below hBA (fun i hi h => by omega)); have y0 : w5.cell? ⟨d, 0, none⟩ = some (.pointer (some ⟨b, 0, none⟩)) := hD5.cell 0; have y1 : w5.cell? ⟨b, 0, none⟩ = some (.slice (some ⟨bi, 0, none⟩) S1.ins.length capi) := by have := hB5.cell 0; simpa using this
         have fy1 := hB5.frozen 0; have jD := hD5.lt; have jB := hB5.lt; have hKb : Keep (fun g => g = b) w5 (w5.setCell ⟨b, 0, none⟩ (.slice (some ⟨bi, 0, none⟩) (S1.ins.length - 1) capi)) := Keep.setCell (S := fun g => g = b) (p := ⟨b, 0, none⟩) (Keep.refl _ _) (.inl rfl) _; have hp : DPart B (w5.setCell ⟨b, 0, none⟩ (.slice (some ⟨bi, 0, none⟩) (S1.ins.length - 1) capi)) d b bi capi ov (.slice (some ⟨gm, 0, none⟩) S1.made.length capm) nv { S1 with ins := delAt S1.ins K2 } c r := ⟨hA.hBb, hA.hBd, hKb.blk hD5 (hD5.ne_ hB5 (by decide)), by rw [delAt_len _ _ hKl]; have := hB5.set_ 0 (.slice (some ⟨bi, 0, none⟩) (S1.ins.length - 1) capi); simpa using this, by rw [delAt_len _ _ hKl]; exact hst5.keep hKb (fun g hg => by rw [hg]; exact ⟨_, 26, hB5, by decide, by decide, by decide, by decide⟩), hN5.keep hKb (fun g hg => hN5.ne_blk hB5 (by decide) hg)⟩
         have hbf : Below B w (w5.setCell ⟨b, 0, none⟩ (.slice (some ⟨bi, 0, none⟩) (S1.ins.length - 1) capi)) := hbw5.setCell (p := ⟨b, 0, none⟩) hA.hBb _; have HF := Lib.hid (And.intro hp hbf); clear hA hbA hst5 hD5 hB5 hN5 hk45 hk5 ho5 hnb hbw5 hKb hp hbf hdel hbi hX hi3; refine ⟨_, rfl, .inl ⟨y0, y1⟩, ?_⟩; simp only [Act.put, sA, sZ, sS]
         repeat
          refine wpL_look rfl rfl ?_; apply Exists.intro; refine ⟨?_, ?_⟩
          focus
           rintro w' ⟨s0, s1⟩; go_simp
           first | done | rfl
          simp only [Act.put, sA, sZ, sS]
         refine wpL_skip rfl rfl ?_; apply Exists.intro; refine ⟨?_, .inr ⟨rfl, rfl⟩, ?_⟩
         focus
          go_simp; rfl
         simp only [Act.put]; refine wpL_end ?_; exact bodyPost_end (v := .tuple #[]) (by simp [results, go_sem]) rfl ⟨HF.out.2, rfl, HF.out.1.at_⟩
 · have hhit : hitE x.ents l = false := by simpa using hhit
   rw [if_pos hhit]; obtain ⟨ea, ec, hI⟩ := ho.ino hs hx; have hmiss : ∀ ww, Below w.heap.size w ww → Calls Tryz.prog 187 #[.pointer (some ⟨bi, K * 4, none⟩), .string l] ww fun e w' => e = thrown 1 ∧ Below ww.heap.size ww w' := fun ww hb => by
    obtain ⟨ea, ec, hI⟩ := (ho.below hb).ino hs hx; exact take_miss hI l hhit
   clear hpar hPM hx hf hs ho h hI hhit
   go_enter Tryz.func148, Tryz.ntmps148
   go_wp2_with (first | (go_at_call 170; refine aE (hpar1 _ (bel _ _)) fun p => ?_) | (go_at_call 187; refine aE (hmiss _ (bel _ _)) fun p => ?_))
   exact ⟨rfl, (bel w _).mono hB, rfl⟩
def linkX (S : PSt) (c : PCall) (r : PRes) : Except Int (PSt × PRes) := match atX S c.path with
 | .error k => .error k
 | .ok K1 => match S.ins[K1]? with
   | none => .error 0
   | some x => if x.dir = true then .error 8 else match parX S c.path2 with
     | .error k => .error k
     | .ok (K, l) => linkM2 S x r K l
theorem link77x (B d b : Nat) (S : PSt) (c : PCall) (r : PRes) (w : World) (h : DoAt B w d b S c r) (hB : B ≤ w.heap.size) (hf : Fine S) (hs : Small S) (hmd : 0 < S.made.length) :
 Calls Tryz.prog 147 #[.pointer (some ⟨d, 0, none⟩)] w (RunOut B w d b c (linkX S c r)) := by
 obtain ⟨bi, gm, capi, capm, ov, nv, ho⟩ := h.open_ hf.pos hmd
 obtain ⟨AM, hAM⟩ : ∃ AM, atX S c.path = AM := ⟨_, rfl⟩
 have hat := ho.atX_call hf c.path AM hAM
 unfold linkX
 rw [hAM]
 have d6 : w.cell? ⟨d, 6, none⟩ = some (.string c.path) := ho.hD.cell 6
 have d7 : w.cell? ⟨d, 7, none⟩ = some (.string c.path2) := ho.hD.cell 7
 have iD := ho.hD.lt
 have iW : Bel w w := inferInstance
 rcases AM with C | K1
 rotate_left
 · obtain ⟨x, hx⟩ := atX_ok hf hAM; simp only; rw [hx]; simp only; have hat1 : ∀ ww, Below w.heap.size w ww → Calls Tryz.prog 178 #[.pointer (some ⟨d, 0, none⟩), .string c.path] ww fun e w' => e = .returned (.pointer (some ⟨bi, K1 * 4, none⟩)) ∧ Below ww.heap.size ww w' := hat
   obtain ⟨ea1, ec1, hI1⟩ := ho.ino hs hx; obtain ⟨iBi, x0, x1, _⟩ := hI1; obtain ⟨PM, hPM⟩ : ∃ PM, parX S c.path2 = PM := ⟨_, rfl⟩
   have hpar := ho.parX_call hf c.path2 PM hPM; rw [hPM]; clear hat hAM; by_cases hdir : x.dir = true
   · rw [if_pos hdir]; rw [hdir] at x1; clear hpar hPM hx hf hs ho hdir
     go_enter Tryz.func147, Tryz.ntmps147
     go_wp2_with (first | (go_at_call 178; refine aE (hat1 _ (bel _ _)) fun p => ?_) | (go_at_call 172; refine aE (throw_yes _ _) fun p => ?_))
     exact ⟨rfl, (bel w _).mono hB, rfl⟩
   · rw [if_neg hdir]; have hdir : x.dir = false := by simpa using hdir
     rw [hdir] at x1; rcases PM with k | ⟨K, l⟩
     · simp only; have hpar1 : ∀ ww, Below w.heap.size w ww → Calls Tryz.prog 170 #[.pointer (some ⟨d, 0, none⟩), .string c.path2] ww fun e w' => e = thrown k ∧ Below ww.heap.size ww w' := hpar
       clear hpar hPM hx hf hs ho
       go_enter Tryz.func147, Tryz.ntmps147
       go_wp2_with (first | (go_at_call 178; refine aE (hat1 _ (bel _ _)) fun p => ?_) | (go_at_call 172; with_reducible refine aT (throw_no _ _) fun p => ?_) | (go_at_call 170; refine aE (hpar1 _ (bel _ _)) fun p => ?_))
       exact ⟨rfl, (bel w _).mono hB, rfl⟩
     · have hpar1 : ∀ ww, Below w.heap.size w ww → Calls Tryz.prog 170 #[.pointer (some ⟨d, 0, none⟩), .string c.path2] ww fun e w' => e = .returned (.tuple #[.pointer (some ⟨bi, K * 4, none⟩), .string l]) ∧ Below ww.heap.size ww w' := hpar
       obtain ⟨y, hy, _⟩ := parX_ok hPM; obtain ⟨ea, ec, hI⟩ := ho.ino hs hy; have hent := fun ww hb => hI.ent ww l hb
       have hful := fun ww hb => hI.ful ww l { data := #[] } hb
       have y2 := hI.y2; simp only; unfold linkM2; rw [hy]; simp only; generalize hhit : hitE y.ents l = hit at hent ⊢; generalize hfu : fullM y.ents l { data := #[] } = fu at hful ⊢; have hyl := hs.ents y (mG hy); have hput : ∀ ww, Below w.heap.size w ww → Calls Tryz.prog 175 #[.pointer (some ⟨bi, K * 4, none⟩), .string l, .int .i64 x.num] ww _ := fun ww hb => put118 B ww ov (.slice (some ⟨gm, 0, none⟩) S.made.length capm) S bi capi K y l x.num (ho.below hb).st hy (Nat.le_trans hB hb.size) hyl
       have HO := Lib.hid ho; clear hpar hPM hx hf hs ho hI hhit hfu hy; rcases hit with _ | _
       · simp only [Bool.false_eq_true, if_false]; rcases fu with _ | _
         · simp only [Bool.false_eq_true, if_false]
           go_enter Tryz.func147, Tryz.ntmps147
           go_wp2_with (first | (go_at_call 178; refine aE (hat1 _ (bel _ _)) fun p => ?_) | (go_at_call 172; with_reducible refine aT (throw_no _ _) fun p => ?_) | (go_at_call 170; refine aE (hpar1 _ (bel _ _)) fun p => ?_) | (go_at_call 171; refine aT (hent _ (bel _ _)) fun p => ?_) | (go_at_call 173; refine aT (hful _ (bel _ _)) fun p => ?_) | (go_at_call 175; refine (hput _ (bel _ _)).mono ?_; rintro e w3 ⟨rfl, hb3, hk3, hs3⟩; have o3 := Opened.put (HO.out.below (bel w _)) hk3 hs3; have HW3 := Lib.hid (And.intro o3 (((bel w _).mono hB).trans hb3)); clear hb3 hk3 hs3 o3))
           exact bodyPost_end (v := .tuple #[]) (by simp [results, go_sem]) rfl ⟨HW3.out.2, rfl, HW3.out.1.at_⟩
         · simp only [if_true]
           go_enter Tryz.func147, Tryz.ntmps147
           go_wp2_with (first | (go_at_call 178; refine aE (hat1 _ (bel _ _)) fun p => ?_) | (go_at_call 170; refine aE (hpar1 _ (bel _ _)) fun p => ?_) | (go_at_call 171; refine aT (hent _ (bel _ _)) fun p => ?_) | (go_at_call 173; refine aT (hful _ (bel _ _)) fun p => ?_) | (go_at_call 172; with_reducible refine aT (throw_no _ _) fun p => ?_) | (go_at_call 172; with_reducible refine aE (throw_yes _ _) fun p => ?_))
           exact ⟨rfl, (bel w _).mono hB, rfl⟩
       · simp only [if_true]
         go_enter Tryz.func147, Tryz.ntmps147
         go_wp2_with (first | (go_at_call 178; refine aE (hat1 _ (bel _ _)) fun p => ?_) | (go_at_call 170; refine aE (hpar1 _ (bel _ _)) fun p => ?_) | (go_at_call 171; refine aT (hent _ (bel _ _)) fun p => ?_) | (go_at_call 172; with_reducible refine aT (throw_no _ _) fun p => ?_) | (go_at_call 172; with_reducible refine aE (throw_yes _ _) fun p => ?_))
         exact ⟨rfl, (bel w _).mono hB, rfl⟩
 · simp only; have hat1 : ∀ ww, Below w.heap.size w ww → Calls Tryz.prog 178 #[.pointer (some ⟨d, 0, none⟩), .string c.path] ww fun e w' => e = thrown C ∧ Below ww.heap.size ww w' := hat
   clear hat hAM hf hs ho
   go_enter Tryz.func147, Tryz.ntmps147
   go_wp2_with (first | (go_at_call 178; refine aE (hat1 _ (bel _ _)) fun p => ?_))
   exact ⟨rfl, (bel w _).mono hB, rfl⟩
def createX (S : PSt) (c : PCall) (r : PRes) : Except Int (PSt × PRes) := if (parseM c.path).1 ≠ 0 then .error (codeM (parseM c.path).1) else createM S c r
theorem create71x (B d b : Nat) (S : PSt) (c : PCall) (r : PRes) (w : World) (h : DoAt B w d b S c r) (hB : B ≤ w.heap.size) (hf : Fine S) (hs : Small S) (h0 : 0 ≤ c.core) (hc : c.core < S.made.length) :
 Calls Tryz.prog 141 #[.pointer (some ⟨d, 0, none⟩)] w (RunOut B w d b c (createX S c r)) := by
 unfold createX
 by_cases hp : (parseM c.path).1 = 0
 · rw [if_neg (by simpa using hp)]; exact create71 B d b S c r w h hB hf hs hp (Nat.le_trans (parse_len hp) (by decide)) h0 hc
 · rw [if_pos hp]; have hpar1 : ∀ ww, Below w.heap.size w ww → Calls Tryz.prog 170 #[.pointer (some ⟨d, 0, none⟩), .string c.path] ww _ := fun ww hb => parent113x d b S c c.path ww (h.read.below hb (Nat.le_refl _)) hp
   obtain ⟨iv, ov, mv, nv, hBb, hBd, hD, hbk, hst, hnv⟩ := h; have d6 : w.cell? ⟨d, 6, none⟩ = some (.string c.path) := hD.cell 6; have iD := hD.lt; clear hD hbk hst hnv hf hs
   go_enter Tryz.func141, Tryz.ntmps141
   go_wp2_with (go_at_call 170; refine aE (hpar1 _ (bel _ _)) fun p => ?_)
   exact ⟨rfl, (bel w _).mono hB, rfl⟩
theorem yieldedX_of {a : Act} {j : Nat} {d : Tmp} {b : Bool} (h : a.eval (.tmp d) = .bool b) (o : Oper) (ops' : Array Oper) (ho : ops'[j]? = some o) (hd : o.dst = some d) : yielded ops' a.tmps j = some b := by
 unfold yielded
 rw [ho]
 simp only [Option.bind_some, hd]
 rw [evT] at h
 rcases e : a.tmps[d]? with _ | v
 · rw [e] at h; simp [undef] at h
 · rw [e] at h; simp only [Option.getD_some] at h; subst h; rfl
def vR5x (d b bi n capi f : Nat) (num : Int) (p2 : ByteArray) : Nat → Value
 | 0 => .pointer (some ⟨d, 0, none⟩)
 | 1 => .pointer (some ⟨d, 0, none⟩)
 | 2 => .pointer (some ⟨d, 0, none⟩)
 | 3 => .pointer (some ⟨b, 0, none⟩)
 | 4 => .pointer (some ⟨b, 0, none⟩)
 | 5 => .pointer (some ⟨b, 0, none⟩)
 | 6 => .slice (some ⟨bi, 0, none⟩) n capi
 | 7 => .pointer (some ⟨d, 0, none⟩)
 | 8 => .pointer (some ⟨d, 0, none⟩)
 | 9 => .pointer (some ⟨d, 0, none⟩)
 | 10 => .pointer (some ⟨b, 0, none⟩)
 | 11 => .int .i64 num
 | 12 => .int .i64 f
 | 13 => .pointer (some ⟨bi, f * 4, none⟩)
 | 14 => .pointer (some ⟨bi, f * 4 + 1, none⟩)
 | 15 => .bool true
 | 16 => .bool true
 | 17 => .pointer (some ⟨d, 0, none⟩)
 | 18 => .pointer (some ⟨d, 0, none⟩)
 | 19 => .pointer (some ⟨d, 0, none⟩)
 | 20 => .pointer (some ⟨d, 1, none⟩)
 | 21 => .pointer (some ⟨d, 7, none⟩)
 | 22 => .string p2
 | 23 => .int .i64 num
 | 24 => .bool true
 | 25 => .bool true
 | _ => undef
def renBad (S : PSt) (c : PCall) : Int := match parentM S (parseM c.path).2 with
 | .error k => k
 | .ok (K1, s) => match S.ins[K1]? with
   | none => 0
   | some x1 => if hitE x1.ents s = false then 1 else codeM (parseM c.path2).1
def renameX (S : PSt) (c : PCall) (r : PRes) : Except Int (PSt × PRes) := if (parseM c.path).1 ≠ 0 then .error (codeM (parseM c.path).1) else if (parseM c.path2).1 = 0 then renameM S c r else .error (renBad S c)
theorem rename79x (B d b : Nat) (S : PSt) (c : PCall) (r : PRes) (w : World) (h : DoAt B w d b S c r) (hB : B ≤ w.heap.size) (hf : Fine S) (hs : Small S) (hmd : 0 < S.made.length) :
 Calls Tryz.prog 149 #[.pointer (some ⟨d, 0, none⟩)] w (RunOut B w d b c (renameX S c r)) := by
 unfold renameX
 by_cases hp : (parseM c.path).1 = 0
 rotate_left
 · rw [if_pos hp]; have hpar1 : ∀ ww, Below w.heap.size w ww → Calls Tryz.prog 170 #[.pointer (some ⟨d, 0, none⟩), .string c.path] ww _ := fun ww hb => parent113x d b S c c.path ww (h.read.below hb (Nat.le_refl _)) hp
   obtain ⟨iv, ov, mv, nv, hBb, hBd, hD, hbk, hst, hnv⟩ := h; have d6 : w.cell? ⟨d, 6, none⟩ = some (.string c.path) := hD.cell 6; have iD := hD.lt; clear hD hbk hst hnv hf hs
   go_enter Tryz.func149, Tryz.ntmps149
   go_wp2_with (first | (go_at_call 170; with_reducible refine aE (hpar1 _ (bel _ _)) fun p => ?_))
   exact ⟨rfl, (bel w _).mono hB, rfl⟩
 rw [if_neg (by simpa using hp)]
 have hpl := Nat.le_trans (parse_len hp) (show 4 ≤ 1000000000 by decide)
 by_cases hno : (parseM c.path2).1 = 0 ∧ noThr S c = true
 · rw [if_pos hno.1]; exact rename79 B d b S c r w h hB hf hs hmd hp hpl hno.1 (Nat.le_trans (parse_len hno.1) (by decide)) hno.2
 obtain ⟨RR, hRR⟩ : ∃ RR, (if (parseM c.path2).1 = 0 then renameM S c r else .error (renBad S c)) = RR := ⟨_, rfl⟩
 rw [hRR]
 obtain ⟨bi, gm, capi, capm, ov, nv, ho⟩ := h.open_ hf.pos hmd
 have d6 : w.cell? ⟨d, 6, none⟩ = some (.string c.path) := ho.hD.cell 6
 have d7 : w.cell? ⟨d, 7, none⟩ = some (.string c.path2) := ho.hD.cell 7
 have iD := ho.hD.lt
 have iW : Bel w w := inferInstance
 obtain ⟨PM1, hPM1⟩ : ∃ PM, parentM S (parseM c.path).2 = PM := ⟨_, rfl⟩
 have hp1 := ho.parent_call hf c.path hp hpl PM1 hPM1
 have hcs : ∀ k, PM1 = .error k → RR = .error k := fun k hk => by
  rw [← hRR]; unfold renameM renBad; rw [hPM1, hk]; simp
 rcases PM1 with k | ⟨K1, s⟩
 · have hRk := hcs k rfl; subst hRk; have hpar1 : ∀ ww, Below w.heap.size w ww → Calls Tryz.prog 170 #[.pointer (some ⟨d, 0, none⟩), .string c.path] ww fun e w' => e = thrown k ∧ Below ww.heap.size ww w' := hp1
   clear hp1 hPM1 hf hs ho h hno hRR hcs
   go_enter Tryz.func149, Tryz.ntmps149
   go_wp2_with (first | (go_at_call 170; with_reducible refine aE (hpar1 _ (bel _ _)) fun p => ?_))
   exact ⟨rfl, (bel w _).mono hB, rfl⟩
 clear hcs
 have hpar1 : ∀ ww, Below w.heap.size w ww → Calls Tryz.prog 170 #[.pointer (some ⟨d, 0, none⟩), .string c.path] ww fun e w' => e = .returned (.tuple #[.pointer (some ⟨bi, K1 * 4, none⟩), .string s]) ∧ Below ww.heap.size ww w' := hp1
 obtain ⟨x1, hx1, _⟩ := parent_ok hPM1
 obtain ⟨ea1, ec1, hI1⟩ := ho.ino hs hx1
 have hent1 := fun ww hb => hI1.ent ww s hb
 have a2 := hI1.y2
 have iBi := hI1.iB
 by_cases hhit : hitE x1.ents s = false
 · have hRk : RR = .error 1 := by
    rw [← hRR]; unfold renameM renBad renFrom; rw [hPM1]; simp [hx1, hhit]
   subst hRk; rw [hhit] at hent1; clear hp1 hPM1 hf hs ho h hno hRR hI1 hx1
   go_enter Tryz.func149, Tryz.ntmps149
   go_wp2_with (first | (go_at_call 170; with_reducible refine aE (hpar1 _ (bel _ _)) fun p => ?_) | (go_at_call 171; with_reducible refine aT (hent1 _ (bel _ _)) fun p => ?_) | (go_at_call 172; with_reducible refine aE (throw_yes _ _) fun p => ?_))
   exact ⟨rfl, (bel w _).mono hB, rfl⟩
 have hhit : hitE x1.ents s = true := by simpa using hhit
 have hqt := hitE_lt hhit
 rw [hhit] at hent1
 obtain ⟨e1, he1⟩ : ∃ e, x1.ents[bsE x1.ents s]? = some e := ⟨_, gE hqt⟩
 obtain ⟨q, hq⟩ : ∃ q, bsE x1.ents s = q := ⟨_, rfl⟩
 simp only [hq] at hent1 hqt
 have hqI : (q : Int) < x1.ents.length := by omega
 obtain ⟨a', c', he', hat'⟩ := hI1.row.at_
 simp only [lM, Value.slice.injEq] at he'
 obtain ⟨rfl, -, rfl⟩ := he'
 obtain ⟨be, oe, rfl, iE0, -, hce⟩ := hat' w (Below.refl _ _) q e1.cells (by rw [gM, ← hq, he1]; rfl)
 have n1 := hce 1 _ rfl
 obtain ⟨PM2, hPM2⟩ : ∃ PM, parX S c.path2 = PM := ⟨_, rfl⟩
 have hp2' := ho.parX_call hf c.path2 PM2 hPM2
 rcases PM2 with k | ⟨K2, t⟩
 · have hRk : RR = .error k := by
    rw [← hRR]; unfold parX at hPM2; by_cases h2 : (parseM c.path2).1 = 0
    · rw [if_pos h2]; rw [if_neg (by simpa using h2)] at hPM2; unfold renameM renFrom; rw [hPM1]; simp [hx1, hhit, he1, hPM2]
    · rw [if_neg h2]; rw [if_pos h2] at hPM2; cases hPM2; unfold renBad; rw [hPM1]; simp [hx1, hhit]
   subst hRk; have hpar2 : ∀ ww, Below w.heap.size w ww → Calls Tryz.prog 170 #[.pointer (some ⟨d, 0, none⟩), .string c.path2] ww fun e w' => e = thrown k ∧ Below ww.heap.size ww w' := hp2'
   clear hp1 hp2' hPM1 hPM2 hf hs ho h hno hRR hI1 hx1 hat' hce he1 hhit hq
   go_enter Tryz.func149, Tryz.ntmps149
   go_wp2_with (first | (go_at_call 170; with_reducible refine aE (hpar1 _ (bel _ _)) fun p => ?_) | (go_at_call 171; with_reducible refine aT (hent1 _ (bel _ _)) fun p => ?_) | (go_at_call 172; with_reducible refine aT (throw_no _ _) fun p => ?_) | (go_at_call 170; with_reducible refine aE (hpar2 _ (bel _ _)) fun p => ?_))
   exact ⟨rfl, (bel w _).mono hB, rfl⟩
 have hpar2 : ∀ ww, Below w.heap.size w ww → Calls Tryz.prog 170 #[.pointer (some ⟨d, 0, none⟩), .string c.path2] ww fun e w' => e = .returned (.tuple #[.pointer (some ⟨bi, K2 * 4, none⟩), .string t]) ∧ Below ww.heap.size ww w' := hp2'
 obtain ⟨hp2, hPM2'⟩ : (parseM c.path2).1 = 0 ∧ parentM S (parseM c.path2).2 = .ok (K2, t) := by
  unfold parX at hPM2; by_cases h2 : (parseM c.path2).1 = 0
  · rw [if_neg (by simpa using h2)] at hPM2; exact ⟨h2, hPM2⟩
  · rw [if_pos h2] at hPM2; cases hPM2
 have hth : (dirB S e1.num && thruM S (parseM c.path2).2 e1.num) = true := by
  have h0 : ¬ noThr S c = true := fun h => hno ⟨hp2, h⟩
  unfold noThr at h0; rw [hPM1] at h0; simp only [hx1, he1] at h0; generalize dirB S e1.num = x at h0 ⊢; generalize thruM S (parseM c.path2).2 e1.num = y at h0 ⊢; revert h0; rcases x with _ | _ <;> rcases y with _ | _ <;> simp
 have hRk : RR = .error 9 := by
  rw [← hRR, if_pos hp2]; unfold renameM renFrom; rw [hPM1]; simp only [hx1, hhit, he1, hPM2', hth]; simp
 subst hRk
 simp only [Bool.and_eq_true] at hth
 have hfb := findN_bounds S.nums e1.num
 have hf0 := hf.find x1 (mG hx1) e1 (mG he1)
 have hnl : S.nums.length = S.ins.length := by unfold PSt.nums; rw [lM]
 obtain ⟨f, hfv⟩ : ∃ f : Nat, findN S.nums e1.num = f := ⟨(findN S.nums e1.num).toNat, by omega⟩
 have hfl : f < S.ins.length := by omega
 have hflI : (f : Int) < S.ins.length := by omega
 obtain ⟨xf, hxf⟩ : ∃ xf, S.ins[f]? = some xf := ⟨_, gE hfl⟩
 obtain ⟨eaf, ecf, hIf⟩ := ho.ino hs hxf
 have f1 := hIf.y1
 have hdb : xf.dir = true := by
  have := hth.1; unfold dirB at this; rw [hfv, Int.toNat_natCast, hxf] at this; exact this
 rw [hdb] at f1
 have hDR := ho.at_.read
 have hsp := hDR.sp
 have HF : ∀ ww, Below w.heap.size w ww → Calls Tryz.prog 102 #[.pointer (some ⟨b, 0, none⟩), .int .i64 e1.num] ww fun e w' => e = .returned (.int .i64 f) ∧ Below ww.heap.size ww w' := fun ww hb => by have := find_sp b S e1.num ww (hsp.below hb (Nat.le_refl _)) hf.wf; rw [hfv] at this; exact this
 have HT : ∀ ww, Below w.heap.size w ww → Calls Tryz.prog 188 #[.pointer (some ⟨d, 0, none⟩), .string c.path2, .int .i64 e1.num] ww fun e w' => e = .returned (.bool true) ∧ Below ww.heap.size ww w' := fun ww hb => by have := through131 d b S c c.path2 e1.num ww (hDR.below hb (Nat.le_refl _)) hf hp2 (Nat.le_trans (parse_len hp2) (by decide)); rw [hth.2] at this; exact this
 have d0 : w.cell? ⟨d, 0, none⟩ = some (.pointer (some ⟨b, 0, none⟩)) := ho.hD.cell 0
 have b0 : w.cell? ⟨b, 0, none⟩ = some (.slice (some ⟨bi, 0, none⟩) S.ins.length capi) := ho.hb.cell 0
 have iBk := ho.hb.lt
 have HH := Lib.hid (And.intro d0 (And.intro b0 (And.intro f1 (And.intro d7 (And.intro HF HT)))))
 clear hp1 hp2' hPM1 hPM2 hPM2' hf hs ho h hno hRR hI1 hx1 hat' hce he1 hhit hq hIf hxf hfv hfb hf0 hth hDR hsp HF HT d0 b0 f1
 generalize e1.num = num at n1 HH
 go_enter Tryz.func149, Tryz.ntmps149
 go_upto_region 5 with (first | (go_at_call 170; with_reducible refine aE (hpar1 _ (bel _ _)) fun p => ?_) | (go_at_call 171; with_reducible refine aT (hent1 _ (bel _ _)) fun p => ?_) | (go_at_call 172; with_reducible refine aT (throw_no _ _) fun p => ?_) | (go_at_call 170; with_reducible refine aE (hpar2 _ (bel _ _)) fun p => ?_))
 refine abs_world (F := fun wz => Below w.heap.size w wz) (bel _ _) ?_
 intro wz hbz
 have z0 := (hbz.cell (p := ⟨d, 0, none⟩) iD.lt).trans HH.out.1
 have zb := (hbz.cell (p := ⟨b, 0, none⟩) iBk.lt).trans HH.out.2.1
 have zf := (hbz.cell (p := ⟨bi, f * 4 + 1, none⟩) iBi.lt).trans HH.out.2.2.1
 have z7 := (hbz.cell (p := ⟨d, 7, none⟩) iD.lt).trans HH.out.2.2.2.1
 have hfnd : ∀ ww, Below wz.heap.size wz ww → _ := fun ww hb => HH.out.2.2.2.2.1 ww (hbz.trans (hb.mono hbz.size))
 have hthr : ∀ ww, Below wz.heap.size wz ww → _ := fun ww hb => HH.out.2.2.2.2.2 ww (hbz.trans (hb.mono hbz.size))
 have hBz : Below B w wz := hbz.mono hB
 have jD := Nat.lt_of_lt_of_le iD.lt hbz.size
 have jB := Nat.lt_of_lt_of_le iBk.lt hbz.size
 have jI := Nat.lt_of_lt_of_le iBi.lt hbz.size
 refine wp_region_invW (RV 26 (vR5x d b bi S.ins.length capi f num c.path2) wz) (by kernel_rfl) (by kernel_rfl) (by kernel_rfl) ?_ ?_ ?_
 · intro σ; exact RV.zero (by decide) (bel wz _)
 · refine ⟨?_, ?_, ?_, ?_, ?_, ?_, ?_, ?_, ?_, ?_, ?_, ?_, ?_, ?_, ?_, ?_, ?_, ?_, ?_, ?_, ?_, ?_, ?_, ?_, ?_, ?_, ?_, trivial⟩
   · intro D σ w1 a hnd hw hR hin hout hdf; refine ⟨fun _ => ?_, fun h => absurd h (by simp [Region.wanted])⟩; have e0 : (a.tmps[0]?).getD undef = .pointer (some ⟨d, 0, none⟩) := (evT a 0).symm.trans ((hout 0 (by kernel_rfl)).trans (by kernel_rfl)); refine Oper.wpW (eff_v (v := .pointer (some ⟨d, 0, none⟩)) ?_ (hR.val 0 (by decide))); clear hin hout hw; go_simp
     first | done | rfl
   · intro D σ w1 a hnd hw hR hin hout hdf; refine ⟨fun _ => ?_, fun h => absurd h (by simp [Region.wanted])⟩; have e50 : (a.tmps[50]?).getD undef = .pointer (some ⟨d, 0, none⟩) := (evT a 50).symm.trans ((hin 0 _ 50 rfl rfl).trans (hR.vals 0 (by decide) (hw 0 (by kernel_rfl)))); refine Oper.wpW (eff_v (v := .pointer (some ⟨d, 0, none⟩)) ?_ (hR.val 1 (by decide))); clear hin hout hw; go_simp
     first | done | rfl
   · intro D σ w1 a hnd hw hR hin hout hdf; refine ⟨fun _ => ?_, fun h => absurd h (by simp [Region.wanted])⟩; have e51 : (a.tmps[51]?).getD undef = .pointer (some ⟨d, 0, none⟩) := (evT a 51).symm.trans ((hin 1 _ 51 rfl rfl).trans (hR.vals 1 (by decide) (hw 1 (by kernel_rfl)))); refine Oper.wpW (eff_v (v := .pointer (some ⟨d, 0, none⟩)) ?_ (hR.val 2 (by decide))); clear hin hout hw; go_simp
     first | done | rfl
   · intro D σ w1 a hnd hw hR hin hout hdf; refine ⟨fun _ => ?_, fun h => absurd h (by simp [Region.wanted])⟩; have e52 : (a.tmps[52]?).getD undef = .pointer (some ⟨d, 0, none⟩) := (evT a 52).symm.trans ((hin 2 _ 52 rfl rfl).trans (hR.vals 2 (by decide) (hw 2 (by kernel_rfl)))); have hl := (hR.below.cell (by exact jD)).trans z0; have iX : BlockLt d w1 := ⟨Nat.lt_of_lt_of_le jD hR.below.size⟩
     refine Oper.wpW (eff_v (v := .pointer (some ⟨b, 0, none⟩)) ?_ (hR.val 3 (by decide))); clear hin hout hw; go_simp
     first | done | rfl
   · intro D σ w1 a hnd hw hR hin hout hdf; refine ⟨fun _ => ?_, fun h => absurd h (by simp [Region.wanted])⟩; have e53 : (a.tmps[53]?).getD undef = .pointer (some ⟨b, 0, none⟩) := (evT a 53).symm.trans ((hin 3 _ 53 rfl rfl).trans (hR.vals 3 (by decide) (hw 3 (by kernel_rfl)))); refine Oper.wpW (eff_v (v := .pointer (some ⟨b, 0, none⟩)) ?_ (hR.val 4 (by decide))); clear hin hout hw; go_simp
     first | done | rfl
   · intro D σ w1 a hnd hw hR hin hout hdf; refine ⟨fun _ => ?_, fun h => absurd h (by simp [Region.wanted])⟩; have e54 : (a.tmps[54]?).getD undef = .pointer (some ⟨b, 0, none⟩) := (evT a 54).symm.trans ((hin 4 _ 54 rfl rfl).trans (hR.vals 4 (by decide) (hw 4 (by kernel_rfl)))); refine Oper.wpW (eff_v (v := .pointer (some ⟨b, 0, none⟩)) ?_ (hR.val 5 (by decide))); clear hin hout hw; go_simp
     first | done | rfl
   · intro D σ w1 a hnd hw hR hin hout hdf; refine ⟨fun _ => ?_, fun h => absurd h (by simp [Region.wanted])⟩; have e55 : (a.tmps[55]?).getD undef = .pointer (some ⟨b, 0, none⟩) := (evT a 55).symm.trans ((hin 5 _ 55 rfl rfl).trans (hR.vals 5 (by decide) (hw 5 (by kernel_rfl)))); have hl := (hR.below.cell (by exact jB)).trans zb; have iX : BlockLt b w1 := ⟨Nat.lt_of_lt_of_le jB hR.below.size⟩
     refine Oper.wpW (eff_v (v := .slice (some ⟨bi, 0, none⟩) S.ins.length capi) ?_ (hR.val 6 (by decide))); clear hin hout hw; go_simp
     first | done | rfl
   · intro D σ w1 a hnd hw hR hin hout hdf; refine ⟨fun _ => ?_, fun h => absurd h (by simp [Region.wanted])⟩; have e0 : (a.tmps[0]?).getD undef = .pointer (some ⟨d, 0, none⟩) := (evT a 0).symm.trans ((hout 0 (by kernel_rfl)).trans (by kernel_rfl)); refine Oper.wpW (eff_v (v := .pointer (some ⟨d, 0, none⟩)) ?_ (hR.val 7 (by decide))); clear hin hout hw; go_simp
     first | done | rfl
   · intro D σ w1 a hnd hw hR hin hout hdf; refine ⟨fun _ => ?_, fun h => absurd h (by simp [Region.wanted])⟩; have e57 : (a.tmps[57]?).getD undef = .pointer (some ⟨d, 0, none⟩) := (evT a 57).symm.trans ((hin 7 _ 57 rfl rfl).trans (hR.vals 7 (by decide) (hw 7 (by kernel_rfl)))); refine Oper.wpW (eff_v (v := .pointer (some ⟨d, 0, none⟩)) ?_ (hR.val 8 (by decide))); clear hin hout hw; go_simp
     first | done | rfl
   · intro D σ w1 a hnd hw hR hin hout hdf; refine ⟨fun _ => ?_, fun h => absurd h (by simp [Region.wanted])⟩; have e58 : (a.tmps[58]?).getD undef = .pointer (some ⟨d, 0, none⟩) := (evT a 58).symm.trans ((hin 8 _ 58 rfl rfl).trans (hR.vals 8 (by decide) (hw 8 (by kernel_rfl)))); refine Oper.wpW (eff_v (v := .pointer (some ⟨d, 0, none⟩)) ?_ (hR.val 9 (by decide))); clear hin hout hw; go_simp
     first | done | rfl
   · intro D σ w1 a hnd hw hR hin hout hdf; refine ⟨fun _ => ?_, fun h => absurd h (by simp [Region.wanted])⟩; have e59 : (a.tmps[59]?).getD undef = .pointer (some ⟨d, 0, none⟩) := (evT a 59).symm.trans ((hin 9 _ 59 rfl rfl).trans (hR.vals 9 (by decide) (hw 9 (by kernel_rfl)))); have hl := (hR.below.cell (by exact jD)).trans z0; have iX : BlockLt d w1 := ⟨Nat.lt_of_lt_of_le jD hR.below.size⟩
     refine Oper.wpW (eff_v (v := .pointer (some ⟨b, 0, none⟩)) ?_ (hR.val 10 (by decide))); clear hin hout hw; go_simp
     first | done | rfl
   · intro D σ w1 a hnd hw hR hin hout hdf; refine ⟨fun _ => ?_, fun h => absurd h (by simp [Region.wanted])⟩; have e6 : (a.tmps[6]?).getD undef = .int .i64 num := (evT a 6).symm.trans ((hout 6 (by kernel_rfl)).trans (by kernel_rfl)); refine Oper.wpW (eff_v (v := .int .i64 num) ?_ (hR.val 11 (by decide))); clear hin hout hw; go_simp
     first | done | rfl
   · intro D σ w1 a hnd hw hR hin hout hdf; refine ⟨fun _ => ?_, fun h => absurd h (by simp [Region.wanted])⟩; have e60 : (a.tmps[60]?).getD undef = .pointer (some ⟨b, 0, none⟩) := (evT a 60).symm.trans ((hin 10 _ 60 rfl rfl).trans (hR.vals 10 (by decide) (hw 10 (by kernel_rfl)))); have e61 : (a.tmps[61]?).getD undef = .int .i64 num := (evT a 61).symm.trans ((hin 11 _ 61 rfl rfl).trans (hR.vals 11 (by decide) (hw 11 (by kernel_rfl)))); refine Oper.wpW (eff_call 102 #[.pointer (some ⟨b, 0, none⟩), .int .i64 num] ?_ ((hfnd w1 hR.below).mono ?_))
     · clear hin hout hw; go_simp
       first | done | rfl
     · rintro e w' ⟨rfl, hqb⟩; exact ⟨_, rfl, ((hR.on hqb).val 12 (by decide))⟩
   · intro D σ w1 a hnd hw hR hin hout hdf; refine ⟨fun _ => ?_, fun h => absurd h (by simp [Region.wanted])⟩; have e56 : (a.tmps[56]?).getD undef = .slice (some ⟨bi, 0, none⟩) S.ins.length capi := (evT a 56).symm.trans ((hin 6 _ 56 rfl rfl).trans (hR.vals 6 (by decide) (hw 6 (by kernel_rfl)))); have e62 : (a.tmps[62]?).getD undef = .int .i64 f := (evT a 62).symm.trans ((hin 12 _ 62 rfl rfl).trans (hR.vals 12 (by decide) (hw 12 (by kernel_rfl)))); refine Oper.wpW (eff_v (v := .pointer (some ⟨bi, f * 4, none⟩)) ?_ (hR.val 13 (by decide))); clear hin hout hw; go_simp
     first | done | rfl
   · intro D σ w1 a hnd hw hR hin hout hdf; refine ⟨fun _ => ?_, fun h => absurd h (by simp [Region.wanted])⟩; have e63 : (a.tmps[63]?).getD undef = .pointer (some ⟨bi, f * 4, none⟩) := (evT a 63).symm.trans ((hin 13 _ 63 rfl rfl).trans (hR.vals 13 (by decide) (hw 13 (by kernel_rfl)))); refine Oper.wpW (eff_v (v := .pointer (some ⟨bi, f * 4 + 1, none⟩)) ?_ (hR.val 14 (by decide))); clear hin hout hw; go_simp
     first | done | rfl
   · intro D σ w1 a hnd hw hR hin hout hdf; refine ⟨fun _ => ?_, fun h => absurd h (by simp [Region.wanted])⟩; have e64 : (a.tmps[64]?).getD undef = .pointer (some ⟨bi, f * 4 + 1, none⟩) := (evT a 64).symm.trans ((hin 14 _ 64 rfl rfl).trans (hR.vals 14 (by decide) (hw 14 (by kernel_rfl)))); have hl := (hR.below.cell (by exact jI)).trans zf; have iX : BlockLt bi w1 := ⟨Nat.lt_of_lt_of_le jI hR.below.size⟩
     refine Oper.wpW (eff_v (v := .bool true) ?_ (hR.val 15 (by decide))); clear hin hout hw; go_simp
     first | done | rfl
   · intro D σ w1 a hnd hw hR hin hout hdf; refine ⟨fun _ => ?_, fun h => absurd h (by simp [Region.wanted])⟩; have e65 : (a.tmps[65]?).getD undef = .bool true := (evT a 65).symm.trans ((hin 15 _ 65 rfl rfl).trans (hR.vals 15 (by decide) (hw 15 (by kernel_rfl)))); refine Oper.wpW (eff_v (v := .bool true) ?_ (hR.val 16 (by decide))); clear hin hout hw; go_simp
     first | done | rfl
   · intro D σ w1 a hnd hw hR hin hout hdf; have eg : a.eval (.tmp 66) = .bool true := (hin 16 _ 66 rfl rfl).trans (hR.vals 16 (by decide) (hw 16 (by kernel_rfl))); have ey := yieldedX_of (j := 16) (d := 66) eg; refine ⟨fun _ => ?_, fun e => by simp only [Region.wanted] at e; rw [ey _ _ rfl rfl] at e; cases e⟩; have e0 : (a.tmps[0]?).getD undef = .pointer (some ⟨d, 0, none⟩) := (evT a 0).symm.trans ((hout 0 (by kernel_rfl)).trans (by kernel_rfl)); refine Oper.wpW (eff_v (v := .pointer (some ⟨d, 0, none⟩)) ?_ (hR.val 17 (by decide))); clear hin hout hw; go_simp
     first | done | rfl
   · intro D σ w1 a hnd hw hR hin hout hdf; have eg : a.eval (.tmp 66) = .bool true := (hin 16 _ 66 rfl rfl).trans (hR.vals 16 (by decide) (hw 16 (by kernel_rfl))); have ey := yieldedX_of (j := 16) (d := 66) eg; refine ⟨fun _ => ?_, fun e => by simp only [Region.wanted] at e; rw [ey _ _ rfl rfl] at e; cases e⟩; have e0 : (a.tmps[0]?).getD undef = .pointer (some ⟨d, 0, none⟩) := (evT a 0).symm.trans ((hout 0 (by kernel_rfl)).trans (by kernel_rfl)); refine Oper.wpW (eff_v (v := .pointer (some ⟨d, 0, none⟩)) ?_ (hR.val 18 (by decide))); clear hin hout hw; go_simp
     first | done | rfl
   · intro D σ w1 a hnd hw hR hin hout hdf; have eg : a.eval (.tmp 66) = .bool true := (hin 16 _ 66 rfl rfl).trans (hR.vals 16 (by decide) (hw 16 (by kernel_rfl))); have ey := yieldedX_of (j := 16) (d := 66) eg; refine ⟨fun _ => ?_, fun e => by simp only [Region.wanted] at e; rw [ey _ _ rfl rfl] at e; cases e⟩; have e68 : (a.tmps[68]?).getD undef = .pointer (some ⟨d, 0, none⟩) := (evT a 68).symm.trans ((hin 18 _ 68 rfl rfl).trans (hR.vals 18 (by decide) (hw 18 (by kernel_rfl)))); refine Oper.wpW (eff_v (v := .pointer (some ⟨d, 0, none⟩)) ?_ (hR.val 19 (by decide))); clear hin hout hw; go_simp
     first | done | rfl
   · intro D σ w1 a hnd hw hR hin hout hdf; have eg : a.eval (.tmp 66) = .bool true := (hin 16 _ 66 rfl rfl).trans (hR.vals 16 (by decide) (hw 16 (by kernel_rfl))); have ey := yieldedX_of (j := 16) (d := 66) eg; refine ⟨fun _ => ?_, fun e => by simp only [Region.wanted] at e; rw [ey _ _ rfl rfl] at e; cases e⟩; have e69 : (a.tmps[69]?).getD undef = .pointer (some ⟨d, 0, none⟩) := (evT a 69).symm.trans ((hin 19 _ 69 rfl rfl).trans (hR.vals 19 (by decide) (hw 19 (by kernel_rfl)))); refine Oper.wpW (eff_v (v := .pointer (some ⟨d, 1, none⟩)) ?_ (hR.val 20 (by decide))); clear hin hout hw; go_simp
     first | done | rfl
   · intro D σ w1 a hnd hw hR hin hout hdf; have eg : a.eval (.tmp 66) = .bool true := (hin 16 _ 66 rfl rfl).trans (hR.vals 16 (by decide) (hw 16 (by kernel_rfl))); have ey := yieldedX_of (j := 16) (d := 66) eg; refine ⟨fun _ => ?_, fun e => by simp only [Region.wanted] at e; rw [ey _ _ rfl rfl] at e; cases e⟩; have e70 : (a.tmps[70]?).getD undef = .pointer (some ⟨d, 1, none⟩) := (evT a 70).symm.trans ((hin 20 _ 70 rfl rfl).trans (hR.vals 20 (by decide) (hw 20 (by kernel_rfl)))); refine Oper.wpW (eff_v (v := .pointer (some ⟨d, 7, none⟩)) ?_ (hR.val 21 (by decide))); clear hin hout hw; go_simp
     first | done | rfl
   · intro D σ w1 a hnd hw hR hin hout hdf; have eg : a.eval (.tmp 66) = .bool true := (hin 16 _ 66 rfl rfl).trans (hR.vals 16 (by decide) (hw 16 (by kernel_rfl))); have ey := yieldedX_of (j := 16) (d := 66) eg; refine ⟨fun _ => ?_, fun e => by simp only [Region.wanted] at e; rw [ey _ _ rfl rfl] at e; cases e⟩; have e71 : (a.tmps[71]?).getD undef = .pointer (some ⟨d, 7, none⟩) := (evT a 71).symm.trans ((hin 21 _ 71 rfl rfl).trans (hR.vals 21 (by decide) (hw 21 (by kernel_rfl)))); have hl := (hR.below.cell (by exact jD)).trans z7; have iX : BlockLt d w1 := ⟨Nat.lt_of_lt_of_le jD hR.below.size⟩
     refine Oper.wpW (eff_v (v := .string c.path2) ?_ (hR.val 22 (by decide))); clear hin hout hw; go_simp
     first | done | rfl
   · intro D σ w1 a hnd hw hR hin hout hdf; have eg : a.eval (.tmp 66) = .bool true := (hin 16 _ 66 rfl rfl).trans (hR.vals 16 (by decide) (hw 16 (by kernel_rfl))); have ey := yieldedX_of (j := 16) (d := 66) eg; refine ⟨fun _ => ?_, fun e => by simp only [Region.wanted] at e; rw [ey _ _ rfl rfl] at e; cases e⟩; have e6 : (a.tmps[6]?).getD undef = .int .i64 num := (evT a 6).symm.trans ((hout 6 (by kernel_rfl)).trans (by kernel_rfl)); refine Oper.wpW (eff_v (v := .int .i64 num) ?_ (hR.val 23 (by decide))); clear hin hout hw; go_simp
     first | done | rfl
   · intro D σ w1 a hnd hw hR hin hout hdf; have eg : a.eval (.tmp 66) = .bool true := (hin 16 _ 66 rfl rfl).trans (hR.vals 16 (by decide) (hw 16 (by kernel_rfl))); have ey := yieldedX_of (j := 16) (d := 66) eg; refine ⟨fun _ => ?_, fun e => by simp only [Region.wanted] at e; rw [ey _ _ rfl rfl] at e; cases e⟩; have e67 : (a.tmps[67]?).getD undef = .pointer (some ⟨d, 0, none⟩) := (evT a 67).symm.trans ((hin 17 _ 67 rfl rfl).trans (hR.vals 17 (by decide) (hw 17 (by kernel_rfl)))); have e72 : (a.tmps[72]?).getD undef = .string c.path2 := (evT a 72).symm.trans ((hin 22 _ 72 rfl rfl).trans (hR.vals 22 (by decide) (hw 22 (by kernel_rfl)))); have e73 : (a.tmps[73]?).getD undef = .int .i64 num := (evT a 73).symm.trans ((hin 23 _ 73 rfl rfl).trans (hR.vals 23 (by decide) (hw 23 (by kernel_rfl)))); refine Oper.wpW (eff_call 188 #[.pointer (some ⟨d, 0, none⟩), .string c.path2, .int .i64 num] ?_ ((hthr w1 hR.below).mono ?_))
     · clear hin hout hw; go_simp
       first | done | rfl
     · rintro e w' ⟨rfl, hqb⟩; exact ⟨_, rfl, ((hR.on hqb).val 24 (by decide))⟩
   · intro D σ w1 a hnd hw hR hin hout hdf; refine ⟨fun _ => ?_, fun h => absurd h (by simp [Region.wanted])⟩; have e66 : (a.tmps[66]?).getD undef = .bool true := (evT a 66).symm.trans ((hin 16 _ 66 rfl rfl).trans (hR.vals 16 (by decide) (hw 16 (by kernel_rfl)))); have e74 : (a.tmps[74]?).getD undef = .bool true := (evT a 74).symm.trans ((hin 24 _ 74 rfl rfl).trans (hR.vals 24 (by decide) (hw 24 (by kernel_rfl)))); refine Oper.wpW (eff_v (v := .bool true) ?_ (hR.val 25 (by decide))); clear hin hout hw; go_simp
     first | done | rfl
   · intro D σ w1 a hnd hw hR hin hout hdf; refine ⟨fun _ => ?_, fun h => absurd h (by simp [Region.wanted])⟩; have e75 : (a.tmps[75]?).getD undef = .bool true := (evT a 75).symm.trans ((hin 25 _ 75 rfl rfl).trans (hR.vals 25 (by decide) (hw 25 (by kernel_rfl)))); intro nx _; refine Oper.wpX 172 #[.bool true, .int .i64 9] ?_ ((throw_yes 9 w1).mono fun e w' ⟨he, hb2⟩ => ⟨_, he, hdf, hBz.trans ((hR.below.trans (hb2.mono hR.below.size)).mono (Nat.le_trans hB hbz.size)), rfl⟩); clear hin hout hw; go_simp
     first | done | rfl
 · intro σ w1 hR; exact absurd trivial hR.no
end Go.Proofs.YtmkapobnfigedaaGreatDoor
