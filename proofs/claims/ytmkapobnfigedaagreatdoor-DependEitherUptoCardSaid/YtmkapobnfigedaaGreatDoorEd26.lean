/- A doer's remove: Unlink and Rmdir, whatever they come to. Conditions: none. -/
import Derived.Test.YtmkapobnfigedaaGreatDoorEd24
import Derived.Test.YtmkapobnfigedaaGreatDoorEd13
import Derived.Test.YtmkapobnfigedaaGreatDoorEd25
set_option linter.unusedVariables false
set_option linter.unusedSimpArgs false
namespace Go.Proofs.YtmkapobnfigedaaGreatDoor
open Go.RowKit
/-- Where a path leads, or a code. -/
def atX (S : PSt) (s : ByteArray) : Except Int Nat := if (parseM s).1 ≠ 0 then .error (codeM (parseM s).1) else if (walkM S 0 (parseM s).2).2 ≠ 0 then .error (walkM S 0 (parseM s).2).2 else .ok (walkM S 0 (parseM s).2).1
/-- A path's parent and last name, or a code. -/
def parX (S : PSt) (s : ByteArray) : Except Int (Nat × ByteArray) := if (parseM s).1 ≠ 0 then .error (codeM (parseM s).1) else parentM S (parseM s).2
theorem parX_ok {S : PSt} {s : ByteArray} {K : Nat} {l : ByteArray} (h : parX S s = .ok (K, l)) : ∃ x, S.ins[K]? = some x ∧ x.dir = true := by
  unfold parX at h
  split at h
  · cases h
  · exact parent_ok h
theorem atX_ok {S : PSt} (hf : Fine S) {s : ByteArray} {K : Nat} (h : atX S s = .ok K) : ∃ x, S.ins[K]? = some x := by
  unfold atX at h
  split at h
  · cases h
  · split at h
    · cases h
    · cases h
      exact ⟨_, List.getElem?_eq_getElem (walkM_lt hf (parseM s).2 0 hf.pos)⟩
set_option maxRecDepth 100000 in
set_option maxHeartbeats 2000000 in
theorem parent113x (d b : Nat) (S : PSt) (c : PCall) (s : ByteArray) (w : World) (h : DR w d b S c) (hp : (parseM s).1 ≠ 0) :
    Calls Tryz.prog 170 #[.pointer (some ⟨d, 0, none⟩), .string s] w fun e w' => e = thrown (codeM (parseM s).1) ∧ Below w.heap.size w w' := by
  have hpar : ∀ ww, Calls Tryz.prog 198 #[.string s] ww fun e w' => e = thrown (codeM (parseM s).1) ∧ Below ww.heap.size ww w' := fun ww => by
    refine (parse150 s ww).mono ?_
    intro e w' h
    rcases h with ⟨h, _⟩ | ⟨_, h1, h2⟩
    · exact absurd h hp
    · exact ⟨h1, h2⟩
  clear h hp
  go_enter Tryz.func170, Tryz.ntmps170
  go_wp2_with (go_at_call 198; refine (hpar _).mono ?_; rintro e w' ⟨rfl, hb⟩; obtain ⟨p, rfl⟩ := hb.rest; clear hb)
  exact ⟨rfl, rfl, bel w _⟩
theorem Opened.parX_call {B : Nat} {w : World} {d b bi gm capi capm : Nat} {ov nv : Value} {S : PSt} {c : PCall} {r : PRes} (o : Opened B w d b bi gm capi capm ov nv S c r) (hf : Fine S) (s : ByteArray) (R : Except Int (Nat × ByteArray)) (hR : parX S s = R) :
    ∀ ww, Below w.heap.size w ww → Calls Tryz.prog 170 #[.pointer (some ⟨d, 0, none⟩), .string s] ww fun e w' => (match R with | .ok (K, l) => e = .returned (.tuple #[.pointer (some ⟨bi, K * 4, none⟩), .string l]) | .error k => e = thrown k) ∧ Below ww.heap.size ww w' := by
  intro ww hb
  unfold parX at hR
  by_cases hp : (parseM s).1 = 0
  · rw [if_neg (by simpa using hp)] at hR
    have := o.parent_call hf s hp (Nat.le_trans (parse_len hp) (by decide)) R hR ww hb
    rcases R with k | ⟨K, l⟩ <;> exact this
  · rw [if_pos hp] at hR
    subst hR
    exact parent113x d b S c s ww (o.at_.read.below hb (Nat.le_refl _)) hp
theorem Opened.atX_call {B : Nat} {w : World} {d b bi gm capi capm : Nat} {ov nv : Value} {S : PSt} {c : PCall} {r : PRes} (o : Opened B w d b bi gm capi capm ov nv S c r) (hf : Fine S) (s : ByteArray) (R : Except Int Nat) (hR : atX S s = R) :
    ∀ ww, Below w.heap.size w ww → Calls Tryz.prog 178 #[.pointer (some ⟨d, 0, none⟩), .string s] ww fun e w' => (match R with | .ok K => e = .returned (.pointer (some ⟨bi, K * 4, none⟩)) | .error k => e = thrown k) ∧ Below ww.heap.size ww w' := by
  intro ww hb
  unfold atX at hR
  by_cases hp : (parseM s).1 = 0
  · rw [if_neg (by simpa using hp)] at hR
    refine (o.at_call hf s hp (Nat.le_trans (parse_len hp) (by decide)) _ _ rfl ww hb).mono ?_
    rintro e w' ⟨h1, h2⟩
    refine ⟨?_, h2⟩
    rcases h1 with ⟨h, h'⟩ | ⟨h, h'⟩
    · rw [if_neg (by simpa using h)] at hR
      subst hR
      exact h'
    · rw [if_pos h] at hR
      subst hR
      exact h'
  · rw [if_pos hp] at hR
    subst hR
    exact at122x d b S c s ww (o.at_.read.below hb (Nat.le_refl _)) hp
set_option maxRecDepth 100000 in
theorem take_miss {bi K : Nat} {x : PIn} {ea : Option Addr} {ec : Nat} {w : World} (hI : InoAt w bi K x ea ec) (l : ByteArray) (hm : hitE x.ents l = false) :
    Calls Tryz.prog 187 #[.pointer (some ⟨bi, K * 4, none⟩), .string l] w fun e w' => e = thrown 1 ∧ Below w.heap.size w w' := by
  have hent := fun ww hb => hI.ent ww l hb
  rw [hm] at hent
  have y2 := hI.y2
  have iB := hI.iB
  clear hI hm
  go_enter Tryz.func187, Tryz.ntmps187
  go_wp2_with (first | (go_at_call 171; refine (hent _ (bel _ _)).mono ?_; rintro e w' ⟨rfl, hb⟩; obtain ⟨p, rfl⟩ := hb.rest; clear hb) | (go_at_call 172; with_reducible refine (throw_yes _ _).mono ?_; rintro e w' ⟨rfl, hb⟩; obtain ⟨p, rfl⟩ := hb.rest; clear hb))
  exact ⟨rfl, rfl, bel w _⟩
/-- What is left when an entry was taken. -/
def rem1 (S : PSt) (c : PCall) (r : PRes) (num : Int) : Except Int (PSt × PRes) := match S.ins[(findN S.nums num).toNat]? with
  | none => .error 0
  | some y => if c.kind = 9 then (if y.dir = true then .error 8 else .ok (tidyM S num, r)) else if y.dir = false then .error 7 else if 0 < y.ents.length then .error 3 else .ok ({ S with ins := delAt S.ins (findN S.nums num).toNat }, r)
def removeM (S : PSt) (c : PCall) (r : PRes) : Except Int (PSt × PRes) := match parX S c.path with
  | .error k => .error k
  | .ok (K, l) => match S.ins[K]? with
    | none => .error 0
    | some x => if hitE x.ents l = false then .error 1 else match x.ents[bsE x.ents l]? with
      | none => .error 0
      | some e => rem1 (S.ents K x (delAt x.ents (bsE x.ents l))) c r e.num
theorem ents_get {S : PSt} {K : Nat} {x : PIn} {es : List PEnt} (hx : S.ins[K]? = some x) (q : Nat) : (S.ents K x es).ins[q]? = if K = q then some { x with ents := es } else S.ins[q]? := by
  unfold PSt.ents
  show (S.ins.set K _)[q]? = _
  obtain ⟨hl, -⟩ := List.getElem?_eq_some_iff.1 hx
  rw [List.getElem?_set]
  by_cases e : K = q
  · subst e
    rw [if_pos rfl, if_pos rfl, if_pos hl]
  · rw [if_neg e, if_neg e]
theorem ents_mem {S : PSt} {K : Nat} {x y : PIn} {es : List PEnt} (hx : S.ins[K]? = some x) (hy : y ∈ (S.ents K x es).ins) : y ∈ S.ins ∨ y = { x with ents := es } := by
  obtain ⟨q, hq⟩ := List.mem_iff_getElem?.1 hy
  rw [ents_get hx] at hq
  split at hq
  · cases hq; exact .inr rfl
  · exact .inl (List.mem_of_getElem? hq)
theorem Fine.take {S : PSt} (hf : Fine S) {K : Nat} {x : PIn} (hx : S.ins[K]? = some x) (q : Nat) (hq : q < x.ents.length) : Fine (S.ents K x (delAt x.ents q)) := by
  have hn := nums_ents S K x (delAt x.ents q) hx
  have hxm := List.mem_of_getElem? hx
  have hsub : ∀ e ∈ delAt x.ents q, e ∈ x.ents := fun e he => (List.mem_append.1 he).elim List.mem_of_mem_take List.mem_of_mem_drop
  obtain ⟨a1, a2, a3, a4, a5, a6⟩ := hf.wf
  have hl : (S.ents K x (delAt x.ents q)).ins.length = S.ins.length := by unfold PSt.ents; simp
  refine ⟨⟨by rw [hl]; exact a1, a2, a3, fun y hy => ?_, a5, a6⟩, by rw [hl]; exact hf.pos, fun y hy e he => ?_, fun d hd => by rw [hn]; exact hf.opens d hd⟩
  · rcases ents_mem hx hy with h | rfl
    · exact a4 y h
    · obtain ⟨b1, b2, b3⟩ := a4 x hxm
      exact ⟨b1, by show (delAt x.ents q).length ≤ _; rw [delAt_len _ _ hq]; omega, fun e he => b3 e (hsub e he)⟩
  · rw [hn]
    rcases ents_mem hx hy with h | rfl
    · exact hf.find y h e he
    · exact hf.find x hxm e (hsub e he)
theorem Small.take {S : PSt} (hs : Small S) {K : Nat} {x : PIn} (hx : S.ins[K]? = some x) (q : Nat) (hq : q < x.ents.length) : Small (S.ents K x (delAt x.ents q)) := by
  have hl : (S.ents K x (delAt x.ents q)).ins.length = S.ins.length := by unfold PSt.ents; simp
  refine ⟨by rw [hl]; exact hs.ins, fun y hy => ?_, hs.made, hs.each⟩
  rcases ents_mem hx hy with h | rfl
  · exact hs.ents y h
  · have := hs.ents x (List.mem_of_getElem? hx)
    show (delAt x.ents q).length ≤ _
    rw [delAt_len _ _ hq]
    omega
theorem Opened.dpart {B : Nat} {w : World} {d b bi gm capi capm : Nat} {ov nv : Value} {S : PSt} {c : PCall} {r : PRes} (o : Opened B w d b bi gm capi capm ov nv S c r) : DPart B w d b bi capi ov (.slice (some ⟨gm, 0, none⟩) S.made.length capm) nv S c r := ⟨o.hBb, o.hBd, o.hD, o.hb, o.st, o.nm⟩
set_option maxRecDepth 100000 in
set_option maxHeartbeats 8000000 in
theorem remove78 (B d b : Nat) (S : PSt) (c : PCall) (r : PRes) (w : World) (h : DoAt B w d b S c r) (hB : B ≤ w.heap.size) (hf : Fine S) (hs : Small S) (hmd : 0 < S.made.length) :
    Calls Tryz.prog 148 #[.pointer (some ⟨d, 0, none⟩)] w (RunOut B w d b c (removeM S c r)) := by
  obtain ⟨bi, gm, capi, capm, ov, nv, ho⟩ := h.open_ hf.pos hmd
  obtain ⟨PM, hPM⟩ : ∃ PM, parX S c.path = PM := ⟨_, rfl⟩
  have hpar := ho.parX_call hf c.path PM hPM
  unfold removeM
  rw [hPM]
  have d6 : w.cell? ⟨d, 6, none⟩ = some (.string c.path) := ho.hD.cell 6
  have iD := ho.hD.lt
  have iW : Bel w w := inferInstance
  rcases PM with k | ⟨K, l⟩
  · simp only
    have hpar1 : ∀ ww, Below w.heap.size w ww → Calls Tryz.prog 170 #[.pointer (some ⟨d, 0, none⟩), .string c.path] ww fun e w' => e = thrown k ∧ Below ww.heap.size ww w' := hpar
    clear hpar hPM hf hs ho h
    go_enter Tryz.func148, Tryz.ntmps148
    go_wp2_with (go_at_call 170; refine (hpar1 _ (bel _ _)).mono ?_; rintro e w' ⟨rfl, hb⟩; obtain ⟨p, rfl⟩ := hb.rest; clear hb)
    exact ⟨rfl, (bel w _).mono hB, rfl⟩
  have hpar1 : ∀ ww, Below w.heap.size w ww → Calls Tryz.prog 170 #[.pointer (some ⟨d, 0, none⟩), .string c.path] ww fun e w' => e = .returned (.tuple #[.pointer (some ⟨bi, K * 4, none⟩), .string l]) ∧ Below ww.heap.size ww w' := hpar
  obtain ⟨x, hx, _⟩ := parX_ok hPM
  simp only
  rw [hx]
  simp only
  by_cases hhit : hitE x.ents l = true
  · have hq := hitE_lt hhit
    obtain ⟨e0, he0⟩ : ∃ e0, x.ents[bsE x.ents l]? = some e0 := ⟨_, List.getElem?_eq_getElem hq⟩
    rw [if_neg (by rw [hhit]; decide), he0]
    simp only
    have hf1 := hf.take hx _ hq
    have hs1 := hs.take hx _ hq
    have hfd := hf.find x (List.mem_of_getElem? hx) e0 (List.mem_of_getElem? he0)
    rw [← nums_ents S K x (delAt x.ents (bsE x.ents l)) hx] at hfd
    have htake : ∀ ww, Below w.heap.size w ww → Calls Tryz.prog 187 #[.pointer (some ⟨bi, K * 4, none⟩), .string l] ww _ := fun ww hb => take130 B ww ov (.slice (some ⟨gm, 0, none⟩) S.made.length capm) S bi capi K x l (ho.below hb).st hx (Nat.le_trans hB hb.size) (hs.ents x (List.mem_of_getElem? hx)) hhit e0 he0
    have HO := Lib.hid ho
    generalize hS1 : S.ents K x (delAt x.ents (bsE x.ents l)) = S1 at hf1 hs1 hfd htake ⊢
    have HP : ∀ (ww w3 : World), Below w.heap.size w ww → Keep (InEn ww) ww w3 → StOwn B w3 (.slice (some ⟨bi, 0, none⟩) S.ins.length capi) ov (.slice (some ⟨gm, 0, none⟩) S.made.length capm) S1 → Opened B w3 d b bi gm capi capm ov nv S1 c r := fun ww w3 hb hk hst => by
      subst hS1
      exact Opened.put (HO.out.below hb) hk hst
    have hmd1 : 0 < S1.made.length := by subst hS1; exact hmd
    have HPM := Lib.hid HP
    clear hpar hPM hf hs ho h HP hx hhit hq he0 hS1 HO hmd
    generalize hnum : e0.num = num at htake hfd ⊢
    clear hnum e0
    obtain ⟨RR, hRR⟩ : ∃ RR, rem1 S1 c r num = RR := ⟨_, rfl⟩
    rw [hRR]
    have HRR := Lib.hid hRR
    clear hRR
    go_enter Tryz.func148, Tryz.ntmps148
    go_upto_region 2 with (first | (go_at_call 170; refine (hpar1 _ (bel _ _)).mono ?_; rintro e w' ⟨rfl, hb⟩; obtain ⟨p, rfl⟩ := hb.rest; clear hb) | (go_at_call 187; refine (htake _ (bel _ _)).mono ?_; rintro e w3 ⟨rfl, hb3, hk3, hs3⟩; have o3 := HPM.out _ _ (bel w _) hk3 hs3; have HW3 := Lib.hid (And.intro o3 (((bel w _).mono hB).trans hb3)); clear hb3 hk3 hs3 o3))
    refine abs_world (F := fun wA => Opened B wA d b bi gm capi capm ov nv S1 c r ∧ Below B w wA) HW3.out ?_
    clear HW3 iD d6 htake hpar1 iW
    rintro wA ⟨hA, hbA⟩
    obtain ⟨K2, hfn⟩ : ∃ K2 : Nat, findN S1.nums num = K2 := ⟨(findN S1.nums num).toNat, by omega⟩
    have hK2 : K2 < S1.ins.length := by
      rcases findN_bounds S1.nums num with h | h
      · omega
      · have h2 := h.2
        unfold PSt.nums at h2 hfn
        rw [List.length_map] at h2
        omega
    obtain ⟨y, hy⟩ : ∃ y, S1.ins[K2]? = some y := ⟨_, List.getElem?_eq_getElem hK2⟩
    have hRR := HRR.out.symm
    clear HRR
    unfold rem1 at hRR
    rw [hfn, Int.toNat_natCast, hy] at hRR
    simp only at hRR
    have hfind : ∀ ww, Below wA.heap.size wA ww → Calls Tryz.prog 102 #[.pointer (some ⟨b, 0, none⟩), .int .i64 num] ww _ := fun ww hb => find_sp b S1 num ww (hA.at_.read.sp.below hb (Nat.le_refl _)) hf1.wf
    rw [hfn] at hfind
    obtain ⟨ea, ec, hI⟩ := hA.ino hs1 hy
    have htd : ∀ ww, Below wA.heap.size wA ww → Calls Tryz.prog 145 #[.pointer (some ⟨d, 0, none⟩), .int .i64 num] ww fun e w' => e = .returned (.tuple #[]) ∧ Below B w w' ∧ DPart B w' d b bi capi ov (.slice (some ⟨gm, 0, none⟩) S1.made.length capm) nv (tidyM S1 num) c r := fun ww hb => (tidy75a (hA.dpart.below hb) (Nat.le_trans hB (Nat.le_trans hbA.size hb.size)) hf1.wf num hy hfn).mono fun e w' ⟨h1, h2, h3⟩ => ⟨h1, (hbA.trans (hb.mono (Nat.le_trans hB hbA.size))).trans h2, h3⟩
    obtain ⟨iI, y0, y1, y2, y3, hrow, hent, hful⟩ := hI
    have hA0 := hA
    have hAp := hA.dpart
    have iD := hA.hD.lt
    have iL := hA.hb.lt
    have d0 : wA.cell? ⟨d, 0, none⟩ = some (.pointer (some ⟨b, 0, none⟩)) := hA.hD.cell 0
    have d1 : wA.cell? ⟨d, 1, none⟩ = some (.int .i64 c.kind) := hA.hD.cell 1
    have b0 : wA.cell? ⟨b, 0, none⟩ = some (.slice (some ⟨bi, 0, none⟩) S1.ins.length capi) := hA.hb.cell 0
    have hKI : (K2 : Int) < S1.ins.length := by omega
    have hlen : (0 : Int) ≤ y.ents.length := by omega
    have hKl := hK2
    have HF1 := Lib.hid (And.intro hf1 (And.intro hs1 hmd1))
    have HA := Lib.hid (And.intro hAp hbA)
    have iA : Bel wA wA := inferInstance
    clear hA hA0 hAp hbA hf1 hs1 hfd hmd1 hrow hent hful hy hfn y0 y3 HPM
    generalize y.dir = yd at y1 hRR
    generalize hyl : y.ents.length = yl at y2 hlen hRR
    clear hyl y
    by_cases hk : c.kind = 9
    · rw [if_pos hk] at hRR
      rw [hk] at d1
      rcases yd with _ | _
      · simp only [Bool.false_eq_true, if_false] at hRR
        subst hRR
        go_wp2_with (first | (go_at_call 102; refine (hfind _ (bel _ _)).mono ?_; rintro e w' ⟨rfl, hb⟩; obtain ⟨p, rfl⟩ := hb.rest; clear hb) | (go_at_call 172; with_reducible refine (throw_no _ _).mono ?_; rintro e w' ⟨rfl, hb⟩; obtain ⟨p, rfl⟩ := hb.rest; clear hb) | (go_at_call 145; refine (htd _ (bel _ _)).mono ?_; rintro e w7 ⟨rfl, hb7, hp7⟩; have H7 := Lib.hid (And.intro hb7 hp7); clear hb7 hp7))
        exact bodyPost_end (v := .tuple #[]) (by simp [results, go_sem]) rfl ⟨H7.out.1, rfl, H7.out.2.at_⟩
      · simp only [if_true] at hRR
        subst hRR
        go_wp2_with (first | (go_at_call 102; refine (hfind _ (bel _ _)).mono ?_; rintro e w' ⟨rfl, hb⟩; obtain ⟨p, rfl⟩ := hb.rest; clear hb) | (go_at_call 172; with_reducible refine (throw_yes _ _).mono ?_; rintro e w' ⟨rfl, hb⟩; obtain ⟨p, rfl⟩ := hb.rest; clear hb))
        exact ⟨rfl, HA.out.2.trans ((bel wA _).mono (Nat.le_trans hB HA.out.2.size)), rfl⟩
    · rw [if_neg hk] at hRR
      have hkb : (c.kind == 9) = false := by simpa using hk
      rcases yd with _ | _
      · simp only [if_true] at hRR
        subst hRR
        go_wp2_with (first | (go_at_call 102; refine (hfind _ (bel _ _)).mono ?_; rintro e w' ⟨rfl, hb⟩; obtain ⟨p, rfl⟩ := hb.rest; clear hb) | (go_at_call 172; with_reducible refine (throw_yes _ _).mono ?_; rintro e w' ⟨rfl, hb⟩; obtain ⟨p, rfl⟩ := hb.rest; clear hb))
        exact ⟨rfl, HA.out.2.trans ((bel wA _).mono (Nat.le_trans hB HA.out.2.size)), rfl⟩
      · rw [if_neg (by decide)] at hRR
        by_cases hz : 0 < yl
        · rw [if_pos hz] at hRR
          subst hRR
          have hzI : (0 : Int) < yl := by omega
          go_wp2_with (first | (go_at_call 102; refine (hfind _ (bel _ _)).mono ?_; rintro e w' ⟨rfl, hb⟩; obtain ⟨p, rfl⟩ := hb.rest; clear hb) | (go_at_call 172; with_reducible refine (throw_no _ _).mono ?_; rintro e w' ⟨rfl, hb⟩; obtain ⟨p, rfl⟩ := hb.rest; clear hb) | (go_at_call 172; with_reducible refine (throw_yes _ _).mono ?_; rintro e w' ⟨rfl, hb⟩; obtain ⟨p, rfl⟩ := hb.rest; clear hb))
          exact ⟨rfl, HA.out.2.trans ((bel wA _).mono (Nat.le_trans hB HA.out.2.size)), rfl⟩
        · rw [if_neg hz] at hRR
          subst hRR
          have hzI : ¬ (0 : Int) < yl := by omega
          have hwK : IntKind.i64.wrap ((K2 : Int) + 1) = (K2 : Int) + 1 := I64.wrap ⟨by omega, by have := HF1.out.1.wf.1; omega⟩
          go_upto_region 9 with (first | (go_at_call 102; refine (hfind _ (bel _ _)).mono ?_; rintro e w' ⟨rfl, hb⟩; obtain ⟨p, rfl⟩ := hb.rest; clear hb) | (go_at_call 172; with_reducible refine (throw_no _ _).mono ?_; rintro e w' ⟨rfl, hb⟩; obtain ⟨p, rfl⟩ := hb.rest; clear hb))
          refine abs_world (F := fun wB => DPart B wB d b bi capi ov (.slice (some ⟨gm, 0, none⟩) S1.made.length capm) nv S1 c r ∧ Below B w wB) ⟨HA.out.1.below (bel _ _), HA.out.2.trans ((bel wA _).mono (Nat.le_trans hB HA.out.2.size))⟩ ?_
          clear iD iL d0 d1 b0 iI y1 y2 HA hfind htd iA wA
          rintro wA ⟨hA, hbA⟩
          have iD := hA.hD.lt
          have iL := hA.hb.lt
          have d0 : wA.cell? ⟨d, 0, none⟩ = some (.pointer (some ⟨b, 0, none⟩)) := hA.hD.cell 0
          have b0 : wA.cell? ⟨b, 0, none⟩ = some (.slice (some ⟨bi, 0, none⟩) S1.ins.length capi) := by have := hA.hb.cell 0; simpa using this
          obtain ⟨is, hi1, hi2, hi3⟩ := hA.st.delIns K2 hKl
          have hdel := delete125 B bi capi (is.map IRec.cells) K2 wA.drew (by rw [List.length_map, hi2]; exact hi1.keep ((Keep.refl (fun _ => False) wA).drew) (fun _ _ h => h)) (irec_len _) (irec_one _) (by rw [List.length_map, hi2]; exact hKl) (by rw [List.length_map, hi2]; exact HF1.out.1.wf.1)
          rw [List.length_map, hi2] at hdel
          have HA := Lib.hid (And.intro hA (And.intro hbA hi3))
          clear hA hbA hi3 hi1
          refine wp_region_eff [14, 17] true (fun w' => w'.cell? ⟨d, 0, none⟩ = some (.pointer (some ⟨b, 0, none⟩)) ∧ w'.cell? ⟨b, 0, none⟩ = some (.slice (some ⟨bi, 0, none⟩) S1.ins.length capi)) (by kernel_rfl) (by kernel_rfl) ?_ ?_
          · (try dsimp only); (repeat' apply And.intro) <;> go_simp
          repeat
            refine wpL_look rfl rfl ?_
            apply Exists.intro
            refine ⟨?_, ?_⟩
            focus
              rintro w' ⟨s0, s1⟩
              go_simp
              first | done | rfl
            simp only [Act.put, List.setIfInBounds_toArray, List.set_cons_zero, List.set_cons_succ]
          refine wpL_act rfl rfl ?_
          refine eff_call 182 #[.slice (some ⟨bi, 0, none⟩) S1.ins.length capi, .int .i64 K2, .int .i64 ((K2 : Int) + 1)] ?hr ?_
          case hr =>
            go_simp
            first | done | rfl
          refine hdel.mono ?_
          rintro e w5 ⟨rfl, ho5, hk5⟩
          obtain ⟨hA, hbA, hi3⟩ := HA.out
          have hk45 : Keep (fun g => g = bi) wA w5 := ((Keep.refl (fun g => g = bi) wA).drew).trans hk5 (fun _ _ h => h)
          obtain ⟨hBi, arr, hbi⟩ : B ≤ bi ∧ ∃ arr, Blk wA bi arr 68 := by
            obtain ⟨_, _, is', h3, _⟩ := hA.st
            rcases h3 with ⟨h0, _⟩ | ⟨g, cap', arr, heq, hgB, hgb, _⟩
            · cases h0
            · simp only [Value.slice.injEq, Option.some.injEq, Addr.mk.injEq] at heq
              obtain ⟨⟨rfl, -, -⟩, -, -⟩ := heq
              exact ⟨hgB, arr, hgb⟩
          have hX : ∀ g, g = bi → ∃ c, Blk wA g c 68 := fun g hg => by rw [hg]; exact ⟨arr, hbi⟩
          have hst5 := hi3 w5 _ _ hk45 hX ho5
          have hnb : ∀ {g : Nat} {cc : Array Value} {t : TypeId}, Blk wA g cc t → t ≠ 68 → ¬ g = bi := fun hb ht hg => by
            subst hg
            exact hb.ne_ hbi ht rfl
          have hD5 := hk45.blk hA.hD (hnb hA.hD (by decide))
          have hB5 := hk45.blk hA.hb (hnb hA.hb (by decide))
          have hN5 := hA.nm.keep hk45 (fun g hg h => by
            obtain ⟨cc, hcc⟩ := hA.nm.blk_of hg
            exact hnb hcc (by decide) h)
          have hBA : B ≤ wA.heap.size := Nat.le_trans hB hbA.size
          have hbw5 : Below B w w5 := hbA.trans (hk45.below hBA (fun i hi h => by omega))
          have y0 : w5.cell? ⟨d, 0, none⟩ = some (.pointer (some ⟨b, 0, none⟩)) := hD5.cell 0
          have y1 : w5.cell? ⟨b, 0, none⟩ = some (.slice (some ⟨bi, 0, none⟩) S1.ins.length capi) := by have := hB5.cell 0; simpa using this
          have fy1 := hB5.frozen 0
          have jD := hD5.lt
          have jB := hB5.lt
          have hKb : Keep (fun g => g = b) w5 (w5.setCell ⟨b, 0, none⟩ (.slice (some ⟨bi, 0, none⟩) (S1.ins.length - 1) capi)) := Keep.setCell (S := fun g => g = b) (p := ⟨b, 0, none⟩) (Keep.refl _ _) (.inl rfl) _
          have hp : DPart B (w5.setCell ⟨b, 0, none⟩ (.slice (some ⟨bi, 0, none⟩) (S1.ins.length - 1) capi)) d b bi capi ov (.slice (some ⟨gm, 0, none⟩) S1.made.length capm) nv { S1 with ins := delAt S1.ins K2 } c r := ⟨hA.hBb, hA.hBd, hKb.blk hD5 (hD5.ne_ hB5 (by decide)), by rw [delAt_len _ _ hKl]; have := hB5.set_ 0 (.slice (some ⟨bi, 0, none⟩) (S1.ins.length - 1) capi); simpa using this, by rw [delAt_len _ _ hKl]; exact hst5.keep hKb (fun g hg => by rw [hg]; exact ⟨_, 26, hB5, by decide, by decide, by decide, by decide⟩), hN5.keep hKb (fun g hg => hN5.ne_blk hB5 (by decide) hg)⟩
          have hbf : Below B w (w5.setCell ⟨b, 0, none⟩ (.slice (some ⟨bi, 0, none⟩) (S1.ins.length - 1) capi)) := hbw5.setCell (p := ⟨b, 0, none⟩) hA.hBb _
          have HF := Lib.hid (And.intro hp hbf)
          clear hA hbA hst5 hD5 hB5 hN5 hk45 hk5 ho5 hnb hbw5 hKb hp hbf hdel hbi hX hi3
          refine ⟨_, rfl, .inl ⟨y0, y1⟩, ?_⟩
          simp only [Act.put, List.setIfInBounds_toArray, List.set_cons_zero, List.set_cons_succ]
          repeat
            refine wpL_look rfl rfl ?_
            apply Exists.intro
            refine ⟨?_, ?_⟩
            focus
              rintro w' ⟨s0, s1⟩
              go_simp
              first | done | rfl
            simp only [Act.put, List.setIfInBounds_toArray, List.set_cons_zero, List.set_cons_succ]
          refine wpL_skip rfl rfl ?_
          apply Exists.intro
          refine ⟨?_, .inr ⟨rfl, rfl⟩, ?_⟩
          focus
            go_simp
            rfl
          simp only [Act.put]
          refine wpL_end ?_
          exact bodyPost_end (v := .tuple #[]) (by simp [results, go_sem]) rfl ⟨HF.out.2, rfl, HF.out.1.at_⟩
  · have hhit : hitE x.ents l = false := by simpa using hhit
    rw [if_pos hhit]
    obtain ⟨ea, ec, hI⟩ := ho.ino hs hx
    have hmiss : ∀ ww, Below w.heap.size w ww → Calls Tryz.prog 187 #[.pointer (some ⟨bi, K * 4, none⟩), .string l] ww fun e w' => e = thrown 1 ∧ Below ww.heap.size ww w' := fun ww hb => by
      obtain ⟨ea, ec, hI⟩ := (ho.below hb).ino hs hx
      exact take_miss hI l hhit
    clear hpar hPM hx hf hs ho h hI hhit
    go_enter Tryz.func148, Tryz.ntmps148
    go_wp2_with (first | (go_at_call 170; refine (hpar1 _ (bel _ _)).mono ?_; rintro e w' ⟨rfl, hb⟩; obtain ⟨p, rfl⟩ := hb.rest; clear hb) | (go_at_call 187; refine (hmiss _ (bel _ _)).mono ?_; rintro e w' ⟨rfl, hb⟩; obtain ⟨p, rfl⟩ := hb.rest; clear hb))
    exact ⟨rfl, (bel w _).mono hB, rfl⟩
end Go.Proofs.YtmkapobnfigedaaGreatDoor
