/- A doer's link and create, whatever they come to. Conditions: none. -/
import Derived.Test.YtmkapobnfigedaaGreatDoorEd26
import Derived.Test.YtmkapobnfigedaaGreatDoorEd13
set_option linter.unusedVariables false
set_option linter.unusedSimpArgs false
namespace Go.Proofs.YtmkapobnfigedaaGreatDoor
open Go.RowKit
def linkX (S : PSt) (c : PCall) (r : PRes) : Except Int (PSt × PRes) := match atX S c.path with
  | .error k => .error k
  | .ok K1 => match S.ins[K1]? with
    | none => .error 0
    | some x => if x.dir = true then .error 8 else match parX S c.path2 with
      | .error k => .error k
      | .ok (K, l) => linkM2 S x r K l
set_option maxRecDepth 100000 in
set_option maxHeartbeats 8000000 in
theorem link77x (B d b : Nat) (S : PSt) (c : PCall) (r : PRes) (w : World) (h : DoAt B w d b S c r) (hB : B ≤ w.heap.size) (hf : Fine S) (hs : Small S) (hmd : 0 < S.made.length) :
    Calls Tryz.prog 147 #[.pointer (some ⟨d, 0, none⟩)] w (RunOut B w d b c (linkX S c r)) := by
  obtain ⟨bi, gm, capi, capm, ov, nv, ho⟩ := h.open_ hf.pos hmd
  obtain ⟨AM, hAM⟩ : ∃ AM, atX S c.path = AM := ⟨_, rfl⟩
  have hat := ho.atX_call hf c.path AM hAM
  unfold linkX
  rw [hAM]
  have d6 : w.cell? ⟨d, 6, none⟩ = some (.string c.path) := ho.hD.cell 6
  have d7 : w.cell? ⟨d, 7, none⟩ = some (.string c.path2) := ho.hD.cell 7
  have iD := ho.hD.lt
  have iW : Bel w w := inferInstance
  rcases AM with C | K1
  rotate_left
  · obtain ⟨x, hx⟩ := atX_ok hf hAM
    simp only
    rw [hx]
    simp only
    have hat1 : ∀ ww, Below w.heap.size w ww → Calls Tryz.prog 178 #[.pointer (some ⟨d, 0, none⟩), .string c.path] ww fun e w' => e = .returned (.pointer (some ⟨bi, K1 * 4, none⟩)) ∧ Below ww.heap.size ww w' := hat
    obtain ⟨ea1, ec1, hI1⟩ := ho.ino hs hx
    obtain ⟨iBi, x0, x1, _⟩ := hI1
    obtain ⟨PM, hPM⟩ : ∃ PM, parX S c.path2 = PM := ⟨_, rfl⟩
    have hpar := ho.parX_call hf c.path2 PM hPM
    rw [hPM]
    clear hat hAM
    by_cases hdir : x.dir = true
    · rw [if_pos hdir]
      rw [hdir] at x1
      clear hpar hPM hx hf hs ho hdir
      go_enter Tryz.func147, Tryz.ntmps147
      go_wp2_with (first | (go_at_call 178; refine (hat1 _ (bel _ _)).mono ?_; rintro e w' ⟨rfl, hb⟩; obtain ⟨p, rfl⟩ := hb.rest; clear hb) | (go_at_call 172; refine (throw_yes _ _).mono ?_; rintro e w' ⟨rfl, hb⟩; obtain ⟨p, rfl⟩ := hb.rest; clear hb))
      exact ⟨rfl, (bel w _).mono hB, rfl⟩
    · rw [if_neg hdir]
      have hdir : x.dir = false := by simpa using hdir
      rw [hdir] at x1
      rcases PM with k | ⟨K, l⟩
      · simp only
        have hpar1 : ∀ ww, Below w.heap.size w ww → Calls Tryz.prog 170 #[.pointer (some ⟨d, 0, none⟩), .string c.path2] ww fun e w' => e = thrown k ∧ Below ww.heap.size ww w' := hpar
        clear hpar hPM hx hf hs ho
        go_enter Tryz.func147, Tryz.ntmps147
        go_wp2_with (first | (go_at_call 178; refine (hat1 _ (bel _ _)).mono ?_; rintro e w' ⟨rfl, hb⟩; obtain ⟨p, rfl⟩ := hb.rest; clear hb) | (go_at_call 172; with_reducible refine (throw_no _ _).mono ?_; rintro e w' ⟨rfl, hb⟩; obtain ⟨p, rfl⟩ := hb.rest; clear hb) | (go_at_call 170; refine (hpar1 _ (bel _ _)).mono ?_; rintro e w' ⟨rfl, hb⟩; obtain ⟨p, rfl⟩ := hb.rest; clear hb))
        exact ⟨rfl, (bel w _).mono hB, rfl⟩
      · have hpar1 : ∀ ww, Below w.heap.size w ww → Calls Tryz.prog 170 #[.pointer (some ⟨d, 0, none⟩), .string c.path2] ww fun e w' => e = .returned (.tuple #[.pointer (some ⟨bi, K * 4, none⟩), .string l]) ∧ Below ww.heap.size ww w' := hpar
        obtain ⟨y, hy, _⟩ := parX_ok hPM
        obtain ⟨ea, ec, hI⟩ := ho.ino hs hy
        have hent := fun ww hb => hI.ent ww l hb
        have hful := fun ww hb => hI.ful ww l { data := #[] } hb
        have y2 := hI.y2
        simp only
        unfold linkM2
        rw [hy]
        simp only
        generalize hhit : hitE y.ents l = hit at hent ⊢
        generalize hfu : fullM y.ents l { data := #[] } = fu at hful ⊢
        have hyl := hs.ents y (List.mem_of_getElem? hy)
        have hput : ∀ ww, Below w.heap.size w ww → Calls Tryz.prog 175 #[.pointer (some ⟨bi, K * 4, none⟩), .string l, .int .i64 x.num] ww _ := fun ww hb => put118 B ww ov (.slice (some ⟨gm, 0, none⟩) S.made.length capm) S bi capi K y l x.num (ho.below hb).st hy (Nat.le_trans hB hb.size) hyl
        have HO := Lib.hid ho
        clear hpar hPM hx hf hs ho hI hhit hfu hy
        rcases hit with _ | _
        · simp only [Bool.false_eq_true, if_false]
          rcases fu with _ | _
          · simp only [Bool.false_eq_true, if_false]
            go_enter Tryz.func147, Tryz.ntmps147
            go_wp2_with (first | (go_at_call 178; refine (hat1 _ (bel _ _)).mono ?_; rintro e w' ⟨rfl, hb⟩; obtain ⟨p, rfl⟩ := hb.rest; clear hb) | (go_at_call 172; with_reducible refine (throw_no _ _).mono ?_; rintro e w' ⟨rfl, hb⟩; obtain ⟨p, rfl⟩ := hb.rest; clear hb) | (go_at_call 170; refine (hpar1 _ (bel _ _)).mono ?_; rintro e w' ⟨rfl, hb⟩; obtain ⟨p, rfl⟩ := hb.rest; clear hb) | (go_at_call 171; refine (hent _ (bel _ _)).mono ?_; rintro e w' ⟨rfl, hb⟩; obtain ⟨p, rfl⟩ := hb.rest; clear hb) | (go_at_call 173; refine (hful _ (bel _ _)).mono ?_; rintro e w' ⟨rfl, hb⟩; obtain ⟨p, rfl⟩ := hb.rest; clear hb) | (go_at_call 175; refine (hput _ (bel _ _)).mono ?_; rintro e w3 ⟨rfl, hb3, hk3, hs3⟩; have o3 := Opened.put (HO.out.below (bel w _)) hk3 hs3; have HW3 := Lib.hid (And.intro o3 (((bel w _).mono hB).trans hb3)); clear hb3 hk3 hs3 o3))
            exact bodyPost_end (v := .tuple #[]) (by simp [results, go_sem]) rfl ⟨HW3.out.2, rfl, HW3.out.1.at_⟩
          · simp only [if_true]
            go_enter Tryz.func147, Tryz.ntmps147
            go_wp2_with (first | (go_at_call 178; refine (hat1 _ (bel _ _)).mono ?_; rintro e w' ⟨rfl, hb⟩; obtain ⟨p, rfl⟩ := hb.rest; clear hb) | (go_at_call 170; refine (hpar1 _ (bel _ _)).mono ?_; rintro e w' ⟨rfl, hb⟩; obtain ⟨p, rfl⟩ := hb.rest; clear hb) | (go_at_call 171; refine (hent _ (bel _ _)).mono ?_; rintro e w' ⟨rfl, hb⟩; obtain ⟨p, rfl⟩ := hb.rest; clear hb) | (go_at_call 173; refine (hful _ (bel _ _)).mono ?_; rintro e w' ⟨rfl, hb⟩; obtain ⟨p, rfl⟩ := hb.rest; clear hb) | (go_at_call 172; with_reducible refine (throw_no _ _).mono ?_; rintro e w' ⟨rfl, hb⟩; obtain ⟨p, rfl⟩ := hb.rest; clear hb) | (go_at_call 172; with_reducible refine (throw_yes _ _).mono ?_; rintro e w' ⟨rfl, hb⟩; obtain ⟨p, rfl⟩ := hb.rest; clear hb))
            exact ⟨rfl, (bel w _).mono hB, rfl⟩
        · simp only [if_true]
          go_enter Tryz.func147, Tryz.ntmps147
          go_wp2_with (first | (go_at_call 178; refine (hat1 _ (bel _ _)).mono ?_; rintro e w' ⟨rfl, hb⟩; obtain ⟨p, rfl⟩ := hb.rest; clear hb) | (go_at_call 170; refine (hpar1 _ (bel _ _)).mono ?_; rintro e w' ⟨rfl, hb⟩; obtain ⟨p, rfl⟩ := hb.rest; clear hb) | (go_at_call 171; refine (hent _ (bel _ _)).mono ?_; rintro e w' ⟨rfl, hb⟩; obtain ⟨p, rfl⟩ := hb.rest; clear hb) | (go_at_call 172; with_reducible refine (throw_no _ _).mono ?_; rintro e w' ⟨rfl, hb⟩; obtain ⟨p, rfl⟩ := hb.rest; clear hb) | (go_at_call 172; with_reducible refine (throw_yes _ _).mono ?_; rintro e w' ⟨rfl, hb⟩; obtain ⟨p, rfl⟩ := hb.rest; clear hb))
          exact ⟨rfl, (bel w _).mono hB, rfl⟩
  · simp only
    have hat1 : ∀ ww, Below w.heap.size w ww → Calls Tryz.prog 178 #[.pointer (some ⟨d, 0, none⟩), .string c.path] ww fun e w' => e = thrown C ∧ Below ww.heap.size ww w' := hat
    clear hat hAM hf hs ho
    go_enter Tryz.func147, Tryz.ntmps147
    go_wp2_with (first | (go_at_call 178; refine (hat1 _ (bel _ _)).mono ?_; rintro e w' ⟨rfl, hb⟩; obtain ⟨p, rfl⟩ := hb.rest; clear hb))
    exact ⟨rfl, (bel w _).mono hB, rfl⟩
def createX (S : PSt) (c : PCall) (r : PRes) : Except Int (PSt × PRes) := if (parseM c.path).1 ≠ 0 then .error (codeM (parseM c.path).1) else createM S c r
set_option maxRecDepth 100000 in
set_option maxHeartbeats 2000000 in
theorem create71x (B d b : Nat) (S : PSt) (c : PCall) (r : PRes) (w : World) (h : DoAt B w d b S c r) (hB : B ≤ w.heap.size) (hf : Fine S) (hs : Small S) (h0 : 0 ≤ c.core) (hc : c.core < S.made.length) :
    Calls Tryz.prog 141 #[.pointer (some ⟨d, 0, none⟩)] w (RunOut B w d b c (createX S c r)) := by
  unfold createX
  by_cases hp : (parseM c.path).1 = 0
  · rw [if_neg (by simpa using hp)]
    exact create71 B d b S c r w h hB hf hs hp (Nat.le_trans (parse_len hp) (by decide)) h0 hc
  · rw [if_pos hp]
    have hpar1 : ∀ ww, Below w.heap.size w ww → Calls Tryz.prog 170 #[.pointer (some ⟨d, 0, none⟩), .string c.path] ww _ := fun ww hb => parent113x d b S c c.path ww (h.read.below hb (Nat.le_refl _)) hp
    obtain ⟨iv, ov, mv, nv, hBb, hBd, hD, hbk, hst, hnv⟩ := h
    have d6 : w.cell? ⟨d, 6, none⟩ = some (.string c.path) := hD.cell 6
    have iD := hD.lt
    clear hD hbk hst hnv hf hs
    go_enter Tryz.func141, Tryz.ntmps141
    go_wp2_with (go_at_call 170; refine (hpar1 _ (bel _ _)).mono ?_; rintro e w' ⟨rfl, hb⟩; obtain ⟨p, rfl⟩ := hb.rest; clear hb)
    exact ⟨rfl, (bel w _).mono hB, rfl⟩
end Go.Proofs.YtmkapobnfigedaaGreatDoor
