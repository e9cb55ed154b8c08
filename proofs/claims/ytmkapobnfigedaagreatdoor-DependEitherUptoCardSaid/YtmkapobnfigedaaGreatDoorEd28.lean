/- A doer's rename, whatever it comes to. Conditions: none. -/
import Derived.Test.YtmkapobnfigedaaGreatDoorEd27
import Derived.Test.YtmkapobnfigedaaGreatDoorEd14
set_option linter.unusedVariables false
set_option linter.unusedSimpArgs false
namespace Go.Proofs.YtmkapobnfigedaaGreatDoor
open Go.RowKit
theorem yieldedX_of {a : Act} {j : Nat} {d : Tmp} {b : Bool} (h : a.eval (.tmp d) = .bool b) (o : Oper) (ops' : Array Oper) (ho : ops'[j]? = some o) (hd : o.dst = some d) : yielded ops' a.tmps j = some b := by
  unfold yielded
  rw [ho]
  simp only [Option.bind_some, hd]
  rw [evT] at h
  rcases e : a.tmps[d]? with _ | v
  · rw [e] at h
    simp [undef] at h
  · rw [e] at h
    simp only [Option.getD_some] at h
    subst h
    rfl
/-- What holds while region 5 of rename comes up, to the throw. -/
structure R5x (d b bi n capi f : Nat) (num : Int) (p2 : ByteArray) (w0 : World) (D : Nat → Prop) (σ : Nat → Value) (w : World) : Prop where
  c0 : D 0 → σ 0 = .pointer (some ⟨d, 0, none⟩)
  c1 : D 1 → σ 1 = .pointer (some ⟨d, 0, none⟩)
  c2 : D 2 → σ 2 = .pointer (some ⟨d, 0, none⟩)
  c3 : D 3 → σ 3 = .pointer (some ⟨b, 0, none⟩)
  c4 : D 4 → σ 4 = .pointer (some ⟨b, 0, none⟩)
  c5 : D 5 → σ 5 = .pointer (some ⟨b, 0, none⟩)
  c6 : D 6 → σ 6 = .slice (some ⟨bi, 0, none⟩) n capi
  c7 : D 7 → σ 7 = .pointer (some ⟨d, 0, none⟩)
  c8 : D 8 → σ 8 = .pointer (some ⟨d, 0, none⟩)
  c9 : D 9 → σ 9 = .pointer (some ⟨d, 0, none⟩)
  c10 : D 10 → σ 10 = .pointer (some ⟨b, 0, none⟩)
  c11 : D 11 → σ 11 = .int .i64 num
  c12 : D 12 → σ 12 = .int .i64 f
  c13 : D 13 → σ 13 = .pointer (some ⟨bi, f * 4, none⟩)
  c14 : D 14 → σ 14 = .pointer (some ⟨bi, f * 4 + 1, none⟩)
  c15 : D 15 → σ 15 = .bool true
  c16 : D 16 → σ 16 = .bool true
  c17 : D 17 → σ 17 = .pointer (some ⟨d, 0, none⟩)
  c18 : D 18 → σ 18 = .pointer (some ⟨d, 0, none⟩)
  c19 : D 19 → σ 19 = .pointer (some ⟨d, 0, none⟩)
  c20 : D 20 → σ 20 = .pointer (some ⟨d, 1, none⟩)
  c21 : D 21 → σ 21 = .pointer (some ⟨d, 7, none⟩)
  c22 : D 22 → σ 22 = .string p2
  c23 : D 23 → σ 23 = .int .i64 num
  c24 : D 24 → σ 24 = .bool true
  c25 : D 25 → σ 25 = .bool true
  no : ¬ D 26
  below : Below w0.heap.size w0 w
def renBad (S : PSt) (c : PCall) : Int := match parentM S (parseM c.path).2 with
  | .error k => k
  | .ok (K1, s) => match S.ins[K1]? with
    | none => 0
    | some x1 => if hitE x1.ents s = false then 1 else codeM (parseM c.path2).1
def renameX (S : PSt) (c : PCall) (r : PRes) : Except Int (PSt × PRes) := if (parseM c.path).1 ≠ 0 then .error (codeM (parseM c.path).1) else if (parseM c.path2).1 = 0 then renameM S c r else .error (renBad S c)
set_option maxRecDepth 100000 in
set_option maxHeartbeats 8000000 in
theorem rename79x (B d b : Nat) (S : PSt) (c : PCall) (r : PRes) (w : World) (h : DoAt B w d b S c r) (hB : B ≤ w.heap.size) (hf : Fine S) (hs : Small S) (hmd : 0 < S.made.length) :
    Calls Tryz.prog 149 #[.pointer (some ⟨d, 0, none⟩)] w (RunOut B w d b c (renameX S c r)) := by
  unfold renameX
  by_cases hp : (parseM c.path).1 = 0
  rotate_left
  · rw [if_pos hp]
    have hpar1 : ∀ ww, Below w.heap.size w ww → Calls Tryz.prog 170 #[.pointer (some ⟨d, 0, none⟩), .string c.path] ww _ := fun ww hb => parent113x d b S c c.path ww (h.read.below hb (Nat.le_refl _)) hp
    obtain ⟨iv, ov, mv, nv, hBb, hBd, hD, hbk, hst, hnv⟩ := h
    have d6 : w.cell? ⟨d, 6, none⟩ = some (.string c.path) := hD.cell 6
    have iD := hD.lt
    clear hD hbk hst hnv hf hs
    go_enter Tryz.func149, Tryz.ntmps149
    go_wp2_with (first | (go_at_call 170; with_reducible refine (hpar1 _ (bel _ _)).mono ?_; rintro e w' ⟨rfl, hb⟩; obtain ⟨p, rfl⟩ := hb.rest; clear hb))
    exact ⟨rfl, (bel w _).mono hB, rfl⟩
  rw [if_neg (by simpa using hp)]
  have hpl := Nat.le_trans (parse_len hp) (show 4 ≤ 1000000000 by decide)
  by_cases hno : (parseM c.path2).1 = 0 ∧ noThr S c = true
  · rw [if_pos hno.1]
    exact rename79 B d b S c r w h hB hf hs hmd hp hpl hno.1 (Nat.le_trans (parse_len hno.1) (by decide)) hno.2
  obtain ⟨RR, hRR⟩ : ∃ RR, (if (parseM c.path2).1 = 0 then renameM S c r else .error (renBad S c)) = RR := ⟨_, rfl⟩
  rw [hRR]
  obtain ⟨bi, gm, capi, capm, ov, nv, ho⟩ := h.open_ hf.pos hmd
  have d6 : w.cell? ⟨d, 6, none⟩ = some (.string c.path) := ho.hD.cell 6
  have d7 : w.cell? ⟨d, 7, none⟩ = some (.string c.path2) := ho.hD.cell 7
  have iD := ho.hD.lt
  have iW : Bel w w := inferInstance
  obtain ⟨PM1, hPM1⟩ : ∃ PM, parentM S (parseM c.path).2 = PM := ⟨_, rfl⟩
  have hp1 := ho.parent_call hf c.path hp hpl PM1 hPM1
  have hcs : ∀ k, PM1 = .error k → RR = .error k := fun k hk => by
    rw [← hRR]
    unfold renameM renBad
    rw [hPM1, hk]
    simp
  rcases PM1 with k | ⟨K1, s⟩
  · have hRk := hcs k rfl
    subst hRk
    have hpar1 : ∀ ww, Below w.heap.size w ww → Calls Tryz.prog 170 #[.pointer (some ⟨d, 0, none⟩), .string c.path] ww fun e w' => e = thrown k ∧ Below ww.heap.size ww w' := hp1
    clear hp1 hPM1 hf hs ho h hno hRR hcs
    go_enter Tryz.func149, Tryz.ntmps149
    go_wp2_with (first | (go_at_call 170; with_reducible refine (hpar1 _ (bel _ _)).mono ?_; rintro e w' ⟨rfl, hb⟩; obtain ⟨p, rfl⟩ := hb.rest; clear hb))
    exact ⟨rfl, (bel w _).mono hB, rfl⟩
  clear hcs
  have hpar1 : ∀ ww, Below w.heap.size w ww → Calls Tryz.prog 170 #[.pointer (some ⟨d, 0, none⟩), .string c.path] ww fun e w' => e = .returned (.tuple #[.pointer (some ⟨bi, K1 * 4, none⟩), .string s]) ∧ Below ww.heap.size ww w' := hp1
  obtain ⟨x1, hx1, _⟩ := parent_ok hPM1
  obtain ⟨ea1, ec1, hI1⟩ := ho.ino hs hx1
  have hent1 := fun ww hb => hI1.ent ww s hb
  have a2 := hI1.y2
  have iBi := hI1.iB
  by_cases hhit : hitE x1.ents s = false
  · have hRk : RR = .error 1 := by
      rw [← hRR]
      unfold renameM renBad renFrom
      rw [hPM1]
      simp [hx1, hhit]
    subst hRk
    rw [hhit] at hent1
    clear hp1 hPM1 hf hs ho h hno hRR hI1 hx1
    go_enter Tryz.func149, Tryz.ntmps149
    go_wp2_with (first | (go_at_call 170; with_reducible refine (hpar1 _ (bel _ _)).mono ?_; rintro e w' ⟨rfl, hb⟩; obtain ⟨p, rfl⟩ := hb.rest; clear hb) | (go_at_call 171; with_reducible refine (hent1 _ (bel _ _)).mono ?_; rintro e w' ⟨rfl, hb⟩; obtain ⟨p, rfl⟩ := hb.rest; clear hb) | (go_at_call 172; with_reducible refine (throw_yes _ _).mono ?_; rintro e w' ⟨rfl, hb⟩; obtain ⟨p, rfl⟩ := hb.rest; clear hb))
    exact ⟨rfl, (bel w _).mono hB, rfl⟩
  have hhit : hitE x1.ents s = true := by simpa using hhit
  have hqt := hitE_lt hhit
  rw [hhit] at hent1
  obtain ⟨e1, he1⟩ : ∃ e, x1.ents[bsE x1.ents s]? = some e := ⟨_, List.getElem?_eq_getElem hqt⟩
  obtain ⟨q, hq⟩ : ∃ q, bsE x1.ents s = q := ⟨_, rfl⟩
  simp only [hq] at hent1 hqt
  have hqI : (q : Int) < x1.ents.length := by omega
  obtain ⟨a', c', he', hat'⟩ := hI1.row.at_
  simp only [List.length_map, Value.slice.injEq] at he'
  obtain ⟨rfl, -, rfl⟩ := he'
  obtain ⟨be, oe, rfl, iE0, -, hce⟩ := hat' w (Below.refl _ _) q e1.cells (by rw [List.getElem?_map, ← hq, he1]; rfl)
  have n1 := hce 1 _ rfl
  obtain ⟨PM2, hPM2⟩ : ∃ PM, parX S c.path2 = PM := ⟨_, rfl⟩
  have hp2' := ho.parX_call hf c.path2 PM2 hPM2
  rcases PM2 with k | ⟨K2, t⟩
  · have hRk : RR = .error k := by
      rw [← hRR]
      unfold parX at hPM2
      by_cases h2 : (parseM c.path2).1 = 0
      · rw [if_pos h2]
        rw [if_neg (by simpa using h2)] at hPM2
        unfold renameM renFrom
        rw [hPM1]
        simp [hx1, hhit, he1, hPM2]
      · rw [if_neg h2]
        rw [if_pos h2] at hPM2
        cases hPM2
        unfold renBad
        rw [hPM1]
        simp [hx1, hhit]
    subst hRk
    have hpar2 : ∀ ww, Below w.heap.size w ww → Calls Tryz.prog 170 #[.pointer (some ⟨d, 0, none⟩), .string c.path2] ww fun e w' => e = thrown k ∧ Below ww.heap.size ww w' := hp2'
    clear hp1 hp2' hPM1 hPM2 hf hs ho h hno hRR hI1 hx1 hat' hce he1 hhit hq
    go_enter Tryz.func149, Tryz.ntmps149
    go_wp2_with (first | (go_at_call 170; with_reducible refine (hpar1 _ (bel _ _)).mono ?_; rintro e w' ⟨rfl, hb⟩; obtain ⟨p, rfl⟩ := hb.rest; clear hb) | (go_at_call 171; with_reducible refine (hent1 _ (bel _ _)).mono ?_; rintro e w' ⟨rfl, hb⟩; obtain ⟨p, rfl⟩ := hb.rest; clear hb) | (go_at_call 172; with_reducible refine (throw_no _ _).mono ?_; rintro e w' ⟨rfl, hb⟩; obtain ⟨p, rfl⟩ := hb.rest; clear hb) | (go_at_call 170; with_reducible refine (hpar2 _ (bel _ _)).mono ?_; rintro e w' ⟨rfl, hb⟩; obtain ⟨p, rfl⟩ := hb.rest; clear hb))
    exact ⟨rfl, (bel w _).mono hB, rfl⟩
  have hpar2 : ∀ ww, Below w.heap.size w ww → Calls Tryz.prog 170 #[.pointer (some ⟨d, 0, none⟩), .string c.path2] ww fun e w' => e = .returned (.tuple #[.pointer (some ⟨bi, K2 * 4, none⟩), .string t]) ∧ Below ww.heap.size ww w' := hp2'
  obtain ⟨hp2, hPM2'⟩ : (parseM c.path2).1 = 0 ∧ parentM S (parseM c.path2).2 = .ok (K2, t) := by
    unfold parX at hPM2
    by_cases h2 : (parseM c.path2).1 = 0
    · rw [if_neg (by simpa using h2)] at hPM2
      exact ⟨h2, hPM2⟩
    · rw [if_pos h2] at hPM2
      cases hPM2
  have hth : (dirB S e1.num && thruM S (parseM c.path2).2 e1.num) = true := by
    have h0 : ¬ noThr S c = true := fun h => hno ⟨hp2, h⟩
    unfold noThr at h0
    rw [hPM1] at h0
    simp only [hx1, he1] at h0
    generalize dirB S e1.num = x at h0 ⊢
    generalize thruM S (parseM c.path2).2 e1.num = y at h0 ⊢
    revert h0
    rcases x with _ | _ <;> rcases y with _ | _ <;> simp
  have hRk : RR = .error 9 := by
    rw [← hRR, if_pos hp2]
    unfold renameM renFrom
    rw [hPM1]
    simp only [hx1, hhit, he1, hPM2', hth]
    simp
  subst hRk
  simp only [Bool.and_eq_true] at hth
  have hfb := findN_bounds S.nums e1.num
  have hf0 := hf.find x1 (List.mem_of_getElem? hx1) e1 (List.mem_of_getElem? he1)
  have hnl : S.nums.length = S.ins.length := by unfold PSt.nums; rw [List.length_map]
  obtain ⟨f, hfv⟩ : ∃ f : Nat, findN S.nums e1.num = f := ⟨(findN S.nums e1.num).toNat, by omega⟩
  have hfl : f < S.ins.length := by omega
  have hflI : (f : Int) < S.ins.length := by omega
  obtain ⟨xf, hxf⟩ : ∃ xf, S.ins[f]? = some xf := ⟨_, List.getElem?_eq_getElem hfl⟩
  obtain ⟨eaf, ecf, hIf⟩ := ho.ino hs hxf
  have f1 := hIf.y1
  have hdb : xf.dir = true := by
    have := hth.1
    unfold dirB at this
    rw [hfv, Int.toNat_natCast, hxf] at this
    exact this
  rw [hdb] at f1
  have hDR := ho.at_.read
  have hsp := hDR.sp
  have HF : ∀ ww, Below w.heap.size w ww → Calls Tryz.prog 102 #[.pointer (some ⟨b, 0, none⟩), .int .i64 e1.num] ww fun e w' => e = .returned (.int .i64 f) ∧ Below ww.heap.size ww w' := fun ww hb => by have := find_sp b S e1.num ww (hsp.below hb (Nat.le_refl _)) hf.wf; rw [hfv] at this; exact this
  have HT : ∀ ww, Below w.heap.size w ww → Calls Tryz.prog 188 #[.pointer (some ⟨d, 0, none⟩), .string c.path2, .int .i64 e1.num] ww fun e w' => e = .returned (.bool true) ∧ Below ww.heap.size ww w' := fun ww hb => by have := through131 d b S c c.path2 e1.num ww (hDR.below hb (Nat.le_refl _)) hf hp2 (Nat.le_trans (parse_len hp2) (by decide)); rw [hth.2] at this; exact this
  have d0 : w.cell? ⟨d, 0, none⟩ = some (.pointer (some ⟨b, 0, none⟩)) := ho.hD.cell 0
  have b0 : w.cell? ⟨b, 0, none⟩ = some (.slice (some ⟨bi, 0, none⟩) S.ins.length capi) := ho.hb.cell 0
  have iBk := ho.hb.lt
  have HH := Lib.hid (And.intro d0 (And.intro b0 (And.intro f1 (And.intro d7 (And.intro HF HT)))))
  clear hp1 hp2' hPM1 hPM2 hPM2' hf hs ho h hno hRR hI1 hx1 hat' hce he1 hhit hq hIf hxf hfv hfb hf0 hth hDR hsp HF HT d0 b0 f1
  generalize e1.num = num at n1 HH
  go_enter Tryz.func149, Tryz.ntmps149
  go_upto_region 5 with (first | (go_at_call 170; with_reducible refine (hpar1 _ (bel _ _)).mono ?_; rintro e w' ⟨rfl, hb⟩; obtain ⟨p, rfl⟩ := hb.rest; clear hb) | (go_at_call 171; with_reducible refine (hent1 _ (bel _ _)).mono ?_; rintro e w' ⟨rfl, hb⟩; obtain ⟨p, rfl⟩ := hb.rest; clear hb) | (go_at_call 172; with_reducible refine (throw_no _ _).mono ?_; rintro e w' ⟨rfl, hb⟩; obtain ⟨p, rfl⟩ := hb.rest; clear hb) | (go_at_call 170; with_reducible refine (hpar2 _ (bel _ _)).mono ?_; rintro e w' ⟨rfl, hb⟩; obtain ⟨p, rfl⟩ := hb.rest; clear hb))
  refine abs_world (F := fun wz => Below w.heap.size w wz) (bel _ _) ?_
  intro wz hbz
  have z0 := (hbz.cell (p := ⟨d, 0, none⟩) iD.lt).trans HH.out.1
  have zb := (hbz.cell (p := ⟨b, 0, none⟩) iBk.lt).trans HH.out.2.1
  have zf := (hbz.cell (p := ⟨bi, f * 4 + 1, none⟩) iBi.lt).trans HH.out.2.2.1
  have z7 := (hbz.cell (p := ⟨d, 7, none⟩) iD.lt).trans HH.out.2.2.2.1
  have hfnd : ∀ ww, Below wz.heap.size wz ww → _ := fun ww hb => HH.out.2.2.2.2.1 ww (hbz.trans (hb.mono hbz.size))
  have hthr : ∀ ww, Below wz.heap.size wz ww → _ := fun ww hb => HH.out.2.2.2.2.2 ww (hbz.trans (hb.mono hbz.size))
  have hBz : Below B w wz := hbz.mono hB
  have jD := Nat.lt_of_lt_of_le iD.lt hbz.size
  have jB := Nat.lt_of_lt_of_le iBk.lt hbz.size
  have jI := Nat.lt_of_lt_of_le iBi.lt hbz.size
  refine wp_region_invW (R5x d b bi S.ins.length capi f num c.path2 wz) (by kernel_rfl) (by kernel_rfl) (by kernel_rfl) ?_ ?_ ?_
  · intro σ
    have no : ∀ {k : Nat}, k < 27 → ∀ {p : Prop}, 27 ≤ k → p := fun h _ h2 => absurd h2 (by omega)
    exact ⟨no (by decide), no (by decide), no (by decide), no (by decide), no (by decide), no (by decide), no (by decide), no (by decide), no (by decide), no (by decide), no (by decide), no (by decide), no (by decide), no (by decide), no (by decide), no (by decide), no (by decide), no (by decide), no (by decide), no (by decide), no (by decide), no (by decide), no (by decide), no (by decide), no (by decide), no (by decide), no (by decide), bel wz _⟩
  · refine ⟨?_, ?_, ?_, ?_, ?_, ?_, ?_, ?_, ?_, ?_, ?_, ?_, ?_, ?_, ?_, ?_, ?_, ?_, ?_, ?_, ?_, ?_, ?_, ?_, ?_, ?_, ?_, trivial⟩
    · intro D σ w1 a hnd hw hR hin hout hdf
      refine ⟨fun _ => ?_, fun h => absurd h (by simp [Region.wanted])⟩
      have e0 : (a.tmps[0]?).getD undef = .pointer (some ⟨d, 0, none⟩) := (evT a 0).symm.trans ((hout 0 (by kernel_rfl)).trans (by kernel_rfl))
      refine Oper.wpW (eff_v (v := .pointer (some ⟨d, 0, none⟩)) ?_ ⟨fun _ => rfl, fun h => hR.c1 (h.resolve_left (by decide)), fun h => hR.c2 (h.resolve_left (by decide)), fun h => hR.c3 (h.resolve_left (by decide)), fun h => hR.c4 (h.resolve_left (by decide)), fun h => hR.c5 (h.resolve_left (by decide)), fun h => hR.c6 (h.resolve_left (by decide)), fun h => hR.c7 (h.resolve_left (by decide)), fun h => hR.c8 (h.resolve_left (by decide)), fun h => hR.c9 (h.resolve_left (by decide)), fun h => hR.c10 (h.resolve_left (by decide)), fun h => hR.c11 (h.resolve_left (by decide)), fun h => hR.c12 (h.resolve_left (by decide)), fun h => hR.c13 (h.resolve_left (by decide)), fun h => hR.c14 (h.resolve_left (by decide)), fun h => hR.c15 (h.resolve_left (by decide)), fun h => hR.c16 (h.resolve_left (by decide)), fun h => hR.c17 (h.resolve_left (by decide)), fun h => hR.c18 (h.resolve_left (by decide)), fun h => hR.c19 (h.resolve_left (by decide)), fun h => hR.c20 (h.resolve_left (by decide)), fun h => hR.c21 (h.resolve_left (by decide)), fun h => hR.c22 (h.resolve_left (by decide)), fun h => hR.c23 (h.resolve_left (by decide)), fun h => hR.c24 (h.resolve_left (by decide)), fun h => hR.c25 (h.resolve_left (by decide)), fun h => hR.no (h.resolve_left (by decide)), hR.below⟩)
      clear hin hout hw
      go_simp
      first | done | rfl
    · intro D σ w1 a hnd hw hR hin hout hdf
      refine ⟨fun _ => ?_, fun h => absurd h (by simp [Region.wanted])⟩
      have e50 : (a.tmps[50]?).getD undef = .pointer (some ⟨d, 0, none⟩) := (evT a 50).symm.trans ((hin 0 _ 50 rfl rfl).trans (hR.c0 (hw 0 (by kernel_rfl))))
      refine Oper.wpW (eff_v (v := .pointer (some ⟨d, 0, none⟩)) ?_ ⟨fun h => hR.c0 (h.resolve_left (by decide)), fun _ => rfl, fun h => hR.c2 (h.resolve_left (by decide)), fun h => hR.c3 (h.resolve_left (by decide)), fun h => hR.c4 (h.resolve_left (by decide)), fun h => hR.c5 (h.resolve_left (by decide)), fun h => hR.c6 (h.resolve_left (by decide)), fun h => hR.c7 (h.resolve_left (by decide)), fun h => hR.c8 (h.resolve_left (by decide)), fun h => hR.c9 (h.resolve_left (by decide)), fun h => hR.c10 (h.resolve_left (by decide)), fun h => hR.c11 (h.resolve_left (by decide)), fun h => hR.c12 (h.resolve_left (by decide)), fun h => hR.c13 (h.resolve_left (by decide)), fun h => hR.c14 (h.resolve_left (by decide)), fun h => hR.c15 (h.resolve_left (by decide)), fun h => hR.c16 (h.resolve_left (by decide)), fun h => hR.c17 (h.resolve_left (by decide)), fun h => hR.c18 (h.resolve_left (by decide)), fun h => hR.c19 (h.resolve_left (by decide)), fun h => hR.c20 (h.resolve_left (by decide)), fun h => hR.c21 (h.resolve_left (by decide)), fun h => hR.c22 (h.resolve_left (by decide)), fun h => hR.c23 (h.resolve_left (by decide)), fun h => hR.c24 (h.resolve_left (by decide)), fun h => hR.c25 (h.resolve_left (by decide)), fun h => hR.no (h.resolve_left (by decide)), hR.below⟩)
      clear hin hout hw
      go_simp
      first | done | rfl
    · intro D σ w1 a hnd hw hR hin hout hdf
      refine ⟨fun _ => ?_, fun h => absurd h (by simp [Region.wanted])⟩
      have e51 : (a.tmps[51]?).getD undef = .pointer (some ⟨d, 0, none⟩) := (evT a 51).symm.trans ((hin 1 _ 51 rfl rfl).trans (hR.c1 (hw 1 (by kernel_rfl))))
      refine Oper.wpW (eff_v (v := .pointer (some ⟨d, 0, none⟩)) ?_ ⟨fun h => hR.c0 (h.resolve_left (by decide)), fun h => hR.c1 (h.resolve_left (by decide)), fun _ => rfl, fun h => hR.c3 (h.resolve_left (by decide)), fun h => hR.c4 (h.resolve_left (by decide)), fun h => hR.c5 (h.resolve_left (by decide)), fun h => hR.c6 (h.resolve_left (by decide)), fun h => hR.c7 (h.resolve_left (by decide)), fun h => hR.c8 (h.resolve_left (by decide)), fun h => hR.c9 (h.resolve_left (by decide)), fun h => hR.c10 (h.resolve_left (by decide)), fun h => hR.c11 (h.resolve_left (by decide)), fun h => hR.c12 (h.resolve_left (by decide)), fun h => hR.c13 (h.resolve_left (by decide)), fun h => hR.c14 (h.resolve_left (by decide)), fun h => hR.c15 (h.resolve_left (by decide)), fun h => hR.c16 (h.resolve_left (by decide)), fun h => hR.c17 (h.resolve_left (by decide)), fun h => hR.c18 (h.resolve_left (by decide)), fun h => hR.c19 (h.resolve_left (by decide)), fun h => hR.c20 (h.resolve_left (by decide)), fun h => hR.c21 (h.resolve_left (by decide)), fun h => hR.c22 (h.resolve_left (by decide)), fun h => hR.c23 (h.resolve_left (by decide)), fun h => hR.c24 (h.resolve_left (by decide)), fun h => hR.c25 (h.resolve_left (by decide)), fun h => hR.no (h.resolve_left (by decide)), hR.below⟩)
      clear hin hout hw
      go_simp
      first | done | rfl
    · intro D σ w1 a hnd hw hR hin hout hdf
      refine ⟨fun _ => ?_, fun h => absurd h (by simp [Region.wanted])⟩
      have e52 : (a.tmps[52]?).getD undef = .pointer (some ⟨d, 0, none⟩) := (evT a 52).symm.trans ((hin 2 _ 52 rfl rfl).trans (hR.c2 (hw 2 (by kernel_rfl))))
      have hl := (hR.below.cell (by exact jD)).trans z0
      have iX : BlockLt d w1 := ⟨Nat.lt_of_lt_of_le jD hR.below.size⟩
      refine Oper.wpW (eff_v (v := .pointer (some ⟨b, 0, none⟩)) ?_ ⟨fun h => hR.c0 (h.resolve_left (by decide)), fun h => hR.c1 (h.resolve_left (by decide)), fun h => hR.c2 (h.resolve_left (by decide)), fun _ => rfl, fun h => hR.c4 (h.resolve_left (by decide)), fun h => hR.c5 (h.resolve_left (by decide)), fun h => hR.c6 (h.resolve_left (by decide)), fun h => hR.c7 (h.resolve_left (by decide)), fun h => hR.c8 (h.resolve_left (by decide)), fun h => hR.c9 (h.resolve_left (by decide)), fun h => hR.c10 (h.resolve_left (by decide)), fun h => hR.c11 (h.resolve_left (by decide)), fun h => hR.c12 (h.resolve_left (by decide)), fun h => hR.c13 (h.resolve_left (by decide)), fun h => hR.c14 (h.resolve_left (by decide)), fun h => hR.c15 (h.resolve_left (by decide)), fun h => hR.c16 (h.resolve_left (by decide)), fun h => hR.c17 (h.resolve_left (by decide)), fun h => hR.c18 (h.resolve_left (by decide)), fun h => hR.c19 (h.resolve_left (by decide)), fun h => hR.c20 (h.resolve_left (by decide)), fun h => hR.c21 (h.resolve_left (by decide)), fun h => hR.c22 (h.resolve_left (by decide)), fun h => hR.c23 (h.resolve_left (by decide)), fun h => hR.c24 (h.resolve_left (by decide)), fun h => hR.c25 (h.resolve_left (by decide)), fun h => hR.no (h.resolve_left (by decide)), hR.below⟩)
      clear hin hout hw
      go_simp
      first | done | rfl
    · intro D σ w1 a hnd hw hR hin hout hdf
      refine ⟨fun _ => ?_, fun h => absurd h (by simp [Region.wanted])⟩
      have e53 : (a.tmps[53]?).getD undef = .pointer (some ⟨b, 0, none⟩) := (evT a 53).symm.trans ((hin 3 _ 53 rfl rfl).trans (hR.c3 (hw 3 (by kernel_rfl))))
      refine Oper.wpW (eff_v (v := .pointer (some ⟨b, 0, none⟩)) ?_ ⟨fun h => hR.c0 (h.resolve_left (by decide)), fun h => hR.c1 (h.resolve_left (by decide)), fun h => hR.c2 (h.resolve_left (by decide)), fun h => hR.c3 (h.resolve_left (by decide)), fun _ => rfl, fun h => hR.c5 (h.resolve_left (by decide)), fun h => hR.c6 (h.resolve_left (by decide)), fun h => hR.c7 (h.resolve_left (by decide)), fun h => hR.c8 (h.resolve_left (by decide)), fun h => hR.c9 (h.resolve_left (by decide)), fun h => hR.c10 (h.resolve_left (by decide)), fun h => hR.c11 (h.resolve_left (by decide)), fun h => hR.c12 (h.resolve_left (by decide)), fun h => hR.c13 (h.resolve_left (by decide)), fun h => hR.c14 (h.resolve_left (by decide)), fun h => hR.c15 (h.resolve_left (by decide)), fun h => hR.c16 (h.resolve_left (by decide)), fun h => hR.c17 (h.resolve_left (by decide)), fun h => hR.c18 (h.resolve_left (by decide)), fun h => hR.c19 (h.resolve_left (by decide)), fun h => hR.c20 (h.resolve_left (by decide)), fun h => hR.c21 (h.resolve_left (by decide)), fun h => hR.c22 (h.resolve_left (by decide)), fun h => hR.c23 (h.resolve_left (by decide)), fun h => hR.c24 (h.resolve_left (by decide)), fun h => hR.c25 (h.resolve_left (by decide)), fun h => hR.no (h.resolve_left (by decide)), hR.below⟩)
      clear hin hout hw
      go_simp
      first | done | rfl
    · intro D σ w1 a hnd hw hR hin hout hdf
      refine ⟨fun _ => ?_, fun h => absurd h (by simp [Region.wanted])⟩
      have e54 : (a.tmps[54]?).getD undef = .pointer (some ⟨b, 0, none⟩) := (evT a 54).symm.trans ((hin 4 _ 54 rfl rfl).trans (hR.c4 (hw 4 (by kernel_rfl))))
      refine Oper.wpW (eff_v (v := .pointer (some ⟨b, 0, none⟩)) ?_ ⟨fun h => hR.c0 (h.resolve_left (by decide)), fun h => hR.c1 (h.resolve_left (by decide)), fun h => hR.c2 (h.resolve_left (by decide)), fun h => hR.c3 (h.resolve_left (by decide)), fun h => hR.c4 (h.resolve_left (by decide)), fun _ => rfl, fun h => hR.c6 (h.resolve_left (by decide)), fun h => hR.c7 (h.resolve_left (by decide)), fun h => hR.c8 (h.resolve_left (by decide)), fun h => hR.c9 (h.resolve_left (by decide)), fun h => hR.c10 (h.resolve_left (by decide)), fun h => hR.c11 (h.resolve_left (by decide)), fun h => hR.c12 (h.resolve_left (by decide)), fun h => hR.c13 (h.resolve_left (by decide)), fun h => hR.c14 (h.resolve_left (by decide)), fun h => hR.c15 (h.resolve_left (by decide)), fun h => hR.c16 (h.resolve_left (by decide)), fun h => hR.c17 (h.resolve_left (by decide)), fun h => hR.c18 (h.resolve_left (by decide)), fun h => hR.c19 (h.resolve_left (by decide)), fun h => hR.c20 (h.resolve_left (by decide)), fun h => hR.c21 (h.resolve_left (by decide)), fun h => hR.c22 (h.resolve_left (by decide)), fun h => hR.c23 (h.resolve_left (by decide)), fun h => hR.c24 (h.resolve_left (by decide)), fun h => hR.c25 (h.resolve_left (by decide)), fun h => hR.no (h.resolve_left (by decide)), hR.below⟩)
      clear hin hout hw
      go_simp
      first | done | rfl
    · intro D σ w1 a hnd hw hR hin hout hdf
      refine ⟨fun _ => ?_, fun h => absurd h (by simp [Region.wanted])⟩
      have e55 : (a.tmps[55]?).getD undef = .pointer (some ⟨b, 0, none⟩) := (evT a 55).symm.trans ((hin 5 _ 55 rfl rfl).trans (hR.c5 (hw 5 (by kernel_rfl))))
      have hl := (hR.below.cell (by exact jB)).trans zb
      have iX : BlockLt b w1 := ⟨Nat.lt_of_lt_of_le jB hR.below.size⟩
      refine Oper.wpW (eff_v (v := .slice (some ⟨bi, 0, none⟩) S.ins.length capi) ?_ ⟨fun h => hR.c0 (h.resolve_left (by decide)), fun h => hR.c1 (h.resolve_left (by decide)), fun h => hR.c2 (h.resolve_left (by decide)), fun h => hR.c3 (h.resolve_left (by decide)), fun h => hR.c4 (h.resolve_left (by decide)), fun h => hR.c5 (h.resolve_left (by decide)), fun _ => rfl, fun h => hR.c7 (h.resolve_left (by decide)), fun h => hR.c8 (h.resolve_left (by decide)), fun h => hR.c9 (h.resolve_left (by decide)), fun h => hR.c10 (h.resolve_left (by decide)), fun h => hR.c11 (h.resolve_left (by decide)), fun h => hR.c12 (h.resolve_left (by decide)), fun h => hR.c13 (h.resolve_left (by decide)), fun h => hR.c14 (h.resolve_left (by decide)), fun h => hR.c15 (h.resolve_left (by decide)), fun h => hR.c16 (h.resolve_left (by decide)), fun h => hR.c17 (h.resolve_left (by decide)), fun h => hR.c18 (h.resolve_left (by decide)), fun h => hR.c19 (h.resolve_left (by decide)), fun h => hR.c20 (h.resolve_left (by decide)), fun h => hR.c21 (h.resolve_left (by decide)), fun h => hR.c22 (h.resolve_left (by decide)), fun h => hR.c23 (h.resolve_left (by decide)), fun h => hR.c24 (h.resolve_left (by decide)), fun h => hR.c25 (h.resolve_left (by decide)), fun h => hR.no (h.resolve_left (by decide)), hR.below⟩)
      clear hin hout hw
      go_simp
      first | done | rfl
    · intro D σ w1 a hnd hw hR hin hout hdf
      refine ⟨fun _ => ?_, fun h => absurd h (by simp [Region.wanted])⟩
      have e0 : (a.tmps[0]?).getD undef = .pointer (some ⟨d, 0, none⟩) := (evT a 0).symm.trans ((hout 0 (by kernel_rfl)).trans (by kernel_rfl))
      refine Oper.wpW (eff_v (v := .pointer (some ⟨d, 0, none⟩)) ?_ ⟨fun h => hR.c0 (h.resolve_left (by decide)), fun h => hR.c1 (h.resolve_left (by decide)), fun h => hR.c2 (h.resolve_left (by decide)), fun h => hR.c3 (h.resolve_left (by decide)), fun h => hR.c4 (h.resolve_left (by decide)), fun h => hR.c5 (h.resolve_left (by decide)), fun h => hR.c6 (h.resolve_left (by decide)), fun _ => rfl, fun h => hR.c8 (h.resolve_left (by decide)), fun h => hR.c9 (h.resolve_left (by decide)), fun h => hR.c10 (h.resolve_left (by decide)), fun h => hR.c11 (h.resolve_left (by decide)), fun h => hR.c12 (h.resolve_left (by decide)), fun h => hR.c13 (h.resolve_left (by decide)), fun h => hR.c14 (h.resolve_left (by decide)), fun h => hR.c15 (h.resolve_left (by decide)), fun h => hR.c16 (h.resolve_left (by decide)), fun h => hR.c17 (h.resolve_left (by decide)), fun h => hR.c18 (h.resolve_left (by decide)), fun h => hR.c19 (h.resolve_left (by decide)), fun h => hR.c20 (h.resolve_left (by decide)), fun h => hR.c21 (h.resolve_left (by decide)), fun h => hR.c22 (h.resolve_left (by decide)), fun h => hR.c23 (h.resolve_left (by decide)), fun h => hR.c24 (h.resolve_left (by decide)), fun h => hR.c25 (h.resolve_left (by decide)), fun h => hR.no (h.resolve_left (by decide)), hR.below⟩)
      clear hin hout hw
      go_simp
      first | done | rfl
    · intro D σ w1 a hnd hw hR hin hout hdf
      refine ⟨fun _ => ?_, fun h => absurd h (by simp [Region.wanted])⟩
      have e57 : (a.tmps[57]?).getD undef = .pointer (some ⟨d, 0, none⟩) := (evT a 57).symm.trans ((hin 7 _ 57 rfl rfl).trans (hR.c7 (hw 7 (by kernel_rfl))))
      refine Oper.wpW (eff_v (v := .pointer (some ⟨d, 0, none⟩)) ?_ ⟨fun h => hR.c0 (h.resolve_left (by decide)), fun h => hR.c1 (h.resolve_left (by decide)), fun h => hR.c2 (h.resolve_left (by decide)), fun h => hR.c3 (h.resolve_left (by decide)), fun h => hR.c4 (h.resolve_left (by decide)), fun h => hR.c5 (h.resolve_left (by decide)), fun h => hR.c6 (h.resolve_left (by decide)), fun h => hR.c7 (h.resolve_left (by decide)), fun _ => rfl, fun h => hR.c9 (h.resolve_left (by decide)), fun h => hR.c10 (h.resolve_left (by decide)), fun h => hR.c11 (h.resolve_left (by decide)), fun h => hR.c12 (h.resolve_left (by decide)), fun h => hR.c13 (h.resolve_left (by decide)), fun h => hR.c14 (h.resolve_left (by decide)), fun h => hR.c15 (h.resolve_left (by decide)), fun h => hR.c16 (h.resolve_left (by decide)), fun h => hR.c17 (h.resolve_left (by decide)), fun h => hR.c18 (h.resolve_left (by decide)), fun h => hR.c19 (h.resolve_left (by decide)), fun h => hR.c20 (h.resolve_left (by decide)), fun h => hR.c21 (h.resolve_left (by decide)), fun h => hR.c22 (h.resolve_left (by decide)), fun h => hR.c23 (h.resolve_left (by decide)), fun h => hR.c24 (h.resolve_left (by decide)), fun h => hR.c25 (h.resolve_left (by decide)), fun h => hR.no (h.resolve_left (by decide)), hR.below⟩)
      clear hin hout hw
      go_simp
      first | done | rfl
    · intro D σ w1 a hnd hw hR hin hout hdf
      refine ⟨fun _ => ?_, fun h => absurd h (by simp [Region.wanted])⟩
      have e58 : (a.tmps[58]?).getD undef = .pointer (some ⟨d, 0, none⟩) := (evT a 58).symm.trans ((hin 8 _ 58 rfl rfl).trans (hR.c8 (hw 8 (by kernel_rfl))))
      refine Oper.wpW (eff_v (v := .pointer (some ⟨d, 0, none⟩)) ?_ ⟨fun h => hR.c0 (h.resolve_left (by decide)), fun h => hR.c1 (h.resolve_left (by decide)), fun h => hR.c2 (h.resolve_left (by decide)), fun h => hR.c3 (h.resolve_left (by decide)), fun h => hR.c4 (h.resolve_left (by decide)), fun h => hR.c5 (h.resolve_left (by decide)), fun h => hR.c6 (h.resolve_left (by decide)), fun h => hR.c7 (h.resolve_left (by decide)), fun h => hR.c8 (h.resolve_left (by decide)), fun _ => rfl, fun h => hR.c10 (h.resolve_left (by decide)), fun h => hR.c11 (h.resolve_left (by decide)), fun h => hR.c12 (h.resolve_left (by decide)), fun h => hR.c13 (h.resolve_left (by decide)), fun h => hR.c14 (h.resolve_left (by decide)), fun h => hR.c15 (h.resolve_left (by decide)), fun h => hR.c16 (h.resolve_left (by decide)), fun h => hR.c17 (h.resolve_left (by decide)), fun h => hR.c18 (h.resolve_left (by decide)), fun h => hR.c19 (h.resolve_left (by decide)), fun h => hR.c20 (h.resolve_left (by decide)), fun h => hR.c21 (h.resolve_left (by decide)), fun h => hR.c22 (h.resolve_left (by decide)), fun h => hR.c23 (h.resolve_left (by decide)), fun h => hR.c24 (h.resolve_left (by decide)), fun h => hR.c25 (h.resolve_left (by decide)), fun h => hR.no (h.resolve_left (by decide)), hR.below⟩)
      clear hin hout hw
      go_simp
      first | done | rfl
    · intro D σ w1 a hnd hw hR hin hout hdf
      refine ⟨fun _ => ?_, fun h => absurd h (by simp [Region.wanted])⟩
      have e59 : (a.tmps[59]?).getD undef = .pointer (some ⟨d, 0, none⟩) := (evT a 59).symm.trans ((hin 9 _ 59 rfl rfl).trans (hR.c9 (hw 9 (by kernel_rfl))))
      have hl := (hR.below.cell (by exact jD)).trans z0
      have iX : BlockLt d w1 := ⟨Nat.lt_of_lt_of_le jD hR.below.size⟩
      refine Oper.wpW (eff_v (v := .pointer (some ⟨b, 0, none⟩)) ?_ ⟨fun h => hR.c0 (h.resolve_left (by decide)), fun h => hR.c1 (h.resolve_left (by decide)), fun h => hR.c2 (h.resolve_left (by decide)), fun h => hR.c3 (h.resolve_left (by decide)), fun h => hR.c4 (h.resolve_left (by decide)), fun h => hR.c5 (h.resolve_left (by decide)), fun h => hR.c6 (h.resolve_left (by decide)), fun h => hR.c7 (h.resolve_left (by decide)), fun h => hR.c8 (h.resolve_left (by decide)), fun h => hR.c9 (h.resolve_left (by decide)), fun _ => rfl, fun h => hR.c11 (h.resolve_left (by decide)), fun h => hR.c12 (h.resolve_left (by decide)), fun h => hR.c13 (h.resolve_left (by decide)), fun h => hR.c14 (h.resolve_left (by decide)), fun h => hR.c15 (h.resolve_left (by decide)), fun h => hR.c16 (h.resolve_left (by decide)), fun h => hR.c17 (h.resolve_left (by decide)), fun h => hR.c18 (h.resolve_left (by decide)), fun h => hR.c19 (h.resolve_left (by decide)), fun h => hR.c20 (h.resolve_left (by decide)), fun h => hR.c21 (h.resolve_left (by decide)), fun h => hR.c22 (h.resolve_left (by decide)), fun h => hR.c23 (h.resolve_left (by decide)), fun h => hR.c24 (h.resolve_left (by decide)), fun h => hR.c25 (h.resolve_left (by decide)), fun h => hR.no (h.resolve_left (by decide)), hR.below⟩)
      clear hin hout hw
      go_simp
      first | done | rfl
    · intro D σ w1 a hnd hw hR hin hout hdf
      refine ⟨fun _ => ?_, fun h => absurd h (by simp [Region.wanted])⟩
      have e6 : (a.tmps[6]?).getD undef = .int .i64 num := (evT a 6).symm.trans ((hout 6 (by kernel_rfl)).trans (by kernel_rfl))
      refine Oper.wpW (eff_v (v := .int .i64 num) ?_ ⟨fun h => hR.c0 (h.resolve_left (by decide)), fun h => hR.c1 (h.resolve_left (by decide)), fun h => hR.c2 (h.resolve_left (by decide)), fun h => hR.c3 (h.resolve_left (by decide)), fun h => hR.c4 (h.resolve_left (by decide)), fun h => hR.c5 (h.resolve_left (by decide)), fun h => hR.c6 (h.resolve_left (by decide)), fun h => hR.c7 (h.resolve_left (by decide)), fun h => hR.c8 (h.resolve_left (by decide)), fun h => hR.c9 (h.resolve_left (by decide)), fun h => hR.c10 (h.resolve_left (by decide)), fun _ => rfl, fun h => hR.c12 (h.resolve_left (by decide)), fun h => hR.c13 (h.resolve_left (by decide)), fun h => hR.c14 (h.resolve_left (by decide)), fun h => hR.c15 (h.resolve_left (by decide)), fun h => hR.c16 (h.resolve_left (by decide)), fun h => hR.c17 (h.resolve_left (by decide)), fun h => hR.c18 (h.resolve_left (by decide)), fun h => hR.c19 (h.resolve_left (by decide)), fun h => hR.c20 (h.resolve_left (by decide)), fun h => hR.c21 (h.resolve_left (by decide)), fun h => hR.c22 (h.resolve_left (by decide)), fun h => hR.c23 (h.resolve_left (by decide)), fun h => hR.c24 (h.resolve_left (by decide)), fun h => hR.c25 (h.resolve_left (by decide)), fun h => hR.no (h.resolve_left (by decide)), hR.below⟩)
      clear hin hout hw
      go_simp
      first | done | rfl
    · intro D σ w1 a hnd hw hR hin hout hdf
      refine ⟨fun _ => ?_, fun h => absurd h (by simp [Region.wanted])⟩
      have e60 : (a.tmps[60]?).getD undef = .pointer (some ⟨b, 0, none⟩) := (evT a 60).symm.trans ((hin 10 _ 60 rfl rfl).trans (hR.c10 (hw 10 (by kernel_rfl))))
      have e61 : (a.tmps[61]?).getD undef = .int .i64 num := (evT a 61).symm.trans ((hin 11 _ 61 rfl rfl).trans (hR.c11 (hw 11 (by kernel_rfl))))
      refine Oper.wpW (eff_call 102 #[.pointer (some ⟨b, 0, none⟩), .int .i64 num] ?_ ((hfnd w1 hR.below).mono ?_))
      · clear hin hout hw
        go_simp
        first | done | rfl
      · rintro e w' ⟨rfl, hqb⟩
        exact ⟨_, rfl, ⟨fun h => hR.c0 (h.resolve_left (by decide)), fun h => hR.c1 (h.resolve_left (by decide)), fun h => hR.c2 (h.resolve_left (by decide)), fun h => hR.c3 (h.resolve_left (by decide)), fun h => hR.c4 (h.resolve_left (by decide)), fun h => hR.c5 (h.resolve_left (by decide)), fun h => hR.c6 (h.resolve_left (by decide)), fun h => hR.c7 (h.resolve_left (by decide)), fun h => hR.c8 (h.resolve_left (by decide)), fun h => hR.c9 (h.resolve_left (by decide)), fun h => hR.c10 (h.resolve_left (by decide)), fun h => hR.c11 (h.resolve_left (by decide)), fun _ => rfl, fun h => hR.c13 (h.resolve_left (by decide)), fun h => hR.c14 (h.resolve_left (by decide)), fun h => hR.c15 (h.resolve_left (by decide)), fun h => hR.c16 (h.resolve_left (by decide)), fun h => hR.c17 (h.resolve_left (by decide)), fun h => hR.c18 (h.resolve_left (by decide)), fun h => hR.c19 (h.resolve_left (by decide)), fun h => hR.c20 (h.resolve_left (by decide)), fun h => hR.c21 (h.resolve_left (by decide)), fun h => hR.c22 (h.resolve_left (by decide)), fun h => hR.c23 (h.resolve_left (by decide)), fun h => hR.c24 (h.resolve_left (by decide)), fun h => hR.c25 (h.resolve_left (by decide)), fun h => hR.no (h.resolve_left (by decide)), hR.below.trans (hqb.mono hR.below.size)⟩⟩
    · intro D σ w1 a hnd hw hR hin hout hdf
      refine ⟨fun _ => ?_, fun h => absurd h (by simp [Region.wanted])⟩
      have e56 : (a.tmps[56]?).getD undef = .slice (some ⟨bi, 0, none⟩) S.ins.length capi := (evT a 56).symm.trans ((hin 6 _ 56 rfl rfl).trans (hR.c6 (hw 6 (by kernel_rfl))))
      have e62 : (a.tmps[62]?).getD undef = .int .i64 f := (evT a 62).symm.trans ((hin 12 _ 62 rfl rfl).trans (hR.c12 (hw 12 (by kernel_rfl))))
      refine Oper.wpW (eff_v (v := .pointer (some ⟨bi, f * 4, none⟩)) ?_ ⟨fun h => hR.c0 (h.resolve_left (by decide)), fun h => hR.c1 (h.resolve_left (by decide)), fun h => hR.c2 (h.resolve_left (by decide)), fun h => hR.c3 (h.resolve_left (by decide)), fun h => hR.c4 (h.resolve_left (by decide)), fun h => hR.c5 (h.resolve_left (by decide)), fun h => hR.c6 (h.resolve_left (by decide)), fun h => hR.c7 (h.resolve_left (by decide)), fun h => hR.c8 (h.resolve_left (by decide)), fun h => hR.c9 (h.resolve_left (by decide)), fun h => hR.c10 (h.resolve_left (by decide)), fun h => hR.c11 (h.resolve_left (by decide)), fun h => hR.c12 (h.resolve_left (by decide)), fun _ => rfl, fun h => hR.c14 (h.resolve_left (by decide)), fun h => hR.c15 (h.resolve_left (by decide)), fun h => hR.c16 (h.resolve_left (by decide)), fun h => hR.c17 (h.resolve_left (by decide)), fun h => hR.c18 (h.resolve_left (by decide)), fun h => hR.c19 (h.resolve_left (by decide)), fun h => hR.c20 (h.resolve_left (by decide)), fun h => hR.c21 (h.resolve_left (by decide)), fun h => hR.c22 (h.resolve_left (by decide)), fun h => hR.c23 (h.resolve_left (by decide)), fun h => hR.c24 (h.resolve_left (by decide)), fun h => hR.c25 (h.resolve_left (by decide)), fun h => hR.no (h.resolve_left (by decide)), hR.below⟩)
      clear hin hout hw
      go_simp
      first | done | rfl
    · intro D σ w1 a hnd hw hR hin hout hdf
      refine ⟨fun _ => ?_, fun h => absurd h (by simp [Region.wanted])⟩
      have e63 : (a.tmps[63]?).getD undef = .pointer (some ⟨bi, f * 4, none⟩) := (evT a 63).symm.trans ((hin 13 _ 63 rfl rfl).trans (hR.c13 (hw 13 (by kernel_rfl))))
      refine Oper.wpW (eff_v (v := .pointer (some ⟨bi, f * 4 + 1, none⟩)) ?_ ⟨fun h => hR.c0 (h.resolve_left (by decide)), fun h => hR.c1 (h.resolve_left (by decide)), fun h => hR.c2 (h.resolve_left (by decide)), fun h => hR.c3 (h.resolve_left (by decide)), fun h => hR.c4 (h.resolve_left (by decide)), fun h => hR.c5 (h.resolve_left (by decide)), fun h => hR.c6 (h.resolve_left (by decide)), fun h => hR.c7 (h.resolve_left (by decide)), fun h => hR.c8 (h.resolve_left (by decide)), fun h => hR.c9 (h.resolve_left (by decide)), fun h => hR.c10 (h.resolve_left (by decide)), fun h => hR.c11 (h.resolve_left (by decide)), fun h => hR.c12 (h.resolve_left (by decide)), fun h => hR.c13 (h.resolve_left (by decide)), fun _ => rfl, fun h => hR.c15 (h.resolve_left (by decide)), fun h => hR.c16 (h.resolve_left (by decide)), fun h => hR.c17 (h.resolve_left (by decide)), fun h => hR.c18 (h.resolve_left (by decide)), fun h => hR.c19 (h.resolve_left (by decide)), fun h => hR.c20 (h.resolve_left (by decide)), fun h => hR.c21 (h.resolve_left (by decide)), fun h => hR.c22 (h.resolve_left (by decide)), fun h => hR.c23 (h.resolve_left (by decide)), fun h => hR.c24 (h.resolve_left (by decide)), fun h => hR.c25 (h.resolve_left (by decide)), fun h => hR.no (h.resolve_left (by decide)), hR.below⟩)
      clear hin hout hw
      go_simp
      first | done | rfl
    · intro D σ w1 a hnd hw hR hin hout hdf
      refine ⟨fun _ => ?_, fun h => absurd h (by simp [Region.wanted])⟩
      have e64 : (a.tmps[64]?).getD undef = .pointer (some ⟨bi, f * 4 + 1, none⟩) := (evT a 64).symm.trans ((hin 14 _ 64 rfl rfl).trans (hR.c14 (hw 14 (by kernel_rfl))))
      have hl := (hR.below.cell (by exact jI)).trans zf
      have iX : BlockLt bi w1 := ⟨Nat.lt_of_lt_of_le jI hR.below.size⟩
      refine Oper.wpW (eff_v (v := .bool true) ?_ ⟨fun h => hR.c0 (h.resolve_left (by decide)), fun h => hR.c1 (h.resolve_left (by decide)), fun h => hR.c2 (h.resolve_left (by decide)), fun h => hR.c3 (h.resolve_left (by decide)), fun h => hR.c4 (h.resolve_left (by decide)), fun h => hR.c5 (h.resolve_left (by decide)), fun h => hR.c6 (h.resolve_left (by decide)), fun h => hR.c7 (h.resolve_left (by decide)), fun h => hR.c8 (h.resolve_left (by decide)), fun h => hR.c9 (h.resolve_left (by decide)), fun h => hR.c10 (h.resolve_left (by decide)), fun h => hR.c11 (h.resolve_left (by decide)), fun h => hR.c12 (h.resolve_left (by decide)), fun h => hR.c13 (h.resolve_left (by decide)), fun h => hR.c14 (h.resolve_left (by decide)), fun _ => rfl, fun h => hR.c16 (h.resolve_left (by decide)), fun h => hR.c17 (h.resolve_left (by decide)), fun h => hR.c18 (h.resolve_left (by decide)), fun h => hR.c19 (h.resolve_left (by decide)), fun h => hR.c20 (h.resolve_left (by decide)), fun h => hR.c21 (h.resolve_left (by decide)), fun h => hR.c22 (h.resolve_left (by decide)), fun h => hR.c23 (h.resolve_left (by decide)), fun h => hR.c24 (h.resolve_left (by decide)), fun h => hR.c25 (h.resolve_left (by decide)), fun h => hR.no (h.resolve_left (by decide)), hR.below⟩)
      clear hin hout hw
      go_simp
      first | done | rfl
    · intro D σ w1 a hnd hw hR hin hout hdf
      refine ⟨fun _ => ?_, fun h => absurd h (by simp [Region.wanted])⟩
      have e65 : (a.tmps[65]?).getD undef = .bool true := (evT a 65).symm.trans ((hin 15 _ 65 rfl rfl).trans (hR.c15 (hw 15 (by kernel_rfl))))
      refine Oper.wpW (eff_v (v := .bool true) ?_ ⟨fun h => hR.c0 (h.resolve_left (by decide)), fun h => hR.c1 (h.resolve_left (by decide)), fun h => hR.c2 (h.resolve_left (by decide)), fun h => hR.c3 (h.resolve_left (by decide)), fun h => hR.c4 (h.resolve_left (by decide)), fun h => hR.c5 (h.resolve_left (by decide)), fun h => hR.c6 (h.resolve_left (by decide)), fun h => hR.c7 (h.resolve_left (by decide)), fun h => hR.c8 (h.resolve_left (by decide)), fun h => hR.c9 (h.resolve_left (by decide)), fun h => hR.c10 (h.resolve_left (by decide)), fun h => hR.c11 (h.resolve_left (by decide)), fun h => hR.c12 (h.resolve_left (by decide)), fun h => hR.c13 (h.resolve_left (by decide)), fun h => hR.c14 (h.resolve_left (by decide)), fun h => hR.c15 (h.resolve_left (by decide)), fun _ => rfl, fun h => hR.c17 (h.resolve_left (by decide)), fun h => hR.c18 (h.resolve_left (by decide)), fun h => hR.c19 (h.resolve_left (by decide)), fun h => hR.c20 (h.resolve_left (by decide)), fun h => hR.c21 (h.resolve_left (by decide)), fun h => hR.c22 (h.resolve_left (by decide)), fun h => hR.c23 (h.resolve_left (by decide)), fun h => hR.c24 (h.resolve_left (by decide)), fun h => hR.c25 (h.resolve_left (by decide)), fun h => hR.no (h.resolve_left (by decide)), hR.below⟩)
      clear hin hout hw
      go_simp
      first | done | rfl
    · intro D σ w1 a hnd hw hR hin hout hdf
      have eg : a.eval (.tmp 66) = .bool true := (hin 16 _ 66 rfl rfl).trans (hR.c16 (hw 16 (by kernel_rfl)))
      have ey := yieldedX_of (j := 16) (d := 66) eg
      refine ⟨fun _ => ?_, fun e => by simp only [Region.wanted] at e; rw [ey _ _ rfl rfl] at e; cases e⟩
      have e0 : (a.tmps[0]?).getD undef = .pointer (some ⟨d, 0, none⟩) := (evT a 0).symm.trans ((hout 0 (by kernel_rfl)).trans (by kernel_rfl))
      refine Oper.wpW (eff_v (v := .pointer (some ⟨d, 0, none⟩)) ?_ ⟨fun h => hR.c0 (h.resolve_left (by decide)), fun h => hR.c1 (h.resolve_left (by decide)), fun h => hR.c2 (h.resolve_left (by decide)), fun h => hR.c3 (h.resolve_left (by decide)), fun h => hR.c4 (h.resolve_left (by decide)), fun h => hR.c5 (h.resolve_left (by decide)), fun h => hR.c6 (h.resolve_left (by decide)), fun h => hR.c7 (h.resolve_left (by decide)), fun h => hR.c8 (h.resolve_left (by decide)), fun h => hR.c9 (h.resolve_left (by decide)), fun h => hR.c10 (h.resolve_left (by decide)), fun h => hR.c11 (h.resolve_left (by decide)), fun h => hR.c12 (h.resolve_left (by decide)), fun h => hR.c13 (h.resolve_left (by decide)), fun h => hR.c14 (h.resolve_left (by decide)), fun h => hR.c15 (h.resolve_left (by decide)), fun h => hR.c16 (h.resolve_left (by decide)), fun _ => rfl, fun h => hR.c18 (h.resolve_left (by decide)), fun h => hR.c19 (h.resolve_left (by decide)), fun h => hR.c20 (h.resolve_left (by decide)), fun h => hR.c21 (h.resolve_left (by decide)), fun h => hR.c22 (h.resolve_left (by decide)), fun h => hR.c23 (h.resolve_left (by decide)), fun h => hR.c24 (h.resolve_left (by decide)), fun h => hR.c25 (h.resolve_left (by decide)), fun h => hR.no (h.resolve_left (by decide)), hR.below⟩)
      clear hin hout hw
      go_simp
      first | done | rfl
    · intro D σ w1 a hnd hw hR hin hout hdf
      have eg : a.eval (.tmp 66) = .bool true := (hin 16 _ 66 rfl rfl).trans (hR.c16 (hw 16 (by kernel_rfl)))
      have ey := yieldedX_of (j := 16) (d := 66) eg
      refine ⟨fun _ => ?_, fun e => by simp only [Region.wanted] at e; rw [ey _ _ rfl rfl] at e; cases e⟩
      have e0 : (a.tmps[0]?).getD undef = .pointer (some ⟨d, 0, none⟩) := (evT a 0).symm.trans ((hout 0 (by kernel_rfl)).trans (by kernel_rfl))
      refine Oper.wpW (eff_v (v := .pointer (some ⟨d, 0, none⟩)) ?_ ⟨fun h => hR.c0 (h.resolve_left (by decide)), fun h => hR.c1 (h.resolve_left (by decide)), fun h => hR.c2 (h.resolve_left (by decide)), fun h => hR.c3 (h.resolve_left (by decide)), fun h => hR.c4 (h.resolve_left (by decide)), fun h => hR.c5 (h.resolve_left (by decide)), fun h => hR.c6 (h.resolve_left (by decide)), fun h => hR.c7 (h.resolve_left (by decide)), fun h => hR.c8 (h.resolve_left (by decide)), fun h => hR.c9 (h.resolve_left (by decide)), fun h => hR.c10 (h.resolve_left (by decide)), fun h => hR.c11 (h.resolve_left (by decide)), fun h => hR.c12 (h.resolve_left (by decide)), fun h => hR.c13 (h.resolve_left (by decide)), fun h => hR.c14 (h.resolve_left (by decide)), fun h => hR.c15 (h.resolve_left (by decide)), fun h => hR.c16 (h.resolve_left (by decide)), fun h => hR.c17 (h.resolve_left (by decide)), fun _ => rfl, fun h => hR.c19 (h.resolve_left (by decide)), fun h => hR.c20 (h.resolve_left (by decide)), fun h => hR.c21 (h.resolve_left (by decide)), fun h => hR.c22 (h.resolve_left (by decide)), fun h => hR.c23 (h.resolve_left (by decide)), fun h => hR.c24 (h.resolve_left (by decide)), fun h => hR.c25 (h.resolve_left (by decide)), fun h => hR.no (h.resolve_left (by decide)), hR.below⟩)
      clear hin hout hw
      go_simp
      first | done | rfl
    · intro D σ w1 a hnd hw hR hin hout hdf
      have eg : a.eval (.tmp 66) = .bool true := (hin 16 _ 66 rfl rfl).trans (hR.c16 (hw 16 (by kernel_rfl)))
      have ey := yieldedX_of (j := 16) (d := 66) eg
      refine ⟨fun _ => ?_, fun e => by simp only [Region.wanted] at e; rw [ey _ _ rfl rfl] at e; cases e⟩
      have e68 : (a.tmps[68]?).getD undef = .pointer (some ⟨d, 0, none⟩) := (evT a 68).symm.trans ((hin 18 _ 68 rfl rfl).trans (hR.c18 (hw 18 (by kernel_rfl))))
      refine Oper.wpW (eff_v (v := .pointer (some ⟨d, 0, none⟩)) ?_ ⟨fun h => hR.c0 (h.resolve_left (by decide)), fun h => hR.c1 (h.resolve_left (by decide)), fun h => hR.c2 (h.resolve_left (by decide)), fun h => hR.c3 (h.resolve_left (by decide)), fun h => hR.c4 (h.resolve_left (by decide)), fun h => hR.c5 (h.resolve_left (by decide)), fun h => hR.c6 (h.resolve_left (by decide)), fun h => hR.c7 (h.resolve_left (by decide)), fun h => hR.c8 (h.resolve_left (by decide)), fun h => hR.c9 (h.resolve_left (by decide)), fun h => hR.c10 (h.resolve_left (by decide)), fun h => hR.c11 (h.resolve_left (by decide)), fun h => hR.c12 (h.resolve_left (by decide)), fun h => hR.c13 (h.resolve_left (by decide)), fun h => hR.c14 (h.resolve_left (by decide)), fun h => hR.c15 (h.resolve_left (by decide)), fun h => hR.c16 (h.resolve_left (by decide)), fun h => hR.c17 (h.resolve_left (by decide)), fun h => hR.c18 (h.resolve_left (by decide)), fun _ => rfl, fun h => hR.c20 (h.resolve_left (by decide)), fun h => hR.c21 (h.resolve_left (by decide)), fun h => hR.c22 (h.resolve_left (by decide)), fun h => hR.c23 (h.resolve_left (by decide)), fun h => hR.c24 (h.resolve_left (by decide)), fun h => hR.c25 (h.resolve_left (by decide)), fun h => hR.no (h.resolve_left (by decide)), hR.below⟩)
      clear hin hout hw
      go_simp
      first | done | rfl
    · intro D σ w1 a hnd hw hR hin hout hdf
      have eg : a.eval (.tmp 66) = .bool true := (hin 16 _ 66 rfl rfl).trans (hR.c16 (hw 16 (by kernel_rfl)))
      have ey := yieldedX_of (j := 16) (d := 66) eg
      refine ⟨fun _ => ?_, fun e => by simp only [Region.wanted] at e; rw [ey _ _ rfl rfl] at e; cases e⟩
      have e69 : (a.tmps[69]?).getD undef = .pointer (some ⟨d, 0, none⟩) := (evT a 69).symm.trans ((hin 19 _ 69 rfl rfl).trans (hR.c19 (hw 19 (by kernel_rfl))))
      refine Oper.wpW (eff_v (v := .pointer (some ⟨d, 1, none⟩)) ?_ ⟨fun h => hR.c0 (h.resolve_left (by decide)), fun h => hR.c1 (h.resolve_left (by decide)), fun h => hR.c2 (h.resolve_left (by decide)), fun h => hR.c3 (h.resolve_left (by decide)), fun h => hR.c4 (h.resolve_left (by decide)), fun h => hR.c5 (h.resolve_left (by decide)), fun h => hR.c6 (h.resolve_left (by decide)), fun h => hR.c7 (h.resolve_left (by decide)), fun h => hR.c8 (h.resolve_left (by decide)), fun h => hR.c9 (h.resolve_left (by decide)), fun h => hR.c10 (h.resolve_left (by decide)), fun h => hR.c11 (h.resolve_left (by decide)), fun h => hR.c12 (h.resolve_left (by decide)), fun h => hR.c13 (h.resolve_left (by decide)), fun h => hR.c14 (h.resolve_left (by decide)), fun h => hR.c15 (h.resolve_left (by decide)), fun h => hR.c16 (h.resolve_left (by decide)), fun h => hR.c17 (h.resolve_left (by decide)), fun h => hR.c18 (h.resolve_left (by decide)), fun h => hR.c19 (h.resolve_left (by decide)), fun _ => rfl, fun h => hR.c21 (h.resolve_left (by decide)), fun h => hR.c22 (h.resolve_left (by decide)), fun h => hR.c23 (h.resolve_left (by decide)), fun h => hR.c24 (h.resolve_left (by decide)), fun h => hR.c25 (h.resolve_left (by decide)), fun h => hR.no (h.resolve_left (by decide)), hR.below⟩)
      clear hin hout hw
      go_simp
      first | done | rfl
    · intro D σ w1 a hnd hw hR hin hout hdf
      have eg : a.eval (.tmp 66) = .bool true := (hin 16 _ 66 rfl rfl).trans (hR.c16 (hw 16 (by kernel_rfl)))
      have ey := yieldedX_of (j := 16) (d := 66) eg
      refine ⟨fun _ => ?_, fun e => by simp only [Region.wanted] at e; rw [ey _ _ rfl rfl] at e; cases e⟩
      have e70 : (a.tmps[70]?).getD undef = .pointer (some ⟨d, 1, none⟩) := (evT a 70).symm.trans ((hin 20 _ 70 rfl rfl).trans (hR.c20 (hw 20 (by kernel_rfl))))
      refine Oper.wpW (eff_v (v := .pointer (some ⟨d, 7, none⟩)) ?_ ⟨fun h => hR.c0 (h.resolve_left (by decide)), fun h => hR.c1 (h.resolve_left (by decide)), fun h => hR.c2 (h.resolve_left (by decide)), fun h => hR.c3 (h.resolve_left (by decide)), fun h => hR.c4 (h.resolve_left (by decide)), fun h => hR.c5 (h.resolve_left (by decide)), fun h => hR.c6 (h.resolve_left (by decide)), fun h => hR.c7 (h.resolve_left (by decide)), fun h => hR.c8 (h.resolve_left (by decide)), fun h => hR.c9 (h.resolve_left (by decide)), fun h => hR.c10 (h.resolve_left (by decide)), fun h => hR.c11 (h.resolve_left (by decide)), fun h => hR.c12 (h.resolve_left (by decide)), fun h => hR.c13 (h.resolve_left (by decide)), fun h => hR.c14 (h.resolve_left (by decide)), fun h => hR.c15 (h.resolve_left (by decide)), fun h => hR.c16 (h.resolve_left (by decide)), fun h => hR.c17 (h.resolve_left (by decide)), fun h => hR.c18 (h.resolve_left (by decide)), fun h => hR.c19 (h.resolve_left (by decide)), fun h => hR.c20 (h.resolve_left (by decide)), fun _ => rfl, fun h => hR.c22 (h.resolve_left (by decide)), fun h => hR.c23 (h.resolve_left (by decide)), fun h => hR.c24 (h.resolve_left (by decide)), fun h => hR.c25 (h.resolve_left (by decide)), fun h => hR.no (h.resolve_left (by decide)), hR.below⟩)
      clear hin hout hw
      go_simp
      first | done | rfl
    · intro D σ w1 a hnd hw hR hin hout hdf
      have eg : a.eval (.tmp 66) = .bool true := (hin 16 _ 66 rfl rfl).trans (hR.c16 (hw 16 (by kernel_rfl)))
      have ey := yieldedX_of (j := 16) (d := 66) eg
      refine ⟨fun _ => ?_, fun e => by simp only [Region.wanted] at e; rw [ey _ _ rfl rfl] at e; cases e⟩
      have e71 : (a.tmps[71]?).getD undef = .pointer (some ⟨d, 7, none⟩) := (evT a 71).symm.trans ((hin 21 _ 71 rfl rfl).trans (hR.c21 (hw 21 (by kernel_rfl))))
      have hl := (hR.below.cell (by exact jD)).trans z7
      have iX : BlockLt d w1 := ⟨Nat.lt_of_lt_of_le jD hR.below.size⟩
      refine Oper.wpW (eff_v (v := .string c.path2) ?_ ⟨fun h => hR.c0 (h.resolve_left (by decide)), fun h => hR.c1 (h.resolve_left (by decide)), fun h => hR.c2 (h.resolve_left (by decide)), fun h => hR.c3 (h.resolve_left (by decide)), fun h => hR.c4 (h.resolve_left (by decide)), fun h => hR.c5 (h.resolve_left (by decide)), fun h => hR.c6 (h.resolve_left (by decide)), fun h => hR.c7 (h.resolve_left (by decide)), fun h => hR.c8 (h.resolve_left (by decide)), fun h => hR.c9 (h.resolve_left (by decide)), fun h => hR.c10 (h.resolve_left (by decide)), fun h => hR.c11 (h.resolve_left (by decide)), fun h => hR.c12 (h.resolve_left (by decide)), fun h => hR.c13 (h.resolve_left (by decide)), fun h => hR.c14 (h.resolve_left (by decide)), fun h => hR.c15 (h.resolve_left (by decide)), fun h => hR.c16 (h.resolve_left (by decide)), fun h => hR.c17 (h.resolve_left (by decide)), fun h => hR.c18 (h.resolve_left (by decide)), fun h => hR.c19 (h.resolve_left (by decide)), fun h => hR.c20 (h.resolve_left (by decide)), fun h => hR.c21 (h.resolve_left (by decide)), fun _ => rfl, fun h => hR.c23 (h.resolve_left (by decide)), fun h => hR.c24 (h.resolve_left (by decide)), fun h => hR.c25 (h.resolve_left (by decide)), fun h => hR.no (h.resolve_left (by decide)), hR.below⟩)
      clear hin hout hw
      go_simp
      first | done | rfl
    · intro D σ w1 a hnd hw hR hin hout hdf
      have eg : a.eval (.tmp 66) = .bool true := (hin 16 _ 66 rfl rfl).trans (hR.c16 (hw 16 (by kernel_rfl)))
      have ey := yieldedX_of (j := 16) (d := 66) eg
      refine ⟨fun _ => ?_, fun e => by simp only [Region.wanted] at e; rw [ey _ _ rfl rfl] at e; cases e⟩
      have e6 : (a.tmps[6]?).getD undef = .int .i64 num := (evT a 6).symm.trans ((hout 6 (by kernel_rfl)).trans (by kernel_rfl))
      refine Oper.wpW (eff_v (v := .int .i64 num) ?_ ⟨fun h => hR.c0 (h.resolve_left (by decide)), fun h => hR.c1 (h.resolve_left (by decide)), fun h => hR.c2 (h.resolve_left (by decide)), fun h => hR.c3 (h.resolve_left (by decide)), fun h => hR.c4 (h.resolve_left (by decide)), fun h => hR.c5 (h.resolve_left (by decide)), fun h => hR.c6 (h.resolve_left (by decide)), fun h => hR.c7 (h.resolve_left (by decide)), fun h => hR.c8 (h.resolve_left (by decide)), fun h => hR.c9 (h.resolve_left (by decide)), fun h => hR.c10 (h.resolve_left (by decide)), fun h => hR.c11 (h.resolve_left (by decide)), fun h => hR.c12 (h.resolve_left (by decide)), fun h => hR.c13 (h.resolve_left (by decide)), fun h => hR.c14 (h.resolve_left (by decide)), fun h => hR.c15 (h.resolve_left (by decide)), fun h => hR.c16 (h.resolve_left (by decide)), fun h => hR.c17 (h.resolve_left (by decide)), fun h => hR.c18 (h.resolve_left (by decide)), fun h => hR.c19 (h.resolve_left (by decide)), fun h => hR.c20 (h.resolve_left (by decide)), fun h => hR.c21 (h.resolve_left (by decide)), fun h => hR.c22 (h.resolve_left (by decide)), fun _ => rfl, fun h => hR.c24 (h.resolve_left (by decide)), fun h => hR.c25 (h.resolve_left (by decide)), fun h => hR.no (h.resolve_left (by decide)), hR.below⟩)
      clear hin hout hw
      go_simp
      first | done | rfl
    · intro D σ w1 a hnd hw hR hin hout hdf
      have eg : a.eval (.tmp 66) = .bool true := (hin 16 _ 66 rfl rfl).trans (hR.c16 (hw 16 (by kernel_rfl)))
      have ey := yieldedX_of (j := 16) (d := 66) eg
      refine ⟨fun _ => ?_, fun e => by simp only [Region.wanted] at e; rw [ey _ _ rfl rfl] at e; cases e⟩
      have e67 : (a.tmps[67]?).getD undef = .pointer (some ⟨d, 0, none⟩) := (evT a 67).symm.trans ((hin 17 _ 67 rfl rfl).trans (hR.c17 (hw 17 (by kernel_rfl))))
      have e72 : (a.tmps[72]?).getD undef = .string c.path2 := (evT a 72).symm.trans ((hin 22 _ 72 rfl rfl).trans (hR.c22 (hw 22 (by kernel_rfl))))
      have e73 : (a.tmps[73]?).getD undef = .int .i64 num := (evT a 73).symm.trans ((hin 23 _ 73 rfl rfl).trans (hR.c23 (hw 23 (by kernel_rfl))))
      refine Oper.wpW (eff_call 188 #[.pointer (some ⟨d, 0, none⟩), .string c.path2, .int .i64 num] ?_ ((hthr w1 hR.below).mono ?_))
      · clear hin hout hw
        go_simp
        first | done | rfl
      · rintro e w' ⟨rfl, hqb⟩
        exact ⟨_, rfl, ⟨fun h => hR.c0 (h.resolve_left (by decide)), fun h => hR.c1 (h.resolve_left (by decide)), fun h => hR.c2 (h.resolve_left (by decide)), fun h => hR.c3 (h.resolve_left (by decide)), fun h => hR.c4 (h.resolve_left (by decide)), fun h => hR.c5 (h.resolve_left (by decide)), fun h => hR.c6 (h.resolve_left (by decide)), fun h => hR.c7 (h.resolve_left (by decide)), fun h => hR.c8 (h.resolve_left (by decide)), fun h => hR.c9 (h.resolve_left (by decide)), fun h => hR.c10 (h.resolve_left (by decide)), fun h => hR.c11 (h.resolve_left (by decide)), fun h => hR.c12 (h.resolve_left (by decide)), fun h => hR.c13 (h.resolve_left (by decide)), fun h => hR.c14 (h.resolve_left (by decide)), fun h => hR.c15 (h.resolve_left (by decide)), fun h => hR.c16 (h.resolve_left (by decide)), fun h => hR.c17 (h.resolve_left (by decide)), fun h => hR.c18 (h.resolve_left (by decide)), fun h => hR.c19 (h.resolve_left (by decide)), fun h => hR.c20 (h.resolve_left (by decide)), fun h => hR.c21 (h.resolve_left (by decide)), fun h => hR.c22 (h.resolve_left (by decide)), fun h => hR.c23 (h.resolve_left (by decide)), fun _ => rfl, fun h => hR.c25 (h.resolve_left (by decide)), fun h => hR.no (h.resolve_left (by decide)), hR.below.trans (hqb.mono hR.below.size)⟩⟩
    · intro D σ w1 a hnd hw hR hin hout hdf
      refine ⟨fun _ => ?_, fun h => absurd h (by simp [Region.wanted])⟩
      have e66 : (a.tmps[66]?).getD undef = .bool true := (evT a 66).symm.trans ((hin 16 _ 66 rfl rfl).trans (hR.c16 (hw 16 (by kernel_rfl))))
      have e74 : (a.tmps[74]?).getD undef = .bool true := (evT a 74).symm.trans ((hin 24 _ 74 rfl rfl).trans (hR.c24 (hw 24 (by kernel_rfl))))
      refine Oper.wpW (eff_v (v := .bool true) ?_ ⟨fun h => hR.c0 (h.resolve_left (by decide)), fun h => hR.c1 (h.resolve_left (by decide)), fun h => hR.c2 (h.resolve_left (by decide)), fun h => hR.c3 (h.resolve_left (by decide)), fun h => hR.c4 (h.resolve_left (by decide)), fun h => hR.c5 (h.resolve_left (by decide)), fun h => hR.c6 (h.resolve_left (by decide)), fun h => hR.c7 (h.resolve_left (by decide)), fun h => hR.c8 (h.resolve_left (by decide)), fun h => hR.c9 (h.resolve_left (by decide)), fun h => hR.c10 (h.resolve_left (by decide)), fun h => hR.c11 (h.resolve_left (by decide)), fun h => hR.c12 (h.resolve_left (by decide)), fun h => hR.c13 (h.resolve_left (by decide)), fun h => hR.c14 (h.resolve_left (by decide)), fun h => hR.c15 (h.resolve_left (by decide)), fun h => hR.c16 (h.resolve_left (by decide)), fun h => hR.c17 (h.resolve_left (by decide)), fun h => hR.c18 (h.resolve_left (by decide)), fun h => hR.c19 (h.resolve_left (by decide)), fun h => hR.c20 (h.resolve_left (by decide)), fun h => hR.c21 (h.resolve_left (by decide)), fun h => hR.c22 (h.resolve_left (by decide)), fun h => hR.c23 (h.resolve_left (by decide)), fun h => hR.c24 (h.resolve_left (by decide)), fun _ => rfl, fun h => hR.no (h.resolve_left (by decide)), hR.below⟩)
      clear hin hout hw
      go_simp
      first | done | rfl
    · intro D σ w1 a hnd hw hR hin hout hdf
      refine ⟨fun _ => ?_, fun h => absurd h (by simp [Region.wanted])⟩
      have e75 : (a.tmps[75]?).getD undef = .bool true := (evT a 75).symm.trans ((hin 25 _ 75 rfl rfl).trans (hR.c25 (hw 25 (by kernel_rfl))))
      intro nx _
      refine Oper.wpX 172 #[.bool true, .int .i64 9] ?_ ((throw_yes 9 w1).mono fun e w' ⟨he, hb2⟩ => ⟨_, he, hdf, hBz.trans ((hR.below.trans (hb2.mono hR.below.size)).mono (Nat.le_trans hB hbz.size)), rfl⟩)
      clear hin hout hw
      go_simp
      first | done | rfl
  · intro σ w1 hR
    exact absurd trivial hR.no
end Go.Proofs.YtmkapobnfigedaaGreatDoor
