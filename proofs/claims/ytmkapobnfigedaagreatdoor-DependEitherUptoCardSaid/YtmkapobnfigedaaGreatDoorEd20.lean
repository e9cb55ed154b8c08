/- doer.bytes at Read and Size. Conditions: none. -/
import Derived.Test.YtmkapobnfigedaaGreatDoorEd19
set_option linter.unusedVariables false
set_option linter.unusedSimpArgs false
namespace Go.Proofs.YtmkapobnfigedaaGreatDoor
open Go.RowKit
/-- The file of a call's descriptor: its place, itself. -/
def fileX (S : PSt) (c : PCall) : Option (Nat × PIn) := if idxM (isFd c) S.op < 0 then none else
  match S.op[(idxM (isFd c) S.op).toNat]? with
  | none => none
  | some y => match S.ins[(findN S.nums y.num).toNat]? with
    | none => none
    | some x => some ((findN S.nums y.num).toNat, x)
theorem fileX_at {S : PSt} {c : PCall} {K : Nat} {x : PIn} (h : fileX S c = some (K, x)) : S.ins[K]? = some x ∧ K < S.ins.length := by
  unfold fileX at h
  split at h
  · cases h
  · split at h
    · cases h
    · split at h
      · cases h
      · rename_i hx
        simp only [Option.some.injEq, Prod.mk.injEq] at h
        obtain ⟨rfl, rfl⟩ := h
        obtain ⟨hl, _⟩ := List.getElem?_eq_some_iff.1 hx
        exact ⟨hx, hl⟩
def fileE (S : PSt) (c : PCall) (bi : Nat) (e : Ending) : Prop := match fileX S c with
  | none => e = thrown 4
  | some y => e = .returned (.tuple #[.pointer (some ⟨bi, y.1 * 4, none⟩), .int .i64 (idxM (isFd c) S.op)])
theorem file_x {w : World} {d b bi cap : Nat} {S : PSt} {c : PCall} (h : DR w d b S c) (hf : Fine S) (hc : w.cell? ⟨b, 0, none⟩ = some (.slice (some ⟨bi, 0, none⟩) S.ins.length cap)) :
    Calls Tryz.prog 143 #[.pointer (some ⟨d, 0, none⟩)] w fun e w' => Below w.heap.size w w' ∧ fileE S c bi e := by
  refine (file73 d b S c w h hf).mono ?_
  rintro e w' ⟨hb, ho⟩
  refine ⟨hb, ?_⟩
  unfold fileE fileX
  rcases ho with ⟨hi, y, bi', off, cap', hy, hc', rfl⟩ | ⟨hi, rfl⟩
  · rw [if_neg (by omega), hy]
    rw [hc] at hc'
    simp only [Option.some.injEq, Value.slice.injEq, Addr.mk.injEq] at hc'
    obtain ⟨⟨rfl, rfl, -⟩, -, -⟩ := hc'
    have h0 := hf.opens y (List.mem_of_getElem? hy)
    have hb2 := findN_bounds S.nums y.num
    have hnl : S.nums.length = S.ins.length := by unfold PSt.nums; rw [List.length_map]
    have hlt : (findN S.nums y.num).toNat < S.ins.length := by omega
    simp only [List.getElem?_eq_getElem hlt, Nat.zero_add]
  · rw [if_pos hi]
theorem DoAt.parts {B : Nat} {w : World} {d b : Nat} {S : PSt} {c : PCall} {r : PRes} (h : DoAt B w d b S c r) (h0 : 0 < S.ins.length) :
    ∃ bi cap ov mv nv, B ≤ b ∧ B ≤ d ∧ Blk w d (doCells b c r nv) 136 ∧ Blk w b #[.slice (some ⟨bi, 0, none⟩) S.ins.length cap, ov, mv] 26 ∧ StOwn B w (.slice (some ⟨bi, 0, none⟩) S.ins.length cap) ov mv S ∧ OwnP B w 9 1 nv (r.names.map strCells) := by
  obtain ⟨iv, ov, mv, nv, h1, h2, h3, h4, h5, h6⟩ := h
  obtain ⟨bi, cap, rfl⟩ := h5.ins_form h0
  exact ⟨bi, cap, ov, mv, nv, h1, h2, h3, h4, h5, h6⟩
/-- What a doer's blocks are, by name. -/
structure DPart (B : Nat) (w : World) (d b bi cap : Nat) (ov mv nv : Value) (S : PSt) (c : PCall) (r : PRes) : Prop where
  hBb : B ≤ b
  hBd : B ≤ d
  hD : Blk w d (doCells b c r nv) 136
  hb : Blk w b #[.slice (some ⟨bi, 0, none⟩) S.ins.length cap, ov, mv] 26
  st : StOwn B w (.slice (some ⟨bi, 0, none⟩) S.ins.length cap) ov mv S
  nm : OwnP B w 9 1 nv (r.names.map strCells)
theorem DoAt.part {B : Nat} {w : World} {d b : Nat} {S : PSt} {c : PCall} {r : PRes} (h : DoAt B w d b S c r) (h0 : 0 < S.ins.length) : ∃ bi cap ov mv nv, DPart B w d b bi cap ov mv nv S c r := by
  obtain ⟨bi, cap, ov, mv, nv, h1, h2, h3, h4, h5, h6⟩ := h.parts h0
  exact ⟨bi, cap, ov, mv, nv, h1, h2, h3, h4, h5, h6⟩
section
variable {B : Nat} {w w' : World} {d b bi cap : Nat} {ov mv nv : Value} {S : PSt} {c : PCall} {r : PRes}
theorem DPart.at_ (h : DPart B w d b bi cap ov mv nv S c r) : DoAt B w d b S c r := ⟨_, _, _, _, h.hBb, h.hBd, h.hD, h.hb, h.st, h.nm⟩
theorem DPart.below (h : DPart B w d b bi cap ov mv nv S c r) (hb : Below w.heap.size w w') : DPart B w' d b bi cap ov mv nv S c r := by
  have hk : Keep (fun _ => False) w w' := Keep.of_below hb _
  exact ⟨h.hBb, h.hBd, hk.blk h.hD id, hk.blk h.hb id, h.st.keep hk (fun _ h => h.elim), h.nm.keep hk (fun _ _ h => h)⟩
theorem DPart.file (h : DPart B w d b bi cap ov mv nv S c r) (hf : Fine S) : Calls Tryz.prog 143 #[.pointer (some ⟨d, 0, none⟩)] w fun e w' => Below w.heap.size w w' ∧ fileE S c bi e :=
  file_x (DR.of_blk h.hD (SP.of_blk h.hb h.st.read)) hf (h.hb.cell 0)
theorem DPart.dat {K : Nat} {x : PIn} (h : DPart B w d b bi cap ov mv nv S c r) (hx : S.ins[K]? = some x) : BlockLt bi w ∧ w.cell? ⟨bi, K * 4, none⟩ = some (.int .i64 x.num) ∧ w.cell? ⟨bi, K * 4 + 1, none⟩ = some (.bool x.dir) ∧ w.cell? ⟨bi, K * 4 + 3, none⟩ = some (.string x.data) := by
  obtain ⟨a, cap', e1, hai⟩ := h.st.read.ins_at2
  cases e1
  obtain ⟨bi', oi, ev, he, iI0, hoi, her, hci⟩ := hai K x hx
  cases he
  obtain ⟨i2, x0, x1, -, x3⟩ := hci w (Below.refl _ _)
  simp only [Nat.zero_add] at x0 x1 x3
  exact ⟨i2, x0, x1, x3⟩
/-- A field of the result is laid. -/
theorem DPart.res (h : DPart B w d b bi cap ov mv nv S c r) {t : Nat} {u : Value} {r' : PRes} (hc : (doCells b c r nv).setIfInBounds t u = doCells b c r' nv) (hn : r'.names = r.names) : DPart B (w.setCell ⟨d, t, none⟩ u) d b bi cap ov mv nv S c r' := by
  have hKd : Keep (fun k => k = d) w (w.setCell ⟨d, t, none⟩ u) := Keep.setCell (S := fun k => k = d) (p := ⟨d, t, none⟩) (Keep.refl _ _) (.inl rfl) _
  refine ⟨h.hBb, h.hBd, ?_, hKd.blk h.hb (h.hb.ne_ h.hD (by decide)), h.st.keep hKd (fun g hg => by rw [hg]; exact ⟨_, 136, h.hD, by decide, by decide, by decide, by decide⟩), by rw [hn]; exact h.nm.keep hKd (fun g hg => h.nm.ne_blk h.hD (by decide) hg)⟩
  rw [← hc]
  exact h.hD.set_ t u
end
def readM (S : PSt) (c : PCall) (r : PRes) : Except Int (PSt × PRes) := match fileX S c with
  | none => .error 4
  | some y => if (inM c.off && inM c.num) = true then .ok (S, { r with data := pieceM y.2.data c.off.toNat c.num.toNat }) else .error 9
set_option maxRecDepth 100000 in
set_option maxHeartbeats 4000000 in
theorem bytes_read (B d b : Nat) (S : PSt) (c : PCall) (r : PRes) (w : World) (h : DoAt B w d b S c r) (hB : B ≤ w.heap.size) (hf : Fine S) (hk : c.kind = 4) (hsz : ∀ x ∈ S.ins, x.data.size ≤ 1000000) :
    Calls Tryz.prog 146 #[.pointer (some ⟨d, 0, none⟩)] w (RunOut B w d b c (readM S c r)) := by
  obtain ⟨bi, cap, ov, mv, nv, hP⟩ := h.part hf.pos
  have ht := hP.file hf
  have iD := hP.hD.lt
  unfold fileE at ht
  unfold readM
  generalize hX : fileX S c = X at ht ⊢
  rcases X with _ | ⟨K, x⟩
  · simp only at ht ⊢
    go_enter Tryz.func146, Tryz.ntmps146
    go_wp2_with (go_at_call 143; refine ht.mono ?_; rintro e w1 ⟨hb1, rfl⟩)
    exact ⟨rfl, hb1.mono hB, rfl⟩
  · simp only at ht ⊢
    obtain ⟨hx, hKl⟩ := fileX_at hX
    have hxs := hsz x (List.mem_of_getElem? hx)
    generalize idxM (isFd c) S.op = I at ht
    have HP := Lib.hid hP
    clear h hP hX hsz
    have hoff := fun ww => in126 c.off ww
    have hnum := fun ww => in126 c.num ww
    generalize hpo : inM c.off = po at hoff ⊢
    rcases po with _ | _
    · simp only [Bool.false_and, Bool.false_eq_true, if_false]
      go_enter Tryz.func146, Tryz.ntmps146
      go_upto_region 1 with (go_at_call 143; refine ht.mono ?_; rintro e w1 ⟨hb1, rfl⟩; have HB := Lib.hid hb1; clear hb1)
      refine abs_world (F := fun wA => DPart B wA d b bi cap ov mv nv S c r ∧ Below w.heap.size w wA) ⟨HP.out.below HB.out, HB.out⟩ ?_
      clear ht iD HP HB
      rintro wA ⟨hA, hbA⟩
      have iD := hA.hD.lt
      have a1 : wA.cell? ⟨d, 1, none⟩ = some (.int .i64 c.kind) := hA.hD.cell 1
      have a4 : wA.cell? ⟨d, 4, none⟩ = some (.int .i64 c.off) := hA.hD.cell 4
      have a5 : wA.cell? ⟨d, 5, none⟩ = some (.int .i64 c.num) := hA.hD.cell 5
      have a13 : wA.cell? ⟨d, 13, none⟩ = some (.string r.data) := hA.hD.cell 13
      have f13 := hA.hD.frozen 13
      rw [hk] at a1
      obtain ⟨iI, x0, x1, x3⟩ := hA.dat hx
      have HA := Lib.hid (And.intro hA hbA)
      clear hA hbA hx
      go_wp2_with (first | (go_at_call 183; with_reducible refine (hoff _).mono ?_; rintro e w' ⟨rfl, hb⟩; obtain ⟨p, rfl⟩ := hb.rest; clear hb) | (go_at_call 183; with_reducible refine (hnum _).mono ?_; rintro e w' ⟨rfl, hb⟩; obtain ⟨p, rfl⟩ := hb.rest; clear hb) | (go_at_call 172; refine (throw_yes _ _).mono ?_; rintro e w' ⟨rfl, hb⟩; obtain ⟨p, rfl⟩ := hb.rest; clear hb))
      exact ⟨rfl, (HA.out.2.trans ((bel wA _).mono HA.out.2.size)).mono hB, rfl⟩
    · generalize hpn : inM c.num = pn at hnum ⊢
      rcases pn with _ | _
      · simp only [Bool.and_false, Bool.false_eq_true, if_false]
        go_enter Tryz.func146, Tryz.ntmps146
        go_upto_region 1 with (go_at_call 143; refine ht.mono ?_; rintro e w1 ⟨hb1, rfl⟩; have HB := Lib.hid hb1; clear hb1)
        refine abs_world (F := fun wA => DPart B wA d b bi cap ov mv nv S c r ∧ Below w.heap.size w wA) ⟨HP.out.below HB.out, HB.out⟩ ?_
        clear ht iD HP HB
        rintro wA ⟨hA, hbA⟩
        have iD := hA.hD.lt
        have a1 : wA.cell? ⟨d, 1, none⟩ = some (.int .i64 c.kind) := hA.hD.cell 1
        have a4 : wA.cell? ⟨d, 4, none⟩ = some (.int .i64 c.off) := hA.hD.cell 4
        have a5 : wA.cell? ⟨d, 5, none⟩ = some (.int .i64 c.num) := hA.hD.cell 5
        have a13 : wA.cell? ⟨d, 13, none⟩ = some (.string r.data) := hA.hD.cell 13
        have f13 := hA.hD.frozen 13
        rw [hk] at a1
        obtain ⟨iI, x0, x1, x3⟩ := hA.dat hx
        have HA := Lib.hid (And.intro hA hbA)
        clear hA hbA hx
        go_wp2_with (first | (go_at_call 183; with_reducible refine (hoff _).mono ?_; rintro e w' ⟨rfl, hb⟩; obtain ⟨p, rfl⟩ := hb.rest; clear hb) | (go_at_call 183; with_reducible refine (hnum _).mono ?_; rintro e w' ⟨rfl, hb⟩; obtain ⟨p, rfl⟩ := hb.rest; clear hb) | (go_at_call 172; refine (throw_yes _ _).mono ?_; rintro e w' ⟨rfl, hb⟩; obtain ⟨p, rfl⟩ := hb.rest; clear hb))
        exact ⟨rfl, (HA.out.2.trans ((bel wA _).mono HA.out.2.size)).mono hB, rfl⟩
      · simp only [Bool.and_self, if_true]
        unfold inM at hpo hpn
        simp only [Bool.and_eq_true, decide_eq_true_eq] at hpo hpn
        obtain ⟨o, ho⟩ : ∃ o : Nat, c.off = o := ⟨c.off.toNat, by omega⟩
        obtain ⟨n, hn⟩ : ∃ n : Nat, c.num = n := ⟨c.num.toNat, by omega⟩
        have hpc := fun ww => piece127 x.data o n ww (by omega) (by omega) (by omega)
        have eo : c.off.toNat = o := by omega
        have en : c.num.toNat = n := by omega
        rw [eo, en]
        rw [ho] at hoff
        rw [hn] at hnum
        generalize pieceM x.data o n = pc at hpc ⊢
        have HO := Lib.hid (And.intro ho hn)
        clear eo en hpo hpn ho hn
        go_enter Tryz.func146, Tryz.ntmps146
        go_upto_region 1 with (go_at_call 143; refine ht.mono ?_; rintro e w1 ⟨hb1, rfl⟩; have HB := Lib.hid hb1; clear hb1)
        refine abs_world (F := fun wA => DPart B wA d b bi cap ov mv nv S c r ∧ Below w.heap.size w wA) ⟨HP.out.below HB.out, HB.out⟩ ?_
        clear ht iD HP HB
        rintro wA ⟨hA, hbA⟩
        have iD := hA.hD.lt
        have a1 : wA.cell? ⟨d, 1, none⟩ = some (.int .i64 c.kind) := hA.hD.cell 1
        have a4 : wA.cell? ⟨d, 4, none⟩ = some (.int .i64 c.off) := hA.hD.cell 4
        have a5 : wA.cell? ⟨d, 5, none⟩ = some (.int .i64 c.num) := hA.hD.cell 5
        have a13 : wA.cell? ⟨d, 13, none⟩ = some (.string r.data) := hA.hD.cell 13
        have f13 := hA.hD.frozen 13
        rw [hk] at a1
        rw [HO.out.1] at a4
        rw [HO.out.2] at a5
        obtain ⟨iI, x0, x1, x3⟩ := hA.dat hx
        have HA := Lib.hid (And.intro hA hbA)
        clear hA hbA hx
        go_upto_region 5 with (first | (go_at_call 183; with_reducible refine (hoff _).mono ?_; rintro e w' ⟨rfl, hb⟩; obtain ⟨p, rfl⟩ := hb.rest; clear hb) | (go_at_call 183; with_reducible refine (hnum _).mono ?_; rintro e w' ⟨rfl, hb⟩; obtain ⟨p, rfl⟩ := hb.rest; clear hb) | (go_at_call 172; refine (throw_no _ _).mono ?_; rintro e w' ⟨rfl, hb⟩; obtain ⟨p, rfl⟩ := hb.rest; clear hb))
        refine wp_region_eff [15, 19] true (fun w' => w'.cell? ⟨d, 4, none⟩ = some (.int .i64 o) ∧ w'.cell? ⟨d, 5, none⟩ = some (.int .i64 n) ∧ w'.cell? ⟨bi, K * 4 + 3, none⟩ = some (.string x.data)) (by kernel_rfl) (by kernel_rfl) ?_ ?_
        · (try dsimp only); (repeat' apply And.intro) <;> go_simp
        repeat
          refine wpL_look rfl rfl ?_
          apply Exists.intro
          refine ⟨?_, ?_⟩
          focus
            rintro w' ⟨s0, s1, s2⟩
            go_simp
            first | done | rfl
          simp only [Act.put, List.setIfInBounds_toArray, List.set_cons_zero, List.set_cons_succ]
        refine wpL_act rfl rfl ?_
        refine eff_call 184 #[.string x.data, .int .i64 o, .int .i64 n] ?hr ?_
        case hr =>
          go_simp
          first | done | rfl
        refine (hpc _).mono ?_
        rintro e w' ⟨rfl, hb⟩
        obtain ⟨q1, rfl⟩ := hb.rest
        clear hb
        refine ⟨_, rfl, .inl ?_, ?_⟩
        · (try dsimp only); (repeat' apply And.intro) <;> go_simp
        simp only [Act.put, List.setIfInBounds_toArray, List.set_cons_zero, List.set_cons_succ]
        repeat
          refine wpL_look rfl rfl ?_
          apply Exists.intro
          refine ⟨?_, ?_⟩
          focus
            rintro w' ⟨s0, s1, s2⟩
            go_simp
            first | done | rfl
          simp only [Act.put, List.setIfInBounds_toArray, List.set_cons_zero, List.set_cons_succ]
        refine wpL_skip rfl rfl ?_
        apply Exists.intro
        refine ⟨?_, .inr ⟨rfl, rfl⟩, ?_⟩
        focus
          go_simp
          rfl
        simp only [Act.put, List.setIfInBounds_toArray, List.set_cons_zero, List.set_cons_succ]
        refine wpL_end ?_
        clear a1 a4 a5 a13 f13 x0 x1 x3
        go_wp2_with fail
        have hbs : Below B w (wA.setCell ⟨d, 13, none⟩ (.string pc)) := (HA.out.2.mono hB).setCell (p := ⟨d, 13, none⟩) HA.out.1.hBd _
        exact bodyPost_end (v := .tuple #[]) (by simp [results, go_sem]) rfl ⟨hbs.trans ((bel _ _).mono (Nat.le_trans hB hbs.size)), rfl, ((HA.out.1.res (t := 13) (r' := { r with data := pc }) rfl rfl).below (bel _ _)).at_⟩
def sizeM (S : PSt) (c : PCall) (r : PRes) : Except Int (PSt × PRes) := match fileX S c with
  | none => .error 4
  | some y => .ok (S, { r with num := y.2.data.size })
set_option maxRecDepth 100000 in
set_option maxHeartbeats 4000000 in
theorem bytes_size (B d b : Nat) (S : PSt) (c : PCall) (r : PRes) (w : World) (h : DoAt B w d b S c r) (hB : B ≤ w.heap.size) (hf : Fine S) (hk : c.kind = 7) :
    Calls Tryz.prog 146 #[.pointer (some ⟨d, 0, none⟩)] w (RunOut B w d b c (sizeM S c r)) := by
  obtain ⟨bi, cap, ov, mv, nv, hP⟩ := h.part hf.pos
  have ht := hP.file hf
  have iD := hP.hD.lt
  unfold fileE at ht
  unfold sizeM
  generalize hX : fileX S c = X at ht ⊢
  rcases X with _ | ⟨K, x⟩
  · simp only at ht ⊢
    go_enter Tryz.func146, Tryz.ntmps146
    go_wp2_with (go_at_call 143; refine ht.mono ?_; rintro e w1 ⟨hb1, rfl⟩)
    exact ⟨rfl, hb1.mono hB, rfl⟩
  · simp only at ht ⊢
    obtain ⟨hx, hKl⟩ := fileX_at hX
    generalize idxM (isFd c) S.op = I at ht
    have HP := Lib.hid hP
    clear h hP hX
    go_enter Tryz.func146, Tryz.ntmps146
    go_upto_region 1 with (go_at_call 143; refine ht.mono ?_; rintro e w1 ⟨hb1, rfl⟩; have HB := Lib.hid hb1; clear hb1)
    refine abs_world (F := fun wA => DPart B wA d b bi cap ov mv nv S c r ∧ Below w.heap.size w wA) ⟨HP.out.below HB.out, HB.out⟩ ?_
    clear ht iD HP HB
    rintro wA ⟨hA, hbA⟩
    have iD := hA.hD.lt
    have a1 : wA.cell? ⟨d, 1, none⟩ = some (.int .i64 c.kind) := hA.hD.cell 1
    have a11 : wA.cell? ⟨d, 11, none⟩ = some (.int .i64 r.num) := hA.hD.cell 11
    have f11 := hA.hD.frozen 11
    rw [hk] at a1
    obtain ⟨iI, x0, x1, x3⟩ := hA.dat hx
    have HA := Lib.hid (And.intro hA hbA)
    clear hA hbA hx
    go_wp2_with fail
    exact bodyPost_end (v := .tuple #[]) (by simp [results, go_sem]) rfl ⟨(HA.out.2.mono hB).setCell (p := ⟨d, 11, none⟩) HA.out.1.hBd _, rfl, (HA.out.1.res (t := 11) (r' := { r with num := x.data.size }) rfl rfl).at_⟩
end Go.Proofs.YtmkapobnfigedaaGreatDoor
