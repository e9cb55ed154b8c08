/- Part of the proof that the calls that look alone commute. Conditions: none. -/
import Derived.Test.YtjkenolgkkknaaaGreatDoorLp10
import Derived.Test.YtjkenolgkkknaaaGreatDoorLp08
set_option linter.unusedVariables false
set_option linter.unusedSimpArgs false
set_option maxRecDepth 100000
set_option maxHeartbeats 8000000
/- May of the model: what is reached. Conditions: none. -/
set_option linter.unusedVariables false
set_option linter.unusedSimpArgs false
namespace Go.Proofs.YtjkenolgkkknaaaGreatDoor
open Go.RowKit
/-- An inode's cells where they lie, by its place, in every later world. -/
theorem StRead.ins_at2 {w : World} {iv ov mv : Value} {S : PSt} (h : StRead w iv ov mv S) :
    ∃ a cap, iv = .slice a S.ins.length cap ∧ ∀ (q : Nat) (x : PIn), S.ins[q]? = some x → ∃ b off ev, a = some ⟨b, off, none⟩ ∧ BlockLt b w ∧ ev.oneCell' = true ∧ RowAt w 2 ev (x.ents.map PEnt.cells) ∧
      ∀ wr, Below w.heap.size w wr → BlockLt b wr ∧ wr.cell? ⟨b, off + q * 4, none⟩ = some (.int .i64 x.num) ∧ wr.cell? ⟨b, off + q * 4 + 1, none⟩ = some (.bool x.dir) ∧ wr.cell? ⟨b, off + q * 4 + 2, none⟩ = some ev ∧ wr.cell? ⟨b, off + q * 4 + 3, none⟩ = some (.string x.data) := by
  obtain ⟨_, _, is, h3, h4, h5⟩ := h
  obtain ⟨a, cap, rfl, hat⟩ := h3.at_
  rw [List.length_map]
  refine ⟨a, cap, by rw [h4], fun q x hx => ?_⟩
  obtain ⟨hq, _⟩ := List.getElem?_eq_some_iff.1 hx
  have hr : is[q]? = some is[q] := List.getElem?_eq_getElem (by omega)
  have hm : (is.map IRec.cells)[q]? = some is[q].cells := by rw [List.getElem?_map, hr]; rfl
  obtain ⟨b, off, rfl, i1, _, _⟩ := hat w (Below.refl _ _) q is[q].cells hm
  obtain ⟨e1, e2, e3, e4⟩ := h5 q _ x hr hx
  refine ⟨b, off, is[q].ev, rfl, i1, is[q].one, e4, fun wr hb => ?_⟩
  obtain ⟨b', off', e, _, i2, hc⟩ := hat wr hb q is[q].cells hm
  cases e
  refine ⟨i2, ?_, ?_, ?_, ?_⟩
  · rw [← e1]; exact hc 0 _ rfl
  · rw [← e2]; exact hc 1 _ rfl
  · exact hc 2 _ rfl
  · rw [← e3]; exact hc 3 _ rfl
def boolCells (x : Bool) : List Value := [.bool x]
def bumpAt (m : List Int) (k : Int) : List Int := m.set k.toNat (wrap64 (m.getD k.toNat 0 + 1))
def manyE (ns : List Int) (m : List Int) (es : List PEnt) : List Int := es.foldl (fun m e => bumpAt m (findN ns e.num)) m
def manyM (ns : List Int) (m : List Int) (xs : List PIn) : List Int := xs.foldl (fun m x => manyE ns m x.ents) m
def pushS (ns : List Int) (s : List Nat × List Bool) (e : PEnt) : List Nat × List Bool :=
  if s.2.getD (findN ns e.num).toNat false = true then s else (s.1 ++ [(findN ns e.num).toNat], s.2.set (findN ns e.num).toNat true)
def pushE (ns : List Int) (s : List Nat × List Bool) (es : List PEnt) : List Nat × List Bool := es.foldl (pushS ns) s
def bfs (ns : List Int) (ins : List PIn) : Nat → List Nat → List Bool → List Bool
  | 0, _, fd => fd
  | _ + 1, [], fd => fd
  | b + 1, k :: td, fd => let r := pushE ns (td, fd) (match ins[k]? with | some x => x.ents | none => []); bfs ns ins b r.1 r.2
def manyOf (S : PSt) : List Int := manyM S.nums (List.replicate S.ins.length 0) S.ins
def foundOf (S : PSt) : List Bool := bfs S.nums S.ins S.ins.length [0] ((List.replicate S.ins.length false).set 0 true)
theorem bumpAt_len (m : List Int) (k : Int) : (bumpAt m k).length = m.length := by simp [bumpAt]
theorem manyE_len (ns : List Int) (es : List PEnt) : ∀ m, (manyE ns m es).length = m.length := by
  induction es with
  | nil => intro m; rfl
  | cons e es ih => intro m; show (manyE ns (bumpAt m (findN ns e.num)) es).length = _; rw [ih, bumpAt_len]
theorem manyM_len (ns : List Int) (xs : List PIn) : ∀ m, (manyM ns m xs).length = m.length := by
  induction xs with
  | nil => intro m; rfl
  | cons x xs ih => intro m; show (manyM ns (manyE ns m x.ents) xs).length = _; rw [ih, manyE_len]
theorem manyE_drop {ns : List Int} {m : List Int} {es : List PEnt} {q : Nat} {e : PEnt} (h : es[q]? = some e) : manyE ns m (es.drop q) = manyE ns (bumpAt m (findN ns e.num)) (es.drop (q + 1)) := by rw [drop_at h]; rfl
theorem manyM_drop {ns : List Int} {m : List Int} {xs : List PIn} {q : Nat} {x : PIn} (h : xs[q]? = some x) : manyM ns m (xs.drop q) = manyM ns (manyE ns m x.ents) (xs.drop (q + 1)) := by rw [drop_at h]; rfl
theorem pushE_drop {ns : List Int} {s : List Nat × List Bool} {es : List PEnt} {q : Nat} {e : PEnt} (h : es[q]? = some e) : pushE ns s (es.drop q) = pushE ns (pushS ns s e) (es.drop (q + 1)) := by rw [drop_at h]; rfl
theorem RowAt.of_blk {α : Type} {w : World} {b cap : Nat} {t : TypeId} (f : α → Value) (xs : List α) (h : Blk w b (xs.map f).toArray t) (hm : xs.length ≤ maxLen) : RowAt w 1 (.slice (some ⟨b, 0, none⟩) xs.length cap) (xs.map fun x => [f x]) := by
  refine ⟨_, _, by rw [List.length_map], by rw [List.length_map]; exact hm, fun _ => ⟨b, 0, rfl, h.lt.lt, fun q cs hq t u hu => ?_⟩⟩
  rw [List.getElem?_map] at hq
  obtain ⟨x, hx, rfl⟩ := Option.map_eq_some_iff.1 hq
  rcases t with _ | t
  · simp only [List.getElem?_cons_zero, Option.some.injEq] at hu
    subst hu
    rw [h.cell]
    simp [hx]
  · simp at hu
theorem count_set (l : List Bool) (f : Nat) (h : l[f]? = some false) : (l.set f true).count false + 1 = l.count false := by
  obtain ⟨hf, he⟩ := List.getElem?_eq_some_iff.1 h
  rw [List.count_set (h := hf)]
  have hm : false ∈ l := by rw [← he]; exact List.getElem_mem hf
  have : 0 < l.count false := List.count_pos_iff.2 hm
  simp [he]
  omega
theorem pushS_len (ns : List Int) (s : List Nat × List Bool) (e : PEnt) : (pushS ns s e).2.length = s.2.length := by
  unfold pushS
  split
  · rfl
  · simp
theorem pushE_len (ns : List Int) (es : List PEnt) : ∀ s, (pushE ns s es).2.length = s.2.length := by
  induction es with
  | nil => intro s; rfl
  | cons e es ih => intro s; show (pushE ns (pushS ns s e) es).2.length = _; rw [ih, pushS_len]
theorem made_map {α : Type} (f : α → Value) (z : α) (n : Nat) : madeCells #[f z] n = ((List.replicate n z).map f).toArray := by
  apply Array.toList_inj.1
  rw [toList_madeCells_one]
  simp
set_option maxRecDepth 100000 in
set_option maxHeartbeats 4000000 in
theorem reached65 (b : Nat) (S : PSt) (w : World) (h : SP w b S) (hwf : S.wf) (hpos : 0 < S.ins.length) (hsm : S.ins.length ≤ 1000) (hfind : ∀ x ∈ S.ins, ∀ e ∈ x.ents, 0 ≤ findN S.nums e.num) :
    Calls Tryz.prog 65 #[.pointer (some ⟨b, 0, none⟩)] w fun e w' => ∃ mv fv, e = .returned (.tuple #[mv, fv]) ∧ Below w.heap.size w w' ∧ RowAt w' 1 mv ((manyOf S).map intCells) ∧ RowAt w' 1 fv ((foundOf S).map boolCells) := by
  have hf : ∀ ww, Below w.heap.size w ww → ∀ n, Calls Tryz.prog 110 #[.pointer (some ⟨b, 0, none⟩), .int .i64 n] ww fun e w' => e = .returned (.int .i64 (findN S.nums n)) ∧ Below ww.heap.size ww w' :=
    fun ww hb n => find_sp b S n ww (h.below hb (Nat.le_refl _)) hwf
  obtain ⟨hl, iv, ov, mv, c0, c1, c2, hr⟩ := h
  have ib : BlockLt b w := ⟨hl⟩
  have hlen := hwf.1
  have HWF := Lib.hid hwf.2.2.2.1
  obtain ⟨ai, capi, rfl, hati⟩ := hr.ins_at2
  have HI := Lib.hid hati
  clear hr hwf hati c1 c2
  obtain ⟨i0, hi, hz0, hz1, hz2⟩ := info_parts info3
  obtain ⟨j0, ji, jz0, jz1, jz2⟩ := info_parts info4
  have hmk : ∀ u : World, (Instr.makeSlice 25 (.int .i64 S.ins.length) (.int .i64 S.ins.length)).run Tryz.prog u = .ok (.slice (some ⟨u.heap.size, 0, none⟩) S.ins.length S.ins.length) (u.alloc (.cells ((List.replicate S.ins.length (0 : Int)).map fun x => Value.int .i64 x).toArray 3)) := fun u => by
    have := run_makeSlice (P := Tryz.prog) u 25 3 i0 _ Tryz.underlying25 hi hz0 .i64 .i64 S.ins.length S.ins.length (by omega) (Int.le_refl _) (by rw [hz1]; omega) (by rw [hz2]; omega) (by omega)
    rw [← made_map (fun x => Value.int .i64 x)]
    simpa [hz1, Value.cells] using this
  have hmk2 : ∀ u : World, (Instr.makeSlice 66 (.int .i64 S.ins.length) (.int .i64 S.ins.length)).run Tryz.prog u = .ok (.slice (some ⟨u.heap.size, 0, none⟩) S.ins.length S.ins.length) (u.alloc (.cells ((List.replicate S.ins.length false).map fun x => Value.bool x).toArray 4)) := fun u => by
    have := run_makeSlice (P := Tryz.prog) u 66 4 j0 _ Tryz.underlying66 ji jz0 .i64 .i64 S.ins.length S.ins.length (by omega) (Int.le_refl _) (by rw [jz1]; omega) (by rw [jz2]; omega) (by omega)
    rw [← made_map (fun x => Value.bool x)]
    simpa [jz1, Value.cells] using this
  obtain ⟨MM, hMM⟩ : ∃ MM, manyOf S = MM := ⟨_, rfl⟩
  obtain ⟨FF, hFF⟩ : ∃ FF, foundOf S = FF := ⟨_, rfl⟩
  rw [hMM, hFF]
  have HMM := Lib.hid (And.intro hMM hFF)
  clear hMM hFF
  go_enter Tryz.func65, Tryz.ntmps65
  go_upto_region 1 with fail
  go_cut [4, 5] (fun s4 s5 wx => ∃ M F : Nat, s4 = .slice (some ⟨M, 0, none⟩) S.ins.length S.ins.length ∧ s5 = .slice (some ⟨F, 0, none⟩) S.ins.length S.ins.length ∧ Below w.heap.size w wx ∧ Blk wx M (Array.replicate S.ins.length (.int .i64 0)) 3 ∧ Blk wx F (Array.replicate S.ins.length (.bool false)) 4 ∧ M ≠ F ∧ w.heap.size ≤ M ∧ w.heap.size ≤ F)
  case first =>
    go_region_held3 (fun w' => w'.cell? ⟨b, 0, none⟩ = some (.slice ai S.ins.length capi))
      (first | (try dsimp only) <;> go_simp)
      (fail)
    all_goals go_wp2_with fail
    all_goals go_meet
    all_goals (refine ⟨_, _, rfl, rfl, bel _ _, ?_, ?_, by omega, by omega, by omega⟩)
    all_goals (repeat (first | exact Blk.new_i _ _ _ _ | refine Blk.alloc ?_ _ | refine Blk.drew ?_))
  case rest =>
    obtain ⟨M, F, rfl, rfl, hb, hM, hF, hMF, hMg, hFg⟩ := hcut
    have iM := hM.lt
    have iF := hF.lt
    have iB : Bel w wc := ⟨hb⟩
    have iL0 : BlockLt b wc := ⟨by have := hb.size; have := ib.lt; omega⟩
    have c0r : wc.cell? ⟨b, 0, none⟩ = some (.slice ai S.ins.length capi) := (hb.cell (p := ⟨b, 0, none⟩) ib.lt).trans c0
    have hM' : Blk wc M ((List.replicate S.ins.length (0 : Int)).map fun x => Value.int .i64 x).toArray 3 := by simpa using hM
    have hF' : Blk wc F ((List.replicate S.ins.length false).map fun x => Value.bool x).toArray 4 := by simpa using hF
    have HMF := Lib.hid (And.intro hM' hF')
    have HG := Lib.hid (And.intro hMF (And.intro hMg hFg))
    have HC0 := Lib.hid c0
    clear hM hF hM' hF' hMF hMg hFg c0
    go_wp2_with fail
    go_loopw [32] (fun i wr => ∃ (q : Nat) (m : List Int), i = .int .i64 q ∧ q ≤ S.ins.length ∧ m.length = S.ins.length ∧ manyM S.nums m (S.ins.drop q) = MM ∧ Below w.heap.size w wr ∧ Blk wr M (m.map fun x => Value.int .i64 x).toArray 3 ∧ Blk wr F ((List.replicate S.ins.length false).map fun x => Value.bool x).toArray 4) (fun i _ => (S.ins.length - intOf i).toNat)
    case atStart => exact ⟨0, List.replicate S.ins.length 0, rfl, by omega, by simp, HMM.out.1, bel _ _, HMF.out.1, HMF.out.2⟩
    case round =>
      obtain ⟨q, m, rfl, hq, hml, hre, hbr, hMr, hFr⟩ := hrel
      rename World => wo
      have iBr : Bel w wo := ⟨hbr⟩
      have iMr := hMr.lt
      have iFr := hFr.lt
      have iL0r : BlockLt b wo := ⟨by have := hbr.size; have := ib.lt; omega⟩
      by_cases hlt : q < S.ins.length
      · obtain ⟨z, hz⟩ : ∃ z, S.ins[q]? = some z := ⟨_, List.getElem?_eq_getElem hlt⟩
        rw [manyM_drop hz] at hre
        obtain ⟨bi, off, ev1, rfl, iG0, ho1, hev, hcl⟩ := HI.out q z hz
        obtain ⟨iGr, y0, y1, y2, y3⟩ := hcl wo hbr
        obtain ⟨hez, _⟩ := (HWF.out z (List.mem_of_getElem? hz)).2
        have hfz := hfind z (List.mem_of_getElem? hz)
        obtain ⟨ae, ce, rfl, hat⟩ := hev.at_
        rw [List.length_map] at y2
        have HE := Lib.hid hat
        have HR := Lib.hid (And.intro hre (And.intro hml (And.intro hMr hFr)))
        have HZ := Lib.hid hfz
        clear hat hev hz hre hMr hFr hml hfz ho1 hcl
        go_wp2_with fail
        go_loopw [39] (fun i w2 => ∃ (k : Nat) (m2 : List Int), i = .int .i64 k ∧ k ≤ z.ents.length ∧ m2.length = S.ins.length ∧ manyE S.nums m2 (z.ents.drop k) = manyE S.nums m z.ents ∧ Keep (fun g => g = M) wo w2 ∧ Blk w2 M (m2.map fun x => Value.int .i64 x).toArray 3) (fun i _ => (z.ents.length - intOf i).toNat)
        case atStart => exact ⟨0, m, rfl, by omega, HR.out.2.1, rfl, ((Keep.refl _ _).alloc _), HR.out.2.2.1.alloc _⟩
        case round =>
          obtain ⟨k, m2, rfl, hk, hm2, hre2, hkp, hM2⟩ := hrel
          have hb2 : Below w.heap.size w wr := hbr.trans (hkp.below hbr.size (fun i hi e => by have := HG.out.2.1; omega))
          have iB2 : Bel w wr := ⟨hb2⟩
          have iM2 := hM2.lt
          have iL2 : BlockLt b wr := ⟨by have := hb2.size; have := ib.lt; omega⟩
          by_cases hlk : k < z.ents.length
          · obtain ⟨e, he⟩ : ∃ e, z.ents[k]? = some e := ⟨_, List.getElem?_eq_getElem hlk⟩
            rw [manyE_drop he] at hre2
            obtain ⟨be, offe, rfl, iE0, iE, hce⟩ := HE.out wr hb2 k e.cells (by rw [List.getElem?_map, he]; rfl)
            have e0 := hce 0 _ rfl
            have e1 := hce 1 _ rfl
            rw [Nat.add_zero] at e0
            have hfe : ∀ ww, Below w.heap.size w ww → Calls Tryz.prog 110 #[.pointer (some ⟨b, 0, none⟩), .int .i64 e.num] ww _ := fun ww hww => hf ww hww e.num
            have hfb := findN_bounds S.nums e.num
            have hnl : S.nums.length = S.ins.length := by unfold PSt.nums; rw [List.length_map]
            have hf0 := HZ.out e (List.mem_of_getElem? he)
            generalize findN S.nums e.num = fv at hfe hfb hf0 hre2
            obtain ⟨f, rfl⟩ : ∃ f : Nat, fv = f := ⟨fv.toNat, by omega⟩
            have hfl : f < S.ins.length := by omega
            obtain ⟨x, hx⟩ : ∃ x, m2[f]? = some x := ⟨_, List.getElem?_eq_getElem (by omega)⟩
            have c3 : wr.cell? ⟨M, f, none⟩ = some (.int .i64 x) := by rw [hM2.cell f]; simp [hx]
            have fz : wr.frozen? ⟨M, f, none⟩ = false := hM2.frozen f
            have hbump : bumpAt m2 (f : Int) = m2.set f (wrap64 (x + 1)) := by
              unfold bumpAt
              rw [Int.toNat_natCast, List.getD_eq_getElem?_getD, hx]
              rfl
            rw [hbump] at hre2
            have HN := Lib.hid (And.intro hre2 (And.intro hkp (And.intro hM2 hm2)))
            have iMg : BlockGe M w := ⟨HG.out.2.1⟩
            clear hce he hfb hnl hbump hx hre2 hkp hM2 hm2 hf0
            go_wp2_with ((go_at_call 110; refine (hfe _ (bel _ _)).mono ?_; rintro e w' ⟨rfl, hb⟩; obtain ⟨p, rfl⟩ := hb.rest; clear hb))
            go_roundw
            case rel =>
              refine ⟨k + 1, m2.set f (wrap64 (x + 1)), by go_num, by omega, by rw [List.length_set]; exact HN.out.2.2.2, HN.out.1, ((HN.out.2.1.setCell (p := ⟨M, f, none⟩) (.inl rfl) _).alloc _).junk _, ?_⟩
              have := ((HN.out.2.2.1.set_ f (.int .i64 (wrap64 (x + 1)))).alloc (Obj.cells #[Value.string e.name, Value.int IntKind.i64 e.num] 99)).junk p
              rw [List.setIfInBounds_toArray, ← List.map_set (f := fun x => Value.int .i64 x)] at this
              exact this
            case measure => simp [intOf]; omega
          · rw [List.drop_of_length_le (by omega)] at hre2
            have hm2e : m2 = manyE S.nums m z.ents := hre2
            have HN := Lib.hid (And.intro hm2e (And.intro hkp (And.intro hM2 hm2)))
            clear hre2 hm2e hkp hM2 hm2
            go_wp2_with fail
            go_roundw
            case rel => exact ⟨q + 1, m2, by go_num, by omega, HN.out.2.2.2, by rw [HN.out.1]; exact HR.out.1, bel _ _, HN.out.2.2.1, HN.out.2.1.blk HR.out.2.2.2 (fun e => by have := HG.out.1; omega)⟩
            case measure => simp [intOf]; omega
      · rw [List.drop_of_length_le (by omega)] at hre
        have hme : m = MM := hre
        subst hme
        have HN := Lib.hid (And.intro hml (And.intro hMr hFr))
        have iFg : BlockGe F w := ⟨HG.out.2.2⟩
        have cF0 : wo.cell? ⟨F, 0, none⟩ = some (.bool false) := by rw [hFr.cell 0]; simp [List.getElem?_replicate, hpos]
        have fF0 : wo.frozen? ⟨F, 0, none⟩ = false := hFr.frozen 0
        clear hre hMr hFr hml
        obtain ⟨X, hX⟩ : ∃ X : Nat → Prop, X = fun g => g < w.heap.size ∨ g = M ∨ g = F := ⟨_, rfl⟩
        have XM : X M := by rw [hX]; exact .inr (.inl rfl)
        have XF : X F := by rw [hX]; exact .inr (.inr rfl)
        have Xw : ∀ i, i < w.heap.size → X i := fun i hi => by rw [hX]; exact .inl hi
        have hXX : ∀ (wz : World), BlockLt M wz → BlockLt F wz → Bel w wz → ∀ g, wz.heap.size ≤ g → ¬ X g := by
          intro wz i1 i2 i3 g hg hx
          rw [hX] at hx
          have := i1.lt; have := i2.lt; have := i3.below.size
          rcases hx with h | h | h <;> omega
        have HX := Lib.hid (And.intro XM (And.intro XF (And.intro Xw hXX)))
        clear XM XF Xw hXX hX
        go_wp2_with fail
        go_loopg [10] S.ins.length (fun gk td wr => ∃ (todo : List Nat) (fd : List Bool), TodoAt X wr td todo ∧ fd.length = S.ins.length ∧ (∀ k ∈ todo, k < S.ins.length) ∧ fd.count false + todo.length ≤ gk ∧ bfs S.nums S.ins gk todo fd = FF ∧ Below w.heap.size w wr ∧ Blk wr M (m.map fun x => Value.int .i64 x).toArray 3 ∧ Blk wr F (fd.map fun x => Value.bool x).toArray 4 ∧ gk ≤ S.ins.length)
        case atStart =>
          refine ⟨[0], (List.replicate S.ins.length false).set 0 true, ?_, by simp, by simpa using hpos, ?_, HMM.out.2, bel _ _, (HN.out.2.1.far (fun e => by have := HG.out.1; simp at e; omega) _).alloc _, ?_, Nat.le_refl _⟩
          · have h0 : SizeIs (wo.setCell ⟨F, 0, none⟩ (.bool true)) wo.heap.size := inferInstance
            exact ⟨wo.heap.size, 0, 1, #[.int .i64 0], rfl, HX.out.2.2.2 wo iMr iFr iBr _ (Nat.le_refl _), Blk.new_i _ _ _ _, by simp, by simp, fun i x hx => by
              rcases i with _ | i
              · simp at hx; subst hx; rfl
              · simp at hx⟩
          · have := count_set (List.replicate S.ins.length false) 0 (by simp [List.getElem?_replicate, hpos])
            rw [List.count_replicate_self] at this
            simp only [List.length_cons, List.length_nil]
            omega
          · have := (HN.out.2.2.set_ 0 (.bool true)).alloc (Obj.cells #[Value.int IntKind.i64 0] 3)
            rw [List.setIfInBounds_toArray, ← List.map_set (f := fun x => Value.bool x)] at this
            exact this
        case round =>
          obtain ⟨todo, fd, hT, hfl, htd, hcnt, hre, hb3, hM3, hF3, hgk⟩ := hrel
          rename World => wq
          have iB3 : Bel w wq := ⟨hb3⟩
          have iM3 := hM3.lt
          have iF3 := hF3.lt
          have iL3 : BlockLt b wq := ⟨by have := hb3.size; have := ib.lt; omega⟩
          have c0q : wq.cell? ⟨b, 0, none⟩ = some (.slice ai S.ins.length capi) := (hb3.cell (p := ⟨b, 0, none⟩) ib.lt).trans HC0.out
          obtain ⟨g, off, cap, arr, rfl, hng, hbk, hle, har, hel⟩ := hT
          rcases todo with _ | ⟨at_, td⟩
          · have hff : fd = FF := by rw [← hre]; rcases gk with _ | gk <;> rfl
            subst hff
            have HP := Lib.hid (And.intro hM3 (And.intro hF3 (And.intro hfl (And.intro HN.out.1 hb3))))
            clear hM3 hF3 hre hcnt htd hel hfl
            simp only [List.length_nil] at *
            go_wp2_with fail
            refine bodyPost_ret (v := .tuple #[.slice (some ⟨M, 0, none⟩) S.ins.length S.ins.length, .slice (some ⟨F, 0, none⟩) S.ins.length S.ins.length]) (by simp [results, Tryz.results65, go_sem]) rfl ⟨_, _, rfl, bel _ _, ?_, ?_⟩
            · have := RowAt.of_blk (cap := S.ins.length) (fun x => Value.int .i64 x) m HP.out.1 (by unfold maxLen; have := HP.out.2.2.2.1; omega)
              rw [HP.out.2.2.2.1] at this
              exact this
            · have := RowAt.of_blk (cap := S.ins.length) (fun x => Value.bool x) fd HP.out.2.1 (by unfold maxLen; have := HP.out.2.2.1; omega)
              rw [HP.out.2.2.1] at this
              exact this
          · rcases gk with _ | gk
            · simp at hcnt
            have hat_ : at_ < S.ins.length := htd at_ (by simp)
            obtain ⟨x, hx⟩ : ∃ x, S.ins[at_]? = some x := ⟨_, List.getElem?_eq_getElem hat_⟩
            have hre : bfs S.nums S.ins gk (pushE S.nums (td, fd) x.ents).1 (pushE S.nums (td, fd) x.ents).2 = FF := by
              rw [← hre]
              show _ = bfs S.nums S.ins gk (pushE S.nums (td, fd) (match S.ins[at_]? with | some x => x.ents | none => [])).1 (pushE S.nums (td, fd) (match S.ins[at_]? with | some x => x.ents | none => [])).2
              rw [hx]
            obtain ⟨bi, offi, ev1, rfl, iG0, ho1, hev, hcl⟩ := HI.out at_ x hx
            obtain ⟨iGq, y0, y1, y2, y3⟩ := hcl wq hb3
            obtain ⟨hez, _⟩ := (HWF.out x (List.mem_of_getElem? hx)).2
            have hfx := hfind x (List.mem_of_getElem? hx)
            obtain ⟨ae, ce, rfl, hat⟩ := hev.at_
            rw [List.length_map] at y2
            have cg0 : wq.cell? ⟨g, off, none⟩ = some (.int .i64 at_) := by rw [hbk.cell]; exact hel 0 at_ rfl
            have iGg := hbk.lt
            have HE := Lib.hid hat
            have HZ := Lib.hid (And.intro hfx (And.intro hre (And.intro htd (And.intro hel hcnt))))
            have HB := Lib.hid (And.intro hbk (And.intro hng (And.intro hM3 (And.intro hF3 (And.intro hfl har)))))
            have hlen1 : (td.length : Int) + 1 ≤ cap := by simp only [List.length_cons] at hle; omega
            clear hat hev hx hre hM3 hF3 hfl hfx ho1 hcl htd hel hcnt hbk hng har
            simp only [List.length_cons] at *
            go_upto_region 15 with fail
            go_cut [10] (fun v10 wx => TodoAt X wx v10 td ∧ wx = wq)
            case first =>
              go_wp2_with fail
              all_goals go_meet
              · have h1 : cap = 1 := by assumption
                refine ⟨⟨g, off, 0, arr, by simp, HB.out.2.1, HB.out.1, by omega, by have := HB.out.2.2.2.2.2; omega, ?_⟩, rfl⟩
                intro i y hy
                obtain ⟨h, _⟩ := List.getElem?_eq_some_iff.1 hy
                omega
              · refine ⟨⟨g, off + 1, cap - 1, arr, rfl, HB.out.2.1, HB.out.1, by omega, by have := HB.out.2.2.2.2.2; omega, ?_⟩, rfl⟩
                intro i y hy
                have := HZ.out.2.2.2.1 (i + 1) y (by simpa using hy)
                rw [← this]
                congr 1
                omega
            case rest =>
              obtain ⟨hT, rfl⟩ := hcut
              rename World => wq
              have HT := Lib.hid hT
              have HT1 := hT
              obtain ⟨g1, off1, cap1, arr1, rfl, -⟩ := HT1
              clear hT
              go_wp2_with fail
              go_loopw [10, 74] (fun v10 i wr => ∃ (k : Nat) (td2 : List Nat) (fd2 : List Bool), i = .int .i64 k ∧ k ≤ x.ents.length ∧ TodoAt X wr v10 td2 ∧ fd2.length = S.ins.length ∧ (∀ y ∈ td2, y < S.ins.length) ∧ pushE S.nums (td2, fd2) (x.ents.drop k) = pushE S.nums (td, fd) x.ents ∧ fd2.count false + td2.length ≤ gk ∧ Below w.heap.size w wr ∧ Blk wr M (m.map fun x => Value.int .i64 x).toArray 3 ∧ Blk wr F (fd2.map fun x => Value.bool x).toArray 4) (fun _ i _ => (x.ents.length - intOf i).toNat)
              case atStart => exact ⟨0, td, fd, rfl, by omega, HT.out, HB.out.2.2.2.2.1, fun y hy => HZ.out.2.2.1 y (List.mem_cons_of_mem _ hy), rfl, by have := HZ.out.2.2.2.2; (try simp only [List.length_cons] at this); omega, hb3, HB.out.2.2.1, HB.out.2.2.2.1⟩
              case round =>
                obtain ⟨k, td2, fd2, rfl, hk, hT2, hf2, htd2, hpu, hcn, hb4, hM4, hF4⟩ := hrel
                have iB4 : Bel w wr := ⟨hb4⟩
                have iM4 := hM4.lt
                have iF4 := hF4.lt
                have iL4 : BlockLt b wr := ⟨by have := hb4.size; have := ib.lt; omega⟩
                by_cases hlk : k < x.ents.length
                · obtain ⟨e, he⟩ : ∃ e, x.ents[k]? = some e := ⟨_, List.getElem?_eq_getElem hlk⟩
                  rw [pushE_drop he] at hpu
                  obtain ⟨be, offe, rfl, iE0, iE, hce⟩ := HE.out wr hb4 k e.cells (by rw [List.getElem?_map, he]; rfl)
                  have e0 := hce 0 _ rfl
                  have e1 := hce 1 _ rfl
                  rw [Nat.add_zero] at e0
                  have hfe : ∀ ww, Below w.heap.size w ww → Calls Tryz.prog 110 #[.pointer (some ⟨b, 0, none⟩), .int .i64 e.num] ww _ := fun ww hww => hf ww hww e.num
                  have hfb := findN_bounds S.nums e.num
                  have hnl : S.nums.length = S.ins.length := by unfold PSt.nums; rw [List.length_map]
                  have hf0 := HZ.out.1 e (List.mem_of_getElem? he)
                  unfold pushS at hpu
                  generalize findN S.nums e.num = fv at hfe hfb hf0 hpu
                  obtain ⟨f, rfl⟩ : ∃ f : Nat, fv = f := ⟨fv.toNat, by omega⟩
                  have hfl : f < S.ins.length := by omega
                  have hflI : (f : Int) < S.ins.length := by omega
                  obtain ⟨y, hy⟩ : ∃ y, fd2[f]? = some y := ⟨_, List.getElem?_eq_getElem (by omega)⟩
                  have c3 : wr.cell? ⟨F, f, none⟩ = some (.bool y) := by rw [hF4.cell f]; simp [hy]
                  have fz : wr.frozen? ⟨F, f, none⟩ = false := hF4.frozen f
                  simp only [Int.toNat_natCast, List.getD_eq_getElem?_getD, hy, Option.getD_some] at hpu
                  obtain ⟨g2, off2, cap2, arr2, rfl, -⟩ := id hT2
                  rcases y with _ | _
                  · simp only [Bool.false_eq_true, if_false] at hpu
                    have hcs := count_set fd2 f hy
                    have HN2 := Lib.hid (And.intro hpu (And.intro htd2 (And.intro hM4 (And.intro hF4 (And.intro hf2 (And.intro hcn hcs))))))
                    have HT2 := Lib.hid hT2
                    have htl : td2.length ≤ 1000000 := by
                      omega
                    clear hce he hfb hnl hy hpu hT2 hM4 hF4 htd2 hf2 hcs hf0
                    go_wp2_with (first | (go_at_call 110; refine (hfe _ (bel _ _)).mono ?_; rintro e w' ⟨rfl, hb⟩; obtain ⟨p, rfl⟩ := hb.rest; clear hb) | (at_builtin; refine wpList_append_todo (by kernel_rfl) info3 _ rfl (.tmp 90) (.tmp 92) rfl X _ td2 rfl (by repeat (first | exact HT2.out | refine TodoAt.alloc ?_ _ | refine TodoAt.junk ?_ _ | refine TodoAt.far ?_ HX.out.2.1 _)) (HX.out.2.2.2 _ inferInstance inferInstance ⟨bel _ _⟩) _ _ f rfl (by go_simp) htl ?_))
                    intro v' w' hT3 hkp3
                    have HT3 := Lib.hid (And.intro hT3 hkp3)
                    obtain ⟨g3, off3, cap3, arr3, rfl, -⟩ := id hT3
                    clear hT3 hkp3
                    go_wp2_with fail
                    go_roundw
                    case rel =>
                      refine ⟨k + 1, td2 ++ [f], fd2.set f true, by go_num, by omega, HT3.out.1, by rw [List.length_set]; exact HN2.out.2.2.2.2.1, ?_, HN2.out.1, ?_, (bel w _).trans (HT3.out.2.below (bel w _).size (fun i hi hn => hn (HX.out.2.2.1 i hi))), ?_, ?_⟩
                      · intro y hy
                        rcases List.mem_append.1 hy with h | h
                        · exact HN2.out.2.1 y h
                        · simp only [List.mem_singleton] at h; omega
                      · have h1 := HN2.out.2.2.2.2.2.1
                        have h2 := HN2.out.2.2.2.2.2.2
                        simp only [List.length_append, List.length_cons, List.length_nil]
                        omega
                      · exact HT3.out.2.blk ((((HN2.out.2.2.1.far (fun e => by have := HG.out.1; simp at e; omega) _).alloc _).junk _).alloc _) (fun hn => hn HX.out.1)
                      · have := HT3.out.2.blk ((((HN2.out.2.2.2.1.set_ f (.bool true)).alloc _).junk _).alloc _) (fun hn => hn HX.out.2.1)
                        rw [List.setIfInBounds_toArray, ← List.map_set (f := fun x => Value.bool x)] at this
                        exact this
                    case measure => simp [intOf]; omega
                  · simp only [if_true] at hpu
                    have HN2 := Lib.hid (And.intro hpu (And.intro htd2 (And.intro hM4 (And.intro hF4 hf2))))
                    have HT2 := Lib.hid hT2
                    clear hce he hfb hnl hy hpu hT2 hM4 hF4 htd2 hf2 hf0
                    go_wp2_with ((go_at_call 110; refine (hfe _ (bel _ _)).mono ?_; rintro e w' ⟨rfl, hb⟩; obtain ⟨p, rfl⟩ := hb.rest; clear hb))
                    go_roundw
                    case rel => exact ⟨k + 1, td2, fd2, by go_num, by omega, by repeat (first | exact HT2.out | refine TodoAt.alloc ?_ _ | refine TodoAt.junk ?_ _), HN2.out.2.2.2.2, HN2.out.2.1, HN2.out.1, hcn, bel _ _, (HN2.out.2.2.1.alloc _).junk _, (HN2.out.2.2.2.1.alloc _).junk _⟩
                    case measure => simp [intOf]; omega
                · rw [List.drop_of_length_le (by omega)] at hpu
                  have hpe : (td2, fd2) = pushE S.nums (td, fd) x.ents := hpu
                  have HN2 := Lib.hid (And.intro hpe (And.intro htd2 (And.intro hM4 (And.intro hF4 (And.intro hf2 (And.intro hT2 hcn))))))
                  obtain ⟨g2, off2, cap2, arr2, rfl, -⟩ := id hT2
                  clear hpu hpe hT2 hM4 hF4 htd2 hf2 hcn
                  go_wp2_with fail
                  go_roundg gk
                  case rel => exact ⟨td2, fd2, HN2.out.2.2.2.2.2.1, HN2.out.2.2.2.2.1, HN2.out.2.1, HN2.out.2.2.2.2.2.2, by have h1 := HZ.out.2.1; rw [← HN2.out.1] at h1; exact h1, bel _ _, HN2.out.2.2.1, HN2.out.2.2.2.1, by omega⟩
                  case measure => omega
end Go.Proofs.YtjkenolgkkknaaaGreatDoor
