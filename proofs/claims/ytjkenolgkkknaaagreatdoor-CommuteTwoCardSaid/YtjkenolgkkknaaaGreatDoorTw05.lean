/- May of the model: what is reached. Conditions: none. May of the model: plain laws, and the whole. Conditions: none. slices.Clone of the four kinds of rows. Conditions: none. -/
import Derived.Test.YtjkenolgkkknaaaGreatDoorTw04
set_option linter.unusedVariables false
set_option linter.unusedSimpArgs false
namespace Go.Proofs.YtjkenolgkkknaaaGreatDoor
open Go.RowKit
/-- An inode's cells where they lie, by its place, in every later world. -/
theorem StRead.ins_at2 {w : World} {iv ov mv : Value} {S : PSt} (h : StRead w iv ov mv S) :
    ∃ a cap, iv = .slice a S.ins.length cap ∧ ∀ (q : Nat) (x : PIn), S.ins[q]? = some x → ∃ b off ev, a = some ⟨b, off, none⟩ ∧ BlockLt b w ∧ ev.oneCell' = true ∧ RowAt w 2 ev (x.ents.map PEnt.cells) ∧
      ∀ wr, Below w.heap.size w wr → BlockLt b wr ∧ wr.cell? ⟨b, off + q * 4, none⟩ = some (.int .i64 x.num) ∧ wr.cell? ⟨b, off + q * 4 + 1, none⟩ = some (.bool x.dir) ∧ wr.cell? ⟨b, off + q * 4 + 2, none⟩ = some ev ∧ wr.cell? ⟨b, off + q * 4 + 3, none⟩ = some (.string x.data) := by
  obtain ⟨_, _, is, h3, h4, h5⟩ := h
  obtain ⟨a, cap, rfl, hat⟩ := h3.at_
  rw [List.length_map]
  refine ⟨a, cap, by rw [h4], fun q x hx => ?_⟩
  obtain ⟨hq, _⟩ := List.getElem?_eq_some_iff.1 hx
  have hr : is[q]? = some is[q] := List.getElem?_eq_getElem (by omega)
  have hm : (is.map IRec.cells)[q]? = some is[q].cells := by rw [List.getElem?_map, hr]; rfl
  obtain ⟨b, off, rfl, i1, _, _⟩ := hat w (Below.refl _ _) q is[q].cells hm
  obtain ⟨e1, e2, e3, e4⟩ := h5 q _ x hr hx
  refine ⟨b, off, is[q].ev, rfl, i1, is[q].one, e4, fun wr hb => ?_⟩
  obtain ⟨b', off', e, _, i2, hc⟩ := hat wr hb q is[q].cells hm
  cases e
  refine ⟨i2, ?_, ?_, ?_, ?_⟩
  · rw [← e1]; exact hc 0 _ rfl
  · rw [← e2]; exact hc 1 _ rfl
  · exact hc 2 _ rfl
  · rw [← e3]; exact hc 3 _ rfl
def boolCells (x : Bool) : List Value := [.bool x]
def bumpAt (m : List Int) (k : Int) : List Int := m.set k.toNat (wrap64 (m.getD k.toNat 0 + 1))
def manyE (ns : List Int) (m : List Int) (es : List PEnt) : List Int := es.foldl (fun m e => bumpAt m (findN ns e.num)) m
def manyM (ns : List Int) (m : List Int) (xs : List PIn) : List Int := xs.foldl (fun m x => manyE ns m x.ents) m
def pushS (ns : List Int) (s : List Nat × List Bool) (e : PEnt) : List Nat × List Bool :=
  if s.2.getD (findN ns e.num).toNat false = true then s else (s.1 ++ [(findN ns e.num).toNat], s.2.set (findN ns e.num).toNat true)
def pushE (ns : List Int) (s : List Nat × List Bool) (es : List PEnt) : List Nat × List Bool := es.foldl (pushS ns) s
def bfs (ns : List Int) (ins : List PIn) : Nat → List Nat → List Bool → List Bool
  | 0, _, fd => fd
  | _ + 1, [], fd => fd
  | b + 1, k :: td, fd => let r := pushE ns (td, fd) (match ins[k]? with | some x => x.ents | none => []); bfs ns ins b r.1 r.2
def manyOf (S : PSt) : List Int := manyM S.nums (List.replicate S.ins.length 0) S.ins
def foundOf (S : PSt) : List Bool := bfs S.nums S.ins S.ins.length [0] ((List.replicate S.ins.length false).set 0 true)
theorem bumpAt_len (m : List Int) (k : Int) : (bumpAt m k).length = m.length := by simp [bumpAt]
theorem manyE_len (ns : List Int) (es : List PEnt) : ∀ m, (manyE ns m es).length = m.length := by
  induction es with
  | nil => intro m; rfl
  | cons e es ih => intro m; show (manyE ns (bumpAt m (findN ns e.num)) es).length = _; rw [ih, bumpAt_len]
theorem manyM_len (ns : List Int) (xs : List PIn) : ∀ m, (manyM ns m xs).length = m.length := by
  induction xs with
  | nil => intro m; rfl
  | cons x xs ih => intro m; show (manyM ns (manyE ns m x.ents) xs).length = _; rw [ih, manyE_len]
theorem manyE_drop {ns : List Int} {m : List Int} {es : List PEnt} {q : Nat} {e : PEnt} (h : es[q]? = some e) : manyE ns m (es.drop q) = manyE ns (bumpAt m (findN ns e.num)) (es.drop (q + 1)) := by rw [drop_at h]; rfl
theorem manyM_drop {ns : List Int} {m : List Int} {xs : List PIn} {q : Nat} {x : PIn} (h : xs[q]? = some x) : manyM ns m (xs.drop q) = manyM ns (manyE ns m x.ents) (xs.drop (q + 1)) := by rw [drop_at h]; rfl
theorem pushE_drop {ns : List Int} {s : List Nat × List Bool} {es : List PEnt} {q : Nat} {e : PEnt} (h : es[q]? = some e) : pushE ns s (es.drop q) = pushE ns (pushS ns s e) (es.drop (q + 1)) := by rw [drop_at h]; rfl
theorem RowAt.of_blk {α : Type} {w : World} {b cap : Nat} {t : TypeId} (f : α → Value) (xs : List α) (h : Blk w b (xs.map f).toArray t) (hm : xs.length ≤ maxLen) : RowAt w 1 (.slice (some ⟨b, 0, none⟩) xs.length cap) (xs.map fun x => [f x]) := by
  refine ⟨_, _, by rw [List.length_map], by rw [List.length_map]; exact hm, fun _ => ⟨b, 0, rfl, h.lt.lt, fun q cs hq t u hu => ?_⟩⟩
  rw [List.getElem?_map] at hq
  obtain ⟨x, hx, rfl⟩ := Option.map_eq_some_iff.1 hq
  rcases t with _ | t
  · simp only [List.getElem?_cons_zero, Option.some.injEq] at hu
    subst hu
    rw [h.cell]
    simp [hx]
  · simp at hu
theorem count_set (l : List Bool) (f : Nat) (h : l[f]? = some false) : (l.set f true).count false + 1 = l.count false := by
  obtain ⟨hf, he⟩ := List.getElem?_eq_some_iff.1 h
  rw [List.count_set (h := hf)]
  have hm : false ∈ l := by rw [← he]; exact List.getElem_mem hf
  have : 0 < l.count false := List.count_pos_iff.2 hm
  simp [he]
  omega
theorem pushS_len (ns : List Int) (s : List Nat × List Bool) (e : PEnt) : (pushS ns s e).2.length = s.2.length := by
  unfold pushS
  split
  · rfl
  · simp
theorem pushE_len (ns : List Int) (es : List PEnt) : ∀ s, (pushE ns s es).2.length = s.2.length := by
  induction es with
  | nil => intro s; rfl
  | cons e es ih => intro s; show (pushE ns (pushS ns s e) es).2.length = _; rw [ih, pushS_len]
theorem made_map {α : Type} (f : α → Value) (z : α) (n : Nat) : madeCells #[f z] n = ((List.replicate n z).map f).toArray := by
  apply Array.toList_inj.1
  rw [toList_madeCells_one]
  simp
set_option maxRecDepth 100000 in
set_option maxHeartbeats 4000000 in
theorem reached65 (b : Nat) (S : PSt) (w : World) (h : SP w b S) (hwf : S.wf) (hpos : 0 < S.ins.length) (hsm : S.ins.length ≤ 1000) (hfind : ∀ x ∈ S.ins, ∀ e ∈ x.ents, 0 ≤ findN S.nums e.num) :
    Calls Tryz.prog 65 #[.pointer (some ⟨b, 0, none⟩)] w fun e w' => ∃ mv fv, e = .returned (.tuple #[mv, fv]) ∧ Below w.heap.size w w' ∧ RowAt w' 1 mv ((manyOf S).map intCells) ∧ RowAt w' 1 fv ((foundOf S).map boolCells) := by
  have hf : ∀ ww, Below w.heap.size w ww → ∀ n, Calls Tryz.prog 110 #[.pointer (some ⟨b, 0, none⟩), .int .i64 n] ww fun e w' => e = .returned (.int .i64 (findN S.nums n)) ∧ Below ww.heap.size ww w' :=
    fun ww hb n => find_sp b S n ww (h.below hb (Nat.le_refl _)) hwf
  obtain ⟨hl, iv, ov, mv, c0, c1, c2, hr⟩ := h
  have ib : BlockLt b w := ⟨hl⟩
  have hlen := hwf.1
  have HWF := Lib.hid hwf.2.2.2.1
  obtain ⟨ai, capi, rfl, hati⟩ := hr.ins_at2
  have HI := Lib.hid hati
  clear hr hwf hati c1 c2
  obtain ⟨i0, hi, hz0, hz1, hz2⟩ := info_parts info3
  obtain ⟨j0, ji, jz0, jz1, jz2⟩ := info_parts info4
  have hmk : ∀ u : World, (Instr.makeSlice 25 (.int .i64 S.ins.length) (.int .i64 S.ins.length)).run Tryz.prog u = .ok (.slice (some ⟨u.heap.size, 0, none⟩) S.ins.length S.ins.length) (u.alloc (.cells ((List.replicate S.ins.length (0 : Int)).map fun x => Value.int .i64 x).toArray 3)) := fun u => by
    have := run_makeSlice (P := Tryz.prog) u 25 3 i0 _ Tryz.underlying25 hi hz0 .i64 .i64 S.ins.length S.ins.length (by omega) (Int.le_refl _) (by rw [hz1]; omega) (by rw [hz2]; omega) (by omega)
    rw [← made_map (fun x => Value.int .i64 x)]
    simpa [hz1, Value.cells] using this
  have hmk2 : ∀ u : World, (Instr.makeSlice 66 (.int .i64 S.ins.length) (.int .i64 S.ins.length)).run Tryz.prog u = .ok (.slice (some ⟨u.heap.size, 0, none⟩) S.ins.length S.ins.length) (u.alloc (.cells ((List.replicate S.ins.length false).map fun x => Value.bool x).toArray 4)) := fun u => by
    have := run_makeSlice (P := Tryz.prog) u 66 4 j0 _ Tryz.underlying66 ji jz0 .i64 .i64 S.ins.length S.ins.length (by omega) (Int.le_refl _) (by rw [jz1]; omega) (by rw [jz2]; omega) (by omega)
    rw [← made_map (fun x => Value.bool x)]
    simpa [jz1, Value.cells] using this
  obtain ⟨MM, hMM⟩ : ∃ MM, manyOf S = MM := ⟨_, rfl⟩
  obtain ⟨FF, hFF⟩ : ∃ FF, foundOf S = FF := ⟨_, rfl⟩
  rw [hMM, hFF]
  have HMM := Lib.hid (And.intro hMM hFF)
  clear hMM hFF
  go_enter Tryz.func65, Tryz.ntmps65
  go_upto_region 1 with fail
  go_cut [4, 5] (fun s4 s5 wx => ∃ M F : Nat, s4 = .slice (some ⟨M, 0, none⟩) S.ins.length S.ins.length ∧ s5 = .slice (some ⟨F, 0, none⟩) S.ins.length S.ins.length ∧ Below w.heap.size w wx ∧ Blk wx M (Array.replicate S.ins.length (.int .i64 0)) 3 ∧ Blk wx F (Array.replicate S.ins.length (.bool false)) 4 ∧ M ≠ F ∧ w.heap.size ≤ M ∧ w.heap.size ≤ F)
  case first =>
    go_region_held3 (fun w' => w'.cell? ⟨b, 0, none⟩ = some (.slice ai S.ins.length capi))
      (first | (try dsimp only) <;> go_simp)
      (fail)
    all_goals go_wp2_with fail
    all_goals go_meet
    all_goals (refine ⟨_, _, rfl, rfl, bel _ _, ?_, ?_, by omega, by omega, by omega⟩)
    all_goals (repeat (first | exact Blk.new_i _ _ _ _ | refine Blk.alloc ?_ _ | refine Blk.drew ?_))
  case rest =>
    obtain ⟨M, F, rfl, rfl, hb, hM, hF, hMF, hMg, hFg⟩ := hcut
    have iM := hM.lt
    have iF := hF.lt
    have iB : Bel w wc := ⟨hb⟩
    have iL0 : BlockLt b wc := ⟨by have := hb.size; have := ib.lt; omega⟩
    have c0r : wc.cell? ⟨b, 0, none⟩ = some (.slice ai S.ins.length capi) := (hb.cell (p := ⟨b, 0, none⟩) ib.lt).trans c0
    have hM' : Blk wc M ((List.replicate S.ins.length (0 : Int)).map fun x => Value.int .i64 x).toArray 3 := by simpa using hM
    have hF' : Blk wc F ((List.replicate S.ins.length false).map fun x => Value.bool x).toArray 4 := by simpa using hF
    have HMF := Lib.hid (And.intro hM' hF')
    have HG := Lib.hid (And.intro hMF (And.intro hMg hFg))
    have HC0 := Lib.hid c0
    clear hM hF hM' hF' hMF hMg hFg c0
    go_wp2_with fail
    go_loopw [32] (fun i wr => ∃ (q : Nat) (m : List Int), i = .int .i64 q ∧ q ≤ S.ins.length ∧ m.length = S.ins.length ∧ manyM S.nums m (S.ins.drop q) = MM ∧ Below w.heap.size w wr ∧ Blk wr M (m.map fun x => Value.int .i64 x).toArray 3 ∧ Blk wr F ((List.replicate S.ins.length false).map fun x => Value.bool x).toArray 4) (fun i _ => (S.ins.length - intOf i).toNat)
    case atStart => exact ⟨0, List.replicate S.ins.length 0, rfl, by omega, by simp, HMM.out.1, bel _ _, HMF.out.1, HMF.out.2⟩
    case round =>
      obtain ⟨q, m, rfl, hq, hml, hre, hbr, hMr, hFr⟩ := hrel
      rename World => wo
      have iBr : Bel w wo := ⟨hbr⟩
      have iMr := hMr.lt
      have iFr := hFr.lt
      have iL0r : BlockLt b wo := ⟨by have := hbr.size; have := ib.lt; omega⟩
      by_cases hlt : q < S.ins.length
      · obtain ⟨z, hz⟩ : ∃ z, S.ins[q]? = some z := ⟨_, List.getElem?_eq_getElem hlt⟩
        rw [manyM_drop hz] at hre
        obtain ⟨bi, off, ev1, rfl, iG0, ho1, hev, hcl⟩ := HI.out q z hz
        obtain ⟨iGr, y0, y1, y2, y3⟩ := hcl wo hbr
        obtain ⟨hez, _⟩ := (HWF.out z (List.mem_of_getElem? hz)).2
        have hfz := hfind z (List.mem_of_getElem? hz)
        obtain ⟨ae, ce, rfl, hat⟩ := hev.at_
        rw [List.length_map] at y2
        have HE := Lib.hid hat
        have HR := Lib.hid (And.intro hre (And.intro hml (And.intro hMr hFr)))
        have HZ := Lib.hid hfz
        clear hat hev hz hre hMr hFr hml hfz ho1 hcl
        go_wp2_with fail
        go_loopw [39] (fun i w2 => ∃ (k : Nat) (m2 : List Int), i = .int .i64 k ∧ k ≤ z.ents.length ∧ m2.length = S.ins.length ∧ manyE S.nums m2 (z.ents.drop k) = manyE S.nums m z.ents ∧ Keep (fun g => g = M) wo w2 ∧ Blk w2 M (m2.map fun x => Value.int .i64 x).toArray 3) (fun i _ => (z.ents.length - intOf i).toNat)
        case atStart => exact ⟨0, m, rfl, by omega, HR.out.2.1, rfl, ((Keep.refl _ _).alloc _), HR.out.2.2.1.alloc _⟩
        case round =>
          obtain ⟨k, m2, rfl, hk, hm2, hre2, hkp, hM2⟩ := hrel
          have hb2 : Below w.heap.size w wr := hbr.trans (hkp.below hbr.size (fun i hi e => by have := HG.out.2.1; omega))
          have iB2 : Bel w wr := ⟨hb2⟩
          have iM2 := hM2.lt
          have iL2 : BlockLt b wr := ⟨by have := hb2.size; have := ib.lt; omega⟩
          by_cases hlk : k < z.ents.length
          · obtain ⟨e, he⟩ : ∃ e, z.ents[k]? = some e := ⟨_, List.getElem?_eq_getElem hlk⟩
            rw [manyE_drop he] at hre2
            obtain ⟨be, offe, rfl, iE0, iE, hce⟩ := HE.out wr hb2 k e.cells (by rw [List.getElem?_map, he]; rfl)
            have e0 := hce 0 _ rfl
            have e1 := hce 1 _ rfl
            rw [Nat.add_zero] at e0
            have hfe : ∀ ww, Below w.heap.size w ww → Calls Tryz.prog 110 #[.pointer (some ⟨b, 0, none⟩), .int .i64 e.num] ww _ := fun ww hww => hf ww hww e.num
            have hfb := findN_bounds S.nums e.num
            have hnl : S.nums.length = S.ins.length := by unfold PSt.nums; rw [List.length_map]
            have hf0 := HZ.out e (List.mem_of_getElem? he)
            generalize findN S.nums e.num = fv at hfe hfb hf0 hre2
            obtain ⟨f, rfl⟩ : ∃ f : Nat, fv = f := ⟨fv.toNat, by omega⟩
            have hfl : f < S.ins.length := by omega
            obtain ⟨x, hx⟩ : ∃ x, m2[f]? = some x := ⟨_, List.getElem?_eq_getElem (by omega)⟩
            have c3 : wr.cell? ⟨M, f, none⟩ = some (.int .i64 x) := by rw [hM2.cell f]; simp [hx]
            have fz : wr.frozen? ⟨M, f, none⟩ = false := hM2.frozen f
            have hbump : bumpAt m2 (f : Int) = m2.set f (wrap64 (x + 1)) := by
              unfold bumpAt
              rw [Int.toNat_natCast, List.getD_eq_getElem?_getD, hx]
              rfl
            rw [hbump] at hre2
            have HN := Lib.hid (And.intro hre2 (And.intro hkp (And.intro hM2 hm2)))
            have iMg : BlockGe M w := ⟨HG.out.2.1⟩
            clear hce he hfb hnl hbump hx hre2 hkp hM2 hm2 hf0
            go_wp2_with ((go_at_call 110; refine (hfe _ (bel _ _)).mono ?_; rintro e w' ⟨rfl, hb⟩; obtain ⟨p, rfl⟩ := hb.rest; clear hb))
            go_roundw
            case rel =>
              refine ⟨k + 1, m2.set f (wrap64 (x + 1)), by go_num, by omega, by rw [List.length_set]; exact HN.out.2.2.2, HN.out.1, ((HN.out.2.1.setCell (p := ⟨M, f, none⟩) (.inl rfl) _).alloc _).junk _, ?_⟩
              have := ((HN.out.2.2.1.set_ f (.int .i64 (wrap64 (x + 1)))).alloc (Obj.cells #[Value.string e.name, Value.int IntKind.i64 e.num] 99)).junk p
              rw [List.setIfInBounds_toArray, ← List.map_set (f := fun x => Value.int .i64 x)] at this
              exact this
            case measure => simp [intOf]; omega
          · rw [List.drop_of_length_le (by omega)] at hre2
            have hm2e : m2 = manyE S.nums m z.ents := hre2
            have HN := Lib.hid (And.intro hm2e (And.intro hkp (And.intro hM2 hm2)))
            clear hre2 hm2e hkp hM2 hm2
            go_wp2_with fail
            go_roundw
            case rel => exact ⟨q + 1, m2, by go_num, by omega, HN.out.2.2.2, by rw [HN.out.1]; exact HR.out.1, bel _ _, HN.out.2.2.1, HN.out.2.1.blk HR.out.2.2.2 (fun e => by have := HG.out.1; omega)⟩
            case measure => simp [intOf]; omega
      · rw [List.drop_of_length_le (by omega)] at hre
        have hme : m = MM := hre
        subst hme
        have HN := Lib.hid (And.intro hml (And.intro hMr hFr))
        have iFg : BlockGe F w := ⟨HG.out.2.2⟩
        have cF0 : wo.cell? ⟨F, 0, none⟩ = some (.bool false) := by rw [hFr.cell 0]; simp [List.getElem?_replicate, hpos]
        have fF0 : wo.frozen? ⟨F, 0, none⟩ = false := hFr.frozen 0
        clear hre hMr hFr hml
        obtain ⟨X, hX⟩ : ∃ X : Nat → Prop, X = fun g => g < w.heap.size ∨ g = M ∨ g = F := ⟨_, rfl⟩
        have XM : X M := by rw [hX]; exact .inr (.inl rfl)
        have XF : X F := by rw [hX]; exact .inr (.inr rfl)
        have Xw : ∀ i, i < w.heap.size → X i := fun i hi => by rw [hX]; exact .inl hi
        have hXX : ∀ (wz : World), BlockLt M wz → BlockLt F wz → Bel w wz → ∀ g, wz.heap.size ≤ g → ¬ X g := by
          intro wz i1 i2 i3 g hg hx
          rw [hX] at hx
          have := i1.lt; have := i2.lt; have := i3.below.size
          rcases hx with h | h | h <;> omega
        have HX := Lib.hid (And.intro XM (And.intro XF (And.intro Xw hXX)))
        clear XM XF Xw hXX hX
        go_wp2_with fail
        go_loopg [10] S.ins.length (fun gk td wr => ∃ (todo : List Nat) (fd : List Bool), TodoAt X wr td todo ∧ fd.length = S.ins.length ∧ (∀ k ∈ todo, k < S.ins.length) ∧ fd.count false + todo.length ≤ gk ∧ bfs S.nums S.ins gk todo fd = FF ∧ Below w.heap.size w wr ∧ Blk wr M (m.map fun x => Value.int .i64 x).toArray 3 ∧ Blk wr F (fd.map fun x => Value.bool x).toArray 4 ∧ gk ≤ S.ins.length)
        case atStart =>
          refine ⟨[0], (List.replicate S.ins.length false).set 0 true, ?_, by simp, by simpa using hpos, ?_, HMM.out.2, bel _ _, (HN.out.2.1.far (fun e => by have := HG.out.1; simp at e; omega) _).alloc _, ?_, Nat.le_refl _⟩
          · have h0 : SizeIs (wo.setCell ⟨F, 0, none⟩ (.bool true)) wo.heap.size := inferInstance
            exact ⟨wo.heap.size, 0, 1, #[.int .i64 0], rfl, HX.out.2.2.2 wo iMr iFr iBr _ (Nat.le_refl _), Blk.new_i _ _ _ _, by simp, by simp, fun i x hx => by
              rcases i with _ | i
              · simp at hx; subst hx; rfl
              · simp at hx⟩
          · have := count_set (List.replicate S.ins.length false) 0 (by simp [List.getElem?_replicate, hpos])
            rw [List.count_replicate_self] at this
            simp only [List.length_cons, List.length_nil]
            omega
          · have := (HN.out.2.2.set_ 0 (.bool true)).alloc (Obj.cells #[Value.int IntKind.i64 0] 3)
            rw [List.setIfInBounds_toArray, ← List.map_set (f := fun x => Value.bool x)] at this
            exact this
        case round =>
          obtain ⟨todo, fd, hT, hfl, htd, hcnt, hre, hb3, hM3, hF3, hgk⟩ := hrel
          rename World => wq
          have iB3 : Bel w wq := ⟨hb3⟩
          have iM3 := hM3.lt
          have iF3 := hF3.lt
          have iL3 : BlockLt b wq := ⟨by have := hb3.size; have := ib.lt; omega⟩
          have c0q : wq.cell? ⟨b, 0, none⟩ = some (.slice ai S.ins.length capi) := (hb3.cell (p := ⟨b, 0, none⟩) ib.lt).trans HC0.out
          obtain ⟨g, off, cap, arr, rfl, hng, hbk, hle, har, hel⟩ := hT
          rcases todo with _ | ⟨at_, td⟩
          · have hff : fd = FF := by rw [← hre]; rcases gk with _ | gk <;> rfl
            subst hff
            have HP := Lib.hid (And.intro hM3 (And.intro hF3 (And.intro hfl (And.intro HN.out.1 hb3))))
            clear hM3 hF3 hre hcnt htd hel hfl
            simp only [List.length_nil] at *
            go_wp2_with fail
            refine bodyPost_ret (v := .tuple #[.slice (some ⟨M, 0, none⟩) S.ins.length S.ins.length, .slice (some ⟨F, 0, none⟩) S.ins.length S.ins.length]) (by simp [results, Tryz.results65, go_sem]) rfl ⟨_, _, rfl, bel _ _, ?_, ?_⟩
            · have := RowAt.of_blk (cap := S.ins.length) (fun x => Value.int .i64 x) m HP.out.1 (by unfold maxLen; have := HP.out.2.2.2.1; omega)
              rw [HP.out.2.2.2.1] at this
              exact this
            · have := RowAt.of_blk (cap := S.ins.length) (fun x => Value.bool x) fd HP.out.2.1 (by unfold maxLen; have := HP.out.2.2.1; omega)
              rw [HP.out.2.2.1] at this
              exact this
          · rcases gk with _ | gk
            · simp at hcnt
            have hat_ : at_ < S.ins.length := htd at_ (by simp)
            obtain ⟨x, hx⟩ : ∃ x, S.ins[at_]? = some x := ⟨_, List.getElem?_eq_getElem hat_⟩
            have hre : bfs S.nums S.ins gk (pushE S.nums (td, fd) x.ents).1 (pushE S.nums (td, fd) x.ents).2 = FF := by
              rw [← hre]
              show _ = bfs S.nums S.ins gk (pushE S.nums (td, fd) (match S.ins[at_]? with | some x => x.ents | none => [])).1 (pushE S.nums (td, fd) (match S.ins[at_]? with | some x => x.ents | none => [])).2
              rw [hx]
            obtain ⟨bi, offi, ev1, rfl, iG0, ho1, hev, hcl⟩ := HI.out at_ x hx
            obtain ⟨iGq, y0, y1, y2, y3⟩ := hcl wq hb3
            obtain ⟨hez, _⟩ := (HWF.out x (List.mem_of_getElem? hx)).2
            have hfx := hfind x (List.mem_of_getElem? hx)
            obtain ⟨ae, ce, rfl, hat⟩ := hev.at_
            rw [List.length_map] at y2
            have cg0 : wq.cell? ⟨g, off, none⟩ = some (.int .i64 at_) := by rw [hbk.cell]; exact hel 0 at_ rfl
            have iGg := hbk.lt
            have HE := Lib.hid hat
            have HZ := Lib.hid (And.intro hfx (And.intro hre (And.intro htd (And.intro hel hcnt))))
            have HB := Lib.hid (And.intro hbk (And.intro hng (And.intro hM3 (And.intro hF3 (And.intro hfl har)))))
            have hlen1 : (td.length : Int) + 1 ≤ cap := by simp only [List.length_cons] at hle; omega
            clear hat hev hx hre hM3 hF3 hfl hfx ho1 hcl htd hel hcnt hbk hng har
            simp only [List.length_cons] at *
            go_upto_region 15 with fail
            go_cut [10] (fun v10 wx => TodoAt X wx v10 td ∧ wx = wq)
            case first =>
              go_wp2_with fail
              all_goals go_meet
              · have h1 : cap = 1 := by assumption
                refine ⟨⟨g, off, 0, arr, by simp, HB.out.2.1, HB.out.1, by omega, by have := HB.out.2.2.2.2.2; omega, ?_⟩, rfl⟩
                intro i y hy
                obtain ⟨h, _⟩ := List.getElem?_eq_some_iff.1 hy
                omega
              · refine ⟨⟨g, off + 1, cap - 1, arr, rfl, HB.out.2.1, HB.out.1, by omega, by have := HB.out.2.2.2.2.2; omega, ?_⟩, rfl⟩
                intro i y hy
                have := HZ.out.2.2.2.1 (i + 1) y (by simpa using hy)
                rw [← this]
                congr 1
                omega
            case rest =>
              obtain ⟨hT, rfl⟩ := hcut
              rename World => wq
              have HT := Lib.hid hT
              have HT1 := hT
              obtain ⟨g1, off1, cap1, arr1, rfl, -⟩ := HT1
              clear hT
              go_wp2_with fail
              go_loopw [10, 74] (fun v10 i wr => ∃ (k : Nat) (td2 : List Nat) (fd2 : List Bool), i = .int .i64 k ∧ k ≤ x.ents.length ∧ TodoAt X wr v10 td2 ∧ fd2.length = S.ins.length ∧ (∀ y ∈ td2, y < S.ins.length) ∧ pushE S.nums (td2, fd2) (x.ents.drop k) = pushE S.nums (td, fd) x.ents ∧ fd2.count false + td2.length ≤ gk ∧ Below w.heap.size w wr ∧ Blk wr M (m.map fun x => Value.int .i64 x).toArray 3 ∧ Blk wr F (fd2.map fun x => Value.bool x).toArray 4) (fun _ i _ => (x.ents.length - intOf i).toNat)
              case atStart => exact ⟨0, td, fd, rfl, by omega, HT.out, HB.out.2.2.2.2.1, fun y hy => HZ.out.2.2.1 y (List.mem_cons_of_mem _ hy), rfl, by have := HZ.out.2.2.2.2; (try simp only [List.length_cons] at this); omega, hb3, HB.out.2.2.1, HB.out.2.2.2.1⟩
              case round =>
                obtain ⟨k, td2, fd2, rfl, hk, hT2, hf2, htd2, hpu, hcn, hb4, hM4, hF4⟩ := hrel
                have iB4 : Bel w wr := ⟨hb4⟩
                have iM4 := hM4.lt
                have iF4 := hF4.lt
                have iL4 : BlockLt b wr := ⟨by have := hb4.size; have := ib.lt; omega⟩
                by_cases hlk : k < x.ents.length
                · obtain ⟨e, he⟩ : ∃ e, x.ents[k]? = some e := ⟨_, List.getElem?_eq_getElem hlk⟩
                  rw [pushE_drop he] at hpu
                  obtain ⟨be, offe, rfl, iE0, iE, hce⟩ := HE.out wr hb4 k e.cells (by rw [List.getElem?_map, he]; rfl)
                  have e0 := hce 0 _ rfl
                  have e1 := hce 1 _ rfl
                  rw [Nat.add_zero] at e0
                  have hfe : ∀ ww, Below w.heap.size w ww → Calls Tryz.prog 110 #[.pointer (some ⟨b, 0, none⟩), .int .i64 e.num] ww _ := fun ww hww => hf ww hww e.num
                  have hfb := findN_bounds S.nums e.num
                  have hnl : S.nums.length = S.ins.length := by unfold PSt.nums; rw [List.length_map]
                  have hf0 := HZ.out.1 e (List.mem_of_getElem? he)
                  unfold pushS at hpu
                  generalize findN S.nums e.num = fv at hfe hfb hf0 hpu
                  obtain ⟨f, rfl⟩ : ∃ f : Nat, fv = f := ⟨fv.toNat, by omega⟩
                  have hfl : f < S.ins.length := by omega
                  have hflI : (f : Int) < S.ins.length := by omega
                  obtain ⟨y, hy⟩ : ∃ y, fd2[f]? = some y := ⟨_, List.getElem?_eq_getElem (by omega)⟩
                  have c3 : wr.cell? ⟨F, f, none⟩ = some (.bool y) := by rw [hF4.cell f]; simp [hy]
                  have fz : wr.frozen? ⟨F, f, none⟩ = false := hF4.frozen f
                  simp only [Int.toNat_natCast, List.getD_eq_getElem?_getD, hy, Option.getD_some] at hpu
                  obtain ⟨g2, off2, cap2, arr2, rfl, -⟩ := id hT2
                  rcases y with _ | _
                  · simp only [Bool.false_eq_true, if_false] at hpu
                    have hcs := count_set fd2 f hy
                    have HN2 := Lib.hid (And.intro hpu (And.intro htd2 (And.intro hM4 (And.intro hF4 (And.intro hf2 (And.intro hcn hcs))))))
                    have HT2 := Lib.hid hT2
                    have htl : td2.length ≤ 1000000 := by
                      omega
                    clear hce he hfb hnl hy hpu hT2 hM4 hF4 htd2 hf2 hcs hf0
                    go_wp2_with (first | (go_at_call 110; refine (hfe _ (bel _ _)).mono ?_; rintro e w' ⟨rfl, hb⟩; obtain ⟨p, rfl⟩ := hb.rest; clear hb) | (at_builtin; refine wpList_append_todo (by kernel_rfl) info3 _ rfl (.tmp 90) (.tmp 92) rfl X _ td2 rfl (by repeat (first | exact HT2.out | refine TodoAt.alloc ?_ _ | refine TodoAt.junk ?_ _ | refine TodoAt.far ?_ HX.out.2.1 _)) (HX.out.2.2.2 _ inferInstance inferInstance ⟨bel _ _⟩) _ _ f rfl (by go_simp) htl ?_))
                    intro v' w' hT3 hkp3
                    have HT3 := Lib.hid (And.intro hT3 hkp3)
                    obtain ⟨g3, off3, cap3, arr3, rfl, -⟩ := id hT3
                    clear hT3 hkp3
                    go_wp2_with fail
                    go_roundw
                    case rel =>
                      refine ⟨k + 1, td2 ++ [f], fd2.set f true, by go_num, by omega, HT3.out.1, by rw [List.length_set]; exact HN2.out.2.2.2.2.1, ?_, HN2.out.1, ?_, (bel w _).trans (HT3.out.2.below (bel w _).size (fun i hi hn => hn (HX.out.2.2.1 i hi))), ?_, ?_⟩
                      · intro y hy
                        rcases List.mem_append.1 hy with h | h
                        · exact HN2.out.2.1 y h
                        · simp only [List.mem_singleton] at h; omega
                      · have h1 := HN2.out.2.2.2.2.2.1
                        have h2 := HN2.out.2.2.2.2.2.2
                        simp only [List.length_append, List.length_cons, List.length_nil]
                        omega
                      · exact HT3.out.2.blk ((((HN2.out.2.2.1.far (fun e => by have := HG.out.1; simp at e; omega) _).alloc _).junk _).alloc _) (fun hn => hn HX.out.1)
                      · have := HT3.out.2.blk ((((HN2.out.2.2.2.1.set_ f (.bool true)).alloc _).junk _).alloc _) (fun hn => hn HX.out.2.1)
                        rw [List.setIfInBounds_toArray, ← List.map_set (f := fun x => Value.bool x)] at this
                        exact this
                    case measure => simp [intOf]; omega
                  · simp only [if_true] at hpu
                    have HN2 := Lib.hid (And.intro hpu (And.intro htd2 (And.intro hM4 (And.intro hF4 hf2))))
                    have HT2 := Lib.hid hT2
                    clear hce he hfb hnl hy hpu hT2 hM4 hF4 htd2 hf2 hf0
                    go_wp2_with ((go_at_call 110; refine (hfe _ (bel _ _)).mono ?_; rintro e w' ⟨rfl, hb⟩; obtain ⟨p, rfl⟩ := hb.rest; clear hb))
                    go_roundw
                    case rel => exact ⟨k + 1, td2, fd2, by go_num, by omega, by repeat (first | exact HT2.out | refine TodoAt.alloc ?_ _ | refine TodoAt.junk ?_ _), HN2.out.2.2.2.2, HN2.out.2.1, HN2.out.1, hcn, bel _ _, (HN2.out.2.2.1.alloc _).junk _, (HN2.out.2.2.2.1.alloc _).junk _⟩
                    case measure => simp [intOf]; omega
                · rw [List.drop_of_length_le (by omega)] at hpu
                  have hpe : (td2, fd2) = pushE S.nums (td, fd) x.ents := hpu
                  have HN2 := Lib.hid (And.intro hpe (And.intro htd2 (And.intro hM4 (And.intro hF4 (And.intro hf2 (And.intro hT2 hcn))))))
                  obtain ⟨g2, off2, cap2, arr2, rfl, -⟩ := id hT2
                  clear hpu hpe hT2 hM4 hF4 htd2 hf2 hcn
                  go_wp2_with fail
                  go_roundg gk
                  case rel => exact ⟨td2, fd2, HN2.out.2.2.2.2.2.1, HN2.out.2.2.2.2.1, HN2.out.2.1, HN2.out.2.2.2.2.2.2, by have h1 := HZ.out.2.1; rw [← HN2.out.1] at h1; exact h1, bel _ _, HN2.out.2.2.1, HN2.out.2.2.2.1, by omega⟩
                  case measure => omega
end Go.Proofs.YtjkenolgkkknaaaGreatDoor
namespace Go.Proofs.YtjkenolgkkknaaaGreatDoor
open Go.RowKit
theorem entsB_find (ns : List Int) : ∀ (es : List PEnt) (prev : Option ByteArray) (sl : List Int), entsB ns prev sl es = true → ∀ e ∈ es, 0 ≤ findN ns e.num
  | [], _, _, _, e, he => by simp at he
  | x :: es, prev, sl, h, e, he => by
    unfold entsB at h
    split at h
    · simp at h
    split at h
    · simp at h
    split at h
    · simp at h
    split at h
    · simp at h
    rename_i h4
    rcases List.mem_cons.1 he with rfl | he
    · omega
    · split at h
      · split at h
        · simp at h
        · exact entsB_find ns es _ _ h e he
      · simp at h
theorem mayIns_find {S : PSt} (h : mayInsM S = true) : ∀ x ∈ S.ins, ∀ e ∈ x.ents, 0 ≤ findN S.nums e.num := by
  unfold mayInsM at h
  split at h
  · simp at h
  split at h
  · split at h
    · simp only [Bool.and_eq_true, List.all_eq_true] at h
      intro x hx e he
      have := h.2 x hx
      unfold inB at this
      split at this
      · simp only [Bool.and_eq_true] at this
        exact entsB_find _ _ _ _ this.2 e he
      · simp only [Bool.and_eq_true, decide_eq_true_eq] at this
        rw [List.eq_nil_of_length_eq_zero this.1] at he
        simp at he
    · simp at h
  · simp at h
theorem mayNum_le {made : List Int} {n : Int} (h : mayNumM made n = true) (h8 : made.length ≤ 8) (hm : ∀ m ∈ made, m ≤ 32) : 2 ≤ n ∧ n ≤ 257 := by
  unfold mayNumM at h
  split at h
  · simp at h
  rename_i h2
  split at h
  · rename_i m hm'
    have := hm m (List.mem_of_getElem? hm')
    simp only [decide_eq_true_eq] at h
    omega
  · simp at h
theorem numsB_len {made : List Int} (h8 : made.length ≤ 8) (hm : ∀ m ∈ made, m ≤ 32) : ∀ (l : List Int) (p : Int), numsB made p l = true → p ≤ 257 → p + l.length ≤ 257
  | [], p, _, hp => by simpa using hp
  | n :: l, p, h, hp => by
    unfold numsB at h
    split at h
    · simp at h
    rename_i h1
    split at h
    · simp at h
    rename_i h2
    have hn : mayNumM made n = true := by simpa using h2
    have := numsB_len h8 hm l n h (mayNum_le hn h8 hm).2
    simp only [List.length_cons]
    omega
theorem may_len {S : PSt} (h1 : mayMadeM S.made = true) (h2 : mayInsM S = true) : 0 < S.ins.length ∧ S.ins.length ≤ 257 := by
  unfold mayMadeM at h1
  simp only [Bool.and_eq_true, Bool.not_eq_true', Bool.or_eq_false_iff, decide_eq_false_iff_not] at h1
  have hm : ∀ m ∈ S.made, m ≤ 32 := by
    intro m hm
    have h3 := h1.2
    rw [List.any_eq_false] at h3
    have := h3 m hm
    unfold badMade at this
    simp at this
    omega
  unfold mayInsM at h2
  split at h2
  · simp at h2
  rename_i x r hins
  split at h2
  · split at h2
    · simp only [Bool.and_eq_true] at h2
      have := numsB_len (by omega) hm _ _ h2.1 (by omega)
      rw [hins]
      simp only [List.length_cons, List.length_map] at this ⊢
      omega
    · simp at h2
  · simp at h2
def mayLoop (many : List Int) (found : List Bool) (op : List PDesc) : Nat → List PIn → Bool
  | _, [] => true
  | i, x :: r => if i = 0 then mayLoop many found op (i + 1) r else
    if (x.dir && (!(many.getD i 0 == 1) || !found.getD i false)) = true then false else
    if (!x.dir && (!found.getD i false && (decide (0 < many.getD i 0) || !openM op x.num))) = true then false else mayLoop many found op (i + 1) r
def mayM (S : PSt) : Bool := if (mayMadeM S.made && mayInsM S && mayOpenM S) = true then mayLoop (manyOf S) (foundOf S) S.op 0 S.ins else false
theorem bfs_len (ns : List Int) (ins : List PIn) : ∀ b td fd, (bfs ns ins b td fd).length = fd.length
  | 0, _, _ => rfl
  | _ + 1, [], _ => rfl
  | b + 1, k :: td, fd => by
    show (bfs ns ins b (pushE ns (td, fd) (match ins[k]? with | some x => x.ents | none => [])).1 (pushE ns (td, fd) (match ins[k]? with | some x => x.ents | none => [])).2).length = _
    rw [bfs_len, pushE_len]
theorem manyOf_len (S : PSt) : (manyOf S).length = S.ins.length := by unfold manyOf; rw [manyM_len]; simp
theorem foundOf_len (S : PSt) : (foundOf S).length = S.ins.length := by unfold foundOf; rw [bfs_len]; simp
theorem StRead.box {w : World} {iv ov mv : Value} {S : PSt} (h : StRead w iv ov mv S) (t : TypeId) : SP (w.alloc (.cells #[iv, ov, mv] t)) w.heap.size S :=
  ⟨by simp, iv, ov, mv, by go_simp, by go_simp, by go_simp, h.below ((Below.refl _ _).alloc (Nat.le_refl _) _) (Nat.le_refl _)⟩
set_option maxRecDepth 100000 in
set_option maxHeartbeats 4000000 in
theorem may37 (iv ov mv : Value) (S : PSt) (w : World) (h : StRead w iv ov mv S) (hwf : S.wf) :
    Calls Tryz.prog 37 #[.agg #[iv, ov, mv]] w fun e w' => e = .returned (.bool (mayM S)) ∧ Below w.heap.size w w' := by
  have hsp := h.box 27
  have H1 : ∀ ww, Below (w.alloc (.cells #[iv, ov, mv] 27)).heap.size (w.alloc (.cells #[iv, ov, mv] 27)) ww → Calls Tryz.prog 62 #[.pointer (some ⟨w.heap.size, 0, none⟩)] ww _ := fun ww hb => mayMade62 _ S ww (hsp.below hb (Nat.le_refl _)) hwf
  have H2 : ∀ ww, Below (w.alloc (.cells #[iv, ov, mv] 27)).heap.size (w.alloc (.cells #[iv, ov, mv] 27)) ww → Calls Tryz.prog 63 #[.pointer (some ⟨w.heap.size, 0, none⟩)] ww _ := fun ww hb => mayIns63 _ S ww (hsp.below hb (Nat.le_refl _)) hwf
  have H3 : ∀ ww, Below (w.alloc (.cells #[iv, ov, mv] 27)).heap.size (w.alloc (.cells #[iv, ov, mv] 27)) ww → Calls Tryz.prog 64 #[.pointer (some ⟨w.heap.size, 0, none⟩)] ww _ := fun ww hb => mayOpen64 _ S ww (hsp.below hb (Nat.le_refl _)) hwf
  have H4 : mayMadeM S.made = true → mayInsM S = true → ∀ ww, Below (w.alloc (.cells #[iv, ov, mv] 27)).heap.size (w.alloc (.cells #[iv, ov, mv] 27)) ww → Calls Tryz.prog 65 #[.pointer (some ⟨w.heap.size, 0, none⟩)] ww fun e w' => ∃ mv fv, e = .returned (.tuple #[mv, fv]) ∧ Below ww.heap.size ww w' ∧ RowAt w' 1 mv ((manyOf S).map intCells) ∧ RowAt w' 1 fv ((foundOf S).map boolCells) :=
    fun h1 h2 ww hb => reached65 _ S ww (hsp.below hb (Nat.le_refl _)) hwf (may_len h1 h2).1 (by have := (may_len h1 h2).2; omega) (mayIns_find h2)
  have h1 := h.1.one
  have h2 := h.2.1.one
  have h3 : iv.oneCell' = true := by obtain ⟨_, _, _, h3, _⟩ := h; exact h3.one
  have HL := Lib.hid (And.intro (manyOf_len S) (foundOf_len S))
  unfold mayM
  generalize hm1 : mayMadeM S.made = m1 at *
  generalize hm2 : mayInsM S = m2 at *
  generalize mayOpenM S = m3 at *
  rcases m1 with _ | _
  · clear hsp h hwf H2 H3 H4
    go_enter Tryz.func37, Tryz.ntmps37
    go_wp2_with ((go_at_call 62; refine (H1 _ (bel (w.alloc (.cells #[iv, ov, mv] 27)) _)).mono ?_; rintro e w' ⟨rfl, hb⟩; obtain ⟨p, rfl⟩ := hb.rest; clear hb))
    go_ret
    exact ⟨rfl, bel _ _⟩
  rcases m2 with _ | _
  · clear hsp h hwf H3 H4
    go_enter Tryz.func37, Tryz.ntmps37
    go_wp2_with (first | (go_at_call 62; refine (H1 _ (bel (w.alloc (.cells #[iv, ov, mv] 27)) _)).mono ?_; rintro e w' ⟨rfl, hb⟩; obtain ⟨p, rfl⟩ := hb.rest; clear hb) | (go_at_call 63; refine (H2 _ (bel (w.alloc (.cells #[iv, ov, mv] 27)) _)).mono ?_; rintro e w' ⟨rfl, hb⟩; obtain ⟨p, rfl⟩ := hb.rest; clear hb))
    go_ret
    exact ⟨rfl, bel _ _⟩
  rcases m3 with _ | _
  · clear hsp h hwf H4
    go_enter Tryz.func37, Tryz.ntmps37
    go_wp2_with (first | (go_at_call 62; refine (H1 _ (bel (w.alloc (.cells #[iv, ov, mv] 27)) _)).mono ?_; rintro e w' ⟨rfl, hb⟩; obtain ⟨p, rfl⟩ := hb.rest; clear hb) | (go_at_call 63; refine (H2 _ (bel (w.alloc (.cells #[iv, ov, mv] 27)) _)).mono ?_; rintro e w' ⟨rfl, hb⟩; obtain ⟨p, rfl⟩ := hb.rest; clear hb) | (go_at_call 64; refine (H3 _ (bel (w.alloc (.cells #[iv, ov, mv] 27)) _)).mono ?_; rintro e w' ⟨rfl, hb⟩; obtain ⟨p, rfl⟩ := hb.rest; clear hb))
    go_ret
    exact ⟨rfl, bel _ _⟩
  simp only [Bool.and_self, if_true]
  have H5 : ∀ ww, Below (w.alloc (.cells #[iv, ov, mv] 27)).heap.size (w.alloc (.cells #[iv, ov, mv] 27)) ww → ∀ n, Calls Tryz.prog 66 #[.pointer (some ⟨w.heap.size, 0, none⟩), .int .i64 n] ww fun e w' => e = .returned (.bool (openM S.op n)) ∧ Below ww.heap.size ww w' := fun ww hb n => open66 _ S n ww (hsp.below hb (Nat.le_refl _)) hwf
  have h4 := H4 rfl rfl
  have hlen := hwf.1
  have HB := Lib.hid h
  clear H4 h hwf hm1 hm2
  obtain ⟨R, hR⟩ : ∃ R, mayLoop (manyOf S) (foundOf S) S.op 0 S.ins = R := ⟨_, rfl⟩
  rw [hR]
  have HR := Lib.hid hR
  clear hR
  go_enter Tryz.func37, Tryz.ntmps37
  go_wp2_with (first | (go_at_call 62; refine (H1 _ (bel (w.alloc (.cells #[iv, ov, mv] 27)) _)).mono ?_; rintro e w' ⟨rfl, hb⟩; obtain ⟨p, rfl⟩ := hb.rest; clear hb) | (go_at_call 63; refine (H2 _ (bel (w.alloc (.cells #[iv, ov, mv] 27)) _)).mono ?_; rintro e w' ⟨rfl, hb⟩; obtain ⟨p, rfl⟩ := hb.rest; clear hb) | (go_at_call 64; refine (H3 _ (bel (w.alloc (.cells #[iv, ov, mv] 27)) _)).mono ?_; rintro e w' ⟨rfl, hb⟩; obtain ⟨p, rfl⟩ := hb.rest; clear hb) | (go_at_call 65; refine (h4 _ (bel (w.alloc (.cells #[iv, ov, mv] 27)) _)).mono ?_; rintro e wz ⟨mv', fv', rfl, hbz, hr1, hr2⟩; have hbz' := (bel (w.alloc (.cells #[iv, ov, mv] 27)) _).trans (hbz.mono (bel (w.alloc (.cells #[iv, ov, mv] 27)) _).size); have hbw : Below w.heap.size w wz := ((Below.refl _ _).alloc (Nat.le_refl _) _).trans (hbz'.mono (by simp)); obtain ⟨hlz, ivz, ovz, mvz, z0, z1, z2, hrz⟩ := hsp.below hbz' (Nat.le_refl _); obtain ⟨ai, capi, rfl, hati⟩ := hrz.ins_at2; have HI := Lib.hid (And.intro hati (And.intro hbz' hbw)); obtain ⟨am, cm, rfl, hmat⟩ := hr1.at_; obtain ⟨af, cf, rfl, hfat⟩ := hr2.at_; have HM := Lib.hid (And.intro hmat hfat); rw [List.length_map, List.length_map, HL.out.1, HL.out.2]; clear hbz hbz' hrz hati hr1 hr2 hmat hfat hbw z1 z2; have iZ : BlockLt w.heap.size wz := ⟨hlz⟩))
  go_loopw [24] (fun i wr => ∃ (q : Nat), i = .int .i64 q ∧ q ≤ S.ins.length ∧ mayLoop (manyOf S) (foundOf S) S.op q (S.ins.drop q) = R ∧ Below wz.heap.size wz wr) (fun i _ => (S.ins.length - intOf i).toNat)
  case atStart => exact ⟨0, rfl, by omega, HR.out, bel _ _⟩
  case round =>
    obtain ⟨q, rfl, hq, hre, hbr⟩ := hrel
    have iBz : Bel wz wr := ⟨hbr⟩
    have hbw : Below w.heap.size w wr := HI.out.2.2.trans (hbr.mono HI.out.2.2.size)
    have iBw : Bel w wr := ⟨hbw⟩
    have iZr : BlockLt w.heap.size wr := ⟨by have := hbr.size; have := iZ.lt; omega⟩
    by_cases hlt : q < S.ins.length
    · obtain ⟨x, hx⟩ : ∃ x, S.ins[q]? = some x := ⟨_, List.getElem?_eq_getElem hlt⟩
      rw [drop_at hx] at hre
      unfold mayLoop at hre
      obtain ⟨bi, offi, ev1, rfl, iG0, ho1, hev, hcl⟩ := HI.out.1 q x hx
      obtain ⟨iGr, y0, y1, y2, y3⟩ := hcl wr hbr
      obtain ⟨mq, hmq⟩ : ∃ mq, (manyOf S)[q]? = some mq := ⟨_, List.getElem?_eq_getElem (by have := HL.out.1; omega)⟩
      obtain ⟨fq, hfq⟩ : ∃ fq, (foundOf S)[q]? = some fq := ⟨_, List.getElem?_eq_getElem (by have := HL.out.2; omega)⟩
      obtain ⟨bm, offm, rfl, iM0, iMr, hcm⟩ := HM.out.1 wr hbr q (intCells mq) (by rw [List.getElem?_map, hmq]; rfl)
      obtain ⟨bf, offf, rfl, iF0, iFr, hcf⟩ := HM.out.2 wr hbr q (boolCells fq) (by rw [List.getElem?_map, hfq]; rfl)
      have m0 := hcm 0 _ rfl
      have f0 := hcf 0 _ rfl
      rw [Nat.mul_one, Nat.add_zero] at m0 f0
      rw [List.getD_eq_getElem?_getD, List.getD_eq_getElem?_getD, hmq, hfq, Option.getD_some, Option.getD_some] at hre
      have hop : ∀ ww, Below wr.heap.size wr ww → Calls Tryz.prog 66 #[.pointer (some ⟨w.heap.size, 0, none⟩), .int .i64 x.num] ww _ := fun ww hww => H5 ww (HI.out.2.1.trans ((hbr.trans (hww.mono hbr.size)).mono HI.out.2.1.size)) x.num
      generalize openM S.op x.num = ob at hop hre
      have hqI : (q : Int) < S.ins.length := by omega
      obtain ⟨ae, ce, rfl, -⟩ := hev
      rw [List.length_map] at y2
      clear hx hcl hcm hcf hmq hfq H5 H1 H2 H3 h4 hsp
      by_cases hq0 : q = 0
      · have hq0I : (q : Int) = 0 := by omega
        rw [if_pos hq0] at hre
        have HRE := Lib.hid hre
        clear hre hqI hq0I
        subst hq0
        simp only [Nat.zero_mul, Nat.add_zero] at y0 y1 y2 y3
        go_wp2_with fail
        go_roundw
        case rel => exact ⟨1, rfl, by omega, HRE.out, bel _ _⟩
        case measure => simp [intOf]; omega
      · rw [if_neg hq0] at hre
        have hqb : ((q : Int) == 0) = false := by simpa using hq0
        have hqb2 : (q == 0) = false := by simpa using hq0
        generalize x.dir = d at hre y1
        rcases d with _ | _
        · simp only [Bool.false_and, Bool.false_eq_true, if_false, Bool.not_false, Bool.true_and] at hre
          rcases fq with _ | _
          · simp only [Bool.not_false, Bool.true_and] at hre
            by_cases hm : 0 < mq
            · have hmb : decide (0 < mq) = true := decide_eq_true hm
              rw [hmb] at hre
              simp only [Bool.true_or, if_true] at hre
              subst hre
              go_wp2_with fail
              exact bodyPost_ret (v := .bool false) (by simp [results, Tryz.results37, go_sem]) rfl ⟨rfl, bel _ _⟩
            · have hmb : decide (0 < mq) = false := decide_eq_false hm
              rw [hmb, Bool.false_or] at hre
              rcases ob with _ | _
              · simp only [Bool.not_false, if_true] at hre
                subst hre
                go_wp2_with ((go_at_call 66; refine (hop _ (bel _ _)).mono ?_; rintro e w' ⟨rfl, hb⟩; obtain ⟨p, rfl⟩ := hb.rest; clear hb))
                exact bodyPost_ret (v := .bool false) (by simp [results, Tryz.results37, go_sem]) rfl ⟨rfl, bel _ _⟩
              · simp only [Bool.not_true, Bool.false_eq_true, if_false] at hre
                have HRE := Lib.hid hre
                clear hre
                go_wp2_with ((go_at_call 66; refine (hop _ (bel _ _)).mono ?_; rintro e w' ⟨rfl, hb⟩; obtain ⟨p, rfl⟩ := hb.rest; clear hb))
                go_roundw
                case rel => exact ⟨q + 1, by go_num, by omega, HRE.out, bel _ _⟩
                case measure => simp [intOf]; omega
          · simp only [Bool.not_true, Bool.false_and, Bool.false_eq_true, if_false] at hre
            have HRE := Lib.hid hre
            clear hre
            go_wp2_with fail
            go_roundw
            case rel => exact ⟨q + 1, by go_num, by omega, HRE.out, bel _ _⟩
            case measure => simp [intOf]; omega
        · simp only [Bool.true_and, Bool.not_true, Bool.false_and, Bool.false_eq_true, if_false] at hre
          by_cases hm : mq = 1
          · have hmb : (mq == 1) = true := by simpa using hm
            rw [hmb] at hre
            rcases fq with _ | _
            · simp only [Bool.not_true, Bool.not_false, Bool.false_or, if_true] at hre
              subst hre
              subst hm
              go_wp2_with fail
              exact bodyPost_ret (v := .bool false) (by simp [results, Tryz.results37, go_sem]) rfl ⟨rfl, bel _ _⟩
            · simp only [Bool.not_true, Bool.false_or, Bool.false_eq_true, if_false] at hre
              have HRE := Lib.hid hre
              clear hre
              subst hm
              go_wp2_with fail
              go_roundw
              case rel => exact ⟨q + 1, by go_num, by omega, HRE.out, bel _ _⟩
              case measure => simp [intOf]; omega
          · have hmb : (mq == 1) = false := by simpa using hm
            rw [hmb] at hre
            simp only [Bool.not_false, Bool.true_or, if_true] at hre
            subst hre
            go_wp2_with fail
            exact bodyPost_ret (v := .bool false) (by simp [results, Tryz.results37, go_sem]) rfl ⟨rfl, bel _ _⟩
    · rw [List.drop_of_length_le (by omega)] at hre
      have hRt : R = true := by rw [← hre]; rfl
      subst hRt
      clear hre
      go_wp2_with fail
      exact bodyPost_ret (v := .bool true) (by simp [results, Tryz.results37, go_sem]) rfl ⟨rfl, bel _ _⟩
end Go.Proofs.YtjkenolgkkknaaaGreatDoor
namespace Go.Proofs.YtjkenolgkkknaaaGreatDoor
open Go.RowKit
theorem info65 : (Tryz.prog.info? 65).map (fun i => (i.zero, i.size, i.bytes)) = some (some (.agg #[.int .i64 0, .bool false, .slice none 0 0, .string ByteArray.empty]), 4, 56) := by kernel_rfl
theorem info99 : (Tryz.prog.info? 99).map (fun i => (i.zero, i.size, i.bytes)) = some (some (.agg #[.string ByteArray.empty, .int .i64 0]), 2, 24) := by kernel_rfl
theorem info88 : (Tryz.prog.info? 88).map (fun i => (i.zero, i.size, i.bytes)) = some (some (.agg #[.int .i64 0, .int .i64 0, .int .i64 0]), 3, 24) := by kernel_rfl
theorem flat_at {α : Type} (k : Nat) : ∀ (rows : List (List α)), (∀ cs ∈ rows, cs.length = k) → ∀ q t, t < k → rows.flatten[q * k + t]? = (rows[q]?).bind fun cs => cs[t]?
  | [], _, q, t, _ => by simp
  | c :: r, h, q, t, ht => by
    have hc : c.length = k := h c (by simp)
    rw [List.flatten_cons]
    rcases q with _ | q
    · rw [Nat.zero_mul, Nat.zero_add, List.getElem?_append_left (by omega)]
      rfl
    · rw [List.getElem?_append_right (by rw [hc, Nat.add_mul]; omega), hc, show (q + 1) * k + t - k = q * k + t by rw [Nat.add_mul]; omega, flat_at k r (fun cs hcs => h cs (by simp [hcs])) q t ht]
      rfl
theorem flat_len {α : Type} (k : Nat) : ∀ (rows : List (List α)), (∀ cs ∈ rows, cs.length = k) → rows.flatten.length = rows.length * k
  | [], _ => by simp
  | c :: r, h => by
    rw [List.flatten_cons, List.length_append, flat_len k r (fun cs hcs => h cs (by simp [hcs])), h c (by simp), List.length_cons, Nat.add_mul]
    omega
/-- A row that is read, as one list of cells. -/
theorem RowAt.flat {w : World} {k : Nat} {v : Value} {rows : List (List Value)} (h : RowAt w k v rows) (hk : 0 < k) (hu : ∀ cs ∈ rows, cs.length = k) :
    ∃ a cap, v = .slice a rows.length cap ∧ ∀ x, a = some x → ∀ j u, rows.flatten[j]? = some u → w.cell? (x.add j) = some u := by
  obtain ⟨a, cap, rfl, hm, hr⟩ := h
  refine ⟨a, cap, rfl, fun x hx j u hj => ?_⟩
  have hjl : j < rows.length * k := by
    obtain ⟨h, _⟩ := List.getElem?_eq_some_iff.1 hj
    rwa [flat_len k rows hu] at h
  have hpos : 0 < rows.length := by
    rcases Nat.eq_zero_or_pos rows.length with h0 | h0
    · rw [h0, Nat.zero_mul] at hjl; omega
    · exact h0
  obtain ⟨b, off, hab, _, hc⟩ := hr hpos
  subst hx
  obtain rfl : x = ⟨b, off, none⟩ := by simpa using hab
  have hj2 : j = j / k * k + j % k := by rw [Nat.mul_comm]; exact (Nat.div_add_mod j k).symm
  rw [hj2] at hj ⊢
  have ht : j % k < k := Nat.mod_lt _ hk
  rw [flat_at k rows hu _ _ ht] at hj
  obtain ⟨cs, hcs, hcu⟩ := Option.bind_eq_some_iff.1 hj
  rw [Addr.add_lit]
  show w.cell? ⟨b, off + (j / k * k + j % k), none⟩ = some u
  rw [← Nat.add_assoc]
  exact hc _ _ hcs _ _ hcu
set_option maxRecDepth 100000 in
set_option maxHeartbeats 2000000 in
theorem clone67 (rows : List (List Value)) (v : Value) (w : World) (h : RowAt w 4 v rows) (hu : ∀ cs ∈ rows, cs.length = 4) (h1 : ∀ cs ∈ rows, ∀ u ∈ cs, u.oneCell' = true) (hn : rows.length ≤ 1000000000) :
    Calls Tryz.prog 67 #[v] w fun e w' => ∃ v', e = .returned v' ∧ w'.ownsRow w.heap.size 65 4 v' rows.length rows.flatten ∧ Below w.heap.size w w' := by
  obtain ⟨i0, hi, hz0, hz1, hz2⟩ := info_parts info65
  have hl := flat_len 4 rows hu
  have h1' : ∀ u ∈ rows.flatten, u.oneCell' = true := fun u hm => by
    obtain ⟨cs, hc, hm⟩ := List.mem_flatten.1 hm
    exact h1 cs hc u hm
  have h0' : RowAt w 4 v rows := h
  obtain ⟨a, cap, rfl, hc⟩ := h.flat (by decide) hu
  have q : ∀ (w : World) (a : Option Addr) (n c n' c' : Nat), (binOp .eql 23 (.slice a n c) (.slice none n' c')).run Tryz.prog w = .ok (.bool a.isNone) w := fun w a n c n' c' => Lib.run_eql_slice_nil w _ _ a n c n' c' Tryz.underlying23
  rcases a with _ | x
  · obtain ⟨a', c', e1, _, hr⟩ := h0'
    have hz : rows.length = 0 := by
      rcases Nat.eq_zero_or_pos rows.length with h0 | h0
      · exact h0
      · obtain ⟨b, off, hb, _⟩ := hr h0
        rw [hb] at e1
        simp at e1
    obtain rfl : rows = [] := List.eq_nil_of_length_eq_zero hz
    clear hc h1 h1' hr h
    go_enter Tryz.func67, Tryz.ntmps67
    go_wp2_with fail
    go_ret
    exact ⟨_, rfl, ⟨rfl, .inl ⟨rfl, rfl⟩⟩, bel _ _⟩
  · have A := Lib.hid (hc x rfl)
    clear hc h h0'
    go_enter Tryz.func67, Tryz.ntmps67
    go_wp2_with (at_builtin; refine wpList_append_own _ rfl _ _ 23 rfl w.heap.size 65 i0 (.agg #[.int .i64 0, .bool false, .slice none 0 0, .string ByteArray.empty]) 4 56 Tryz.underlying23 hi hz0 hz1 hz2 rfl (by decide) _ _ _ rfl (World.ownsRow_made w #[] 0 (Nat.le_refl _) (Nat.zero_le _) (by simp)) x rows.length cap rows.flatten rfl ?qc1 ?qc2 ?qc3 ?qc4 ?qc5 ?qc6 ?_)
    case qc1 => exact hl
    case qc2 =>
      intro j u hj
      exact Lib.cell?_alloc_some _ (A.out j u hj)
    case qc3 => exact h1'
    case qc4 => unfold maxLen; omega
    case qc5 => omega
    case qc6 => simp
    intro v' w1 hown hgrow hnil
    go_wp2_with fail
    go_ret
    refine ⟨v', rfl, by simpa using hown, ?_⟩
    exact ((Keep.refl (fun _ => False) w).alloc _ |>.grown hgrow (fun k hk => .inr (by simp [Value.ownBlock] at hk; omega))).below (Nat.le_refl _) (fun i _ h => h)
set_option maxRecDepth 100000 in
set_option maxHeartbeats 2000000 in
theorem clone68 (rows : List (List Value)) (v : Value) (w : World) (h : RowAt w 2 v rows) (hu : ∀ cs ∈ rows, cs.length = 2) (h1 : ∀ cs ∈ rows, ∀ u ∈ cs, u.oneCell' = true) (hn : rows.length ≤ 1000000000) :
    Calls Tryz.prog 68 #[v] w fun e w' => ∃ v', e = .returned v' ∧ w'.ownsRow w.heap.size 99 2 v' rows.length rows.flatten ∧ Below w.heap.size w w' := by
  obtain ⟨i0, hi, hz0, hz1, hz2⟩ := info_parts info99
  have hl := flat_len 2 rows hu
  have h1' : ∀ u ∈ rows.flatten, u.oneCell' = true := fun u hm => by
    obtain ⟨cs, hc, hm⟩ := List.mem_flatten.1 hm
    exact h1 cs hc u hm
  have h0' : RowAt w 2 v rows := h
  obtain ⟨a, cap, rfl, hc⟩ := h.flat (by decide) hu
  have q : ∀ (w : World) (a : Option Addr) (n c n' c' : Nat), (binOp .eql 63 (.slice a n c) (.slice none n' c')).run Tryz.prog w = .ok (.bool a.isNone) w := fun w a n c n' c' => Lib.run_eql_slice_nil w _ _ a n c n' c' Tryz.underlying63
  rcases a with _ | x
  · obtain ⟨a', c', e1, _, hr⟩ := h0'
    have hz : rows.length = 0 := by
      rcases Nat.eq_zero_or_pos rows.length with h0 | h0
      · exact h0
      · obtain ⟨b, off, hb, _⟩ := hr h0
        rw [hb] at e1
        simp at e1
    obtain rfl : rows = [] := List.eq_nil_of_length_eq_zero hz
    clear hc h1 h1' hr h
    go_enter Tryz.func68, Tryz.ntmps68
    go_wp2_with fail
    go_ret
    exact ⟨_, rfl, ⟨rfl, .inl ⟨rfl, rfl⟩⟩, bel _ _⟩
  · have A := Lib.hid (hc x rfl)
    clear hc h h0'
    go_enter Tryz.func68, Tryz.ntmps68
    go_wp2_with (at_builtin; refine wpList_append_own _ rfl _ _ 63 rfl w.heap.size 99 i0 (.agg #[.string ByteArray.empty, .int .i64 0]) 2 24 Tryz.underlying63 hi hz0 hz1 hz2 rfl (by decide) _ _ _ rfl (World.ownsRow_made w #[] 0 (Nat.le_refl _) (Nat.zero_le _) (by simp)) x rows.length cap rows.flatten rfl ?qc1 ?qc2 ?qc3 ?qc4 ?qc5 ?qc6 ?_)
    case qc1 => exact hl
    case qc2 =>
      intro j u hj
      exact Lib.cell?_alloc_some _ (A.out j u hj)
    case qc3 => exact h1'
    case qc4 => unfold maxLen; omega
    case qc5 => omega
    case qc6 => simp
    intro v' w1 hown hgrow hnil
    go_wp2_with fail
    go_ret
    refine ⟨v', rfl, by simpa using hown, ?_⟩
    exact ((Keep.refl (fun _ => False) w).alloc _ |>.grown hgrow (fun k hk => .inr (by simp [Value.ownBlock] at hk; omega))).below (Nat.le_refl _) (fun i _ h => h)
set_option maxRecDepth 100000 in
set_option maxHeartbeats 2000000 in
theorem clone69 (rows : List (List Value)) (v : Value) (w : World) (h : RowAt w 3 v rows) (hu : ∀ cs ∈ rows, cs.length = 3) (h1 : ∀ cs ∈ rows, ∀ u ∈ cs, u.oneCell' = true) (hn : rows.length ≤ 1000000000) :
    Calls Tryz.prog 69 #[v] w fun e w' => ∃ v', e = .returned v' ∧ w'.ownsRow w.heap.size 88 3 v' rows.length rows.flatten ∧ Below w.heap.size w w' := by
  obtain ⟨i0, hi, hz0, hz1, hz2⟩ := info_parts info88
  have hl := flat_len 3 rows hu
  have h1' : ∀ u ∈ rows.flatten, u.oneCell' = true := fun u hm => by
    obtain ⟨cs, hc, hm⟩ := List.mem_flatten.1 hm
    exact h1 cs hc u hm
  have h0' : RowAt w 3 v rows := h
  obtain ⟨a, cap, rfl, hc⟩ := h.flat (by decide) hu
  have q : ∀ (w : World) (a : Option Addr) (n c n' c' : Nat), (binOp .eql 24 (.slice a n c) (.slice none n' c')).run Tryz.prog w = .ok (.bool a.isNone) w := fun w a n c n' c' => Lib.run_eql_slice_nil w _ _ a n c n' c' Tryz.underlying24
  rcases a with _ | x
  · obtain ⟨a', c', e1, _, hr⟩ := h0'
    have hz : rows.length = 0 := by
      rcases Nat.eq_zero_or_pos rows.length with h0 | h0
      · exact h0
      · obtain ⟨b, off, hb, _⟩ := hr h0
        rw [hb] at e1
        simp at e1
    obtain rfl : rows = [] := List.eq_nil_of_length_eq_zero hz
    clear hc h1 h1' hr h
    go_enter Tryz.func69, Tryz.ntmps69
    go_wp2_with fail
    go_ret
    exact ⟨_, rfl, ⟨rfl, .inl ⟨rfl, rfl⟩⟩, bel _ _⟩
  · have A := Lib.hid (hc x rfl)
    clear hc h h0'
    go_enter Tryz.func69, Tryz.ntmps69
    go_wp2_with (at_builtin; refine wpList_append_own _ rfl _ _ 24 rfl w.heap.size 88 i0 (.agg #[.int .i64 0, .int .i64 0, .int .i64 0]) 3 24 Tryz.underlying24 hi hz0 hz1 hz2 rfl (by decide) _ _ _ rfl (World.ownsRow_made w #[] 0 (Nat.le_refl _) (Nat.zero_le _) (by simp)) x rows.length cap rows.flatten rfl ?qc1 ?qc2 ?qc3 ?qc4 ?qc5 ?qc6 ?_)
    case qc1 => exact hl
    case qc2 =>
      intro j u hj
      exact Lib.cell?_alloc_some _ (A.out j u hj)
    case qc3 => exact h1'
    case qc4 => unfold maxLen; omega
    case qc5 => omega
    case qc6 => simp
    intro v' w1 hown hgrow hnil
    go_wp2_with fail
    go_ret
    refine ⟨v', rfl, by simpa using hown, ?_⟩
    exact ((Keep.refl (fun _ => False) w).alloc _ |>.grown hgrow (fun k hk => .inr (by simp [Value.ownBlock] at hk; omega))).below (Nat.le_refl _) (fun i _ h => h)
set_option maxRecDepth 100000 in
set_option maxHeartbeats 2000000 in
theorem clone70 (rows : List (List Value)) (v : Value) (w : World) (h : RowAt w 1 v rows) (hu : ∀ cs ∈ rows, cs.length = 1) (h1 : ∀ cs ∈ rows, ∀ u ∈ cs, u.oneCell' = true) (hn : rows.length ≤ 1000000000) :
    Calls Tryz.prog 70 #[v] w fun e w' => ∃ v', e = .returned v' ∧ w'.ownsRow w.heap.size 3 1 v' rows.length rows.flatten ∧ Below w.heap.size w w' := by
  obtain ⟨i0, hi, hz0, hz1, hz2⟩ := info_parts info3
  have hl := flat_len 1 rows hu
  have h1' : ∀ u ∈ rows.flatten, u.oneCell' = true := fun u hm => by
    obtain ⟨cs, hc, hm⟩ := List.mem_flatten.1 hm
    exact h1 cs hc u hm
  have h0' : RowAt w 1 v rows := h
  obtain ⟨a, cap, rfl, hc⟩ := h.flat (by decide) hu
  have q : ∀ (w : World) (a : Option Addr) (n c n' c' : Nat), (binOp .eql 25 (.slice a n c) (.slice none n' c')).run Tryz.prog w = .ok (.bool a.isNone) w := fun w a n c n' c' => Lib.run_eql_slice_nil w _ _ a n c n' c' Tryz.underlying25
  rcases a with _ | x
  · obtain ⟨a', c', e1, _, hr⟩ := h0'
    have hz : rows.length = 0 := by
      rcases Nat.eq_zero_or_pos rows.length with h0 | h0
      · exact h0
      · obtain ⟨b, off, hb, _⟩ := hr h0
        rw [hb] at e1
        simp at e1
    obtain rfl : rows = [] := List.eq_nil_of_length_eq_zero hz
    clear hc h1 h1' hr h
    go_enter Tryz.func70, Tryz.ntmps70
    go_wp2_with fail
    go_ret
    exact ⟨_, rfl, ⟨rfl, .inl ⟨rfl, rfl⟩⟩, bel _ _⟩
  · have A := Lib.hid (hc x rfl)
    clear hc h h0'
    go_enter Tryz.func70, Tryz.ntmps70
    go_wp2_with (at_builtin; refine wpList_append_own _ rfl _ _ 25 rfl w.heap.size 3 i0 (.int .i64 0) 1 8 Tryz.underlying25 hi hz0 hz1 hz2 rfl (by decide) _ _ _ rfl (World.ownsRow_made w #[] 0 (Nat.le_refl _) (Nat.zero_le _) (by simp)) x rows.length cap rows.flatten rfl ?qc1 ?qc2 ?qc3 ?qc4 ?qc5 ?qc6 ?_)
    case qc1 => exact hl
    case qc2 =>
      intro j u hj
      exact Lib.cell?_alloc_some _ (A.out j u hj)
    case qc3 => exact h1'
    case qc4 => unfold maxLen; omega
    case qc5 => omega
    case qc6 => simp
    intro v' w1 hown hgrow hnil
    go_wp2_with fail
    go_ret
    refine ⟨v', rfl, by simpa using hown, ?_⟩
    exact ((Keep.refl (fun _ => False) w).alloc _ |>.grown hgrow (fun k hk => .inr (by simp [Value.ownBlock] at hk; omega))).below (Nat.le_refl _) (fun i _ h => h)
end Go.Proofs.YtjkenolgkkknaaaGreatDoor
