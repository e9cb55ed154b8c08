/- The reference's make1, where it makes a name below the root. Conditions: none. The reference's opened, where it opens a file below the root. Conditions: none. The reference's byFd at a Write of 200 zeros into a file without bytes. Conditions: none. -/
import Derived.Test.YtjkenolgkkknaaaGreatDoorTw22
import Derived.Test.YtjkenolgkkknaaaGreatDoorTw20
import Derived.Lib.BufferWrite
import Derived.Lib.SlBytesRow
set_option linter.unusedVariables false
set_option linter.unusedSimpArgs false
namespace Go.Proofs.YtjkenolgkkknaaaGreatDoor
open Go.RowKit
theorem insF_acc {α : Type} (p : α → Bool) (x : α) : ∀ (es zs : List α) (d : Bool), insF p x es d zs = zs ++ insF p x es d []
  | [], zs, d => by unfold insF; split <;> simp
  | e :: r, zs, d => by
    unfold insF
    rw [insF_acc p x r (zs ++ [e]), insF_acc p x r (zs ++ [x] ++ [e]), insF_acc p x r ([] ++ [e]), insF_acc p x r ([] ++ [x] ++ [e]), insF_acc p x r (zs ++ [e]) false, insF_acc p x r ([] ++ [e]) false]
    split
    · simp
    · split <;> simp
theorem insF_true {α : Type} (p : α → Bool) (x : α) : ∀ (es : List α), insF p x es true [] = es
  | [] => by simp [insF]
  | e :: r => by
    unfold insF
    rw [if_pos rfl, insF_acc, insF_true p x r]
    rfl
theorem insF_at {α : Type} (p : α → Bool) (x : α) : ∀ (es : List α), insF p x es false [] = insAt es (es.findIdx p) x
  | [] => by simp [insF, insAt]
  | e :: r => by
    unfold insF
    rw [if_neg (by decide), insF_acc p x r ([] ++ [x] ++ [e]), insF_acc p x r ([] ++ [e]), insF_true, insF_at p x r, List.findIdx_cons]
    rcases p e with _ | _
    · simp [insAt]
    · simp [insAt]
theorem StOwn.made_form {B : Nat} {w : World} {iv ov mv : Value} {S : PSt} (h : StOwn B w iv ov mv S) (h0 : 0 < S.made.length) : ∃ gm cap, mv = .slice (some ⟨gm, 0, none⟩) S.made.length cap := by
  rcases h.2.1 with ⟨_, h1⟩ | ⟨g, cap, arr, rfl, _⟩
  · rw [List.map_eq_nil_iff] at h1
    rw [h1] at h0
    simp at h0
  · exact ⟨g, cap, by rw [List.length_map]⟩
theorem StOwn.made_at {B : Nat} {w : World} {iv ov : Value} {S : PSt} {gm cap : Nat} (h : StOwn B w iv ov (.slice (some ⟨gm, 0, none⟩) S.made.length cap) S) {k : Nat} {m : Int} (hm : S.made[k]? = some m) : w.cell? ⟨gm, k, none⟩ = some (.int .i64 m) ∧ w.frozen? ⟨gm, k, none⟩ = false ∧ BlockLt gm w := by
  rcases h.2.1 with ⟨h1, _⟩ | ⟨g, cap', arr, he, _, hb, _, _, _, hr⟩
  · cases h1
  · simp only [Value.slice.injEq, Option.some.injEq, Addr.mk.injEq] at he
    obtain ⟨⟨rfl, -, -⟩, -, -⟩ := he
    refine ⟨?_, hb.frozen k, hb.lt⟩
    rw [hb.cell]
    have := hr k (intCells m) (by rw [List.getElem?_map, hm]; rfl) 0 _ rfl
    rw [Nat.mul_one, Nat.add_zero] at this
    exact this
/-- Blocks of states, calls and results but for one stay. -/
def Spared (b : Nat) (w w' : World) : Prop := ∀ g c t, Blk w g c t → g ≠ b → (t = 27 ∨ t = 29 ∨ t = 46) → Blk w' g c t
theorem Spared.trans {b : Nat} {w w1 w2 : World} (h : Spared b w w1) (h' : Spared b w1 w2) : Spared b w w2 := fun g c t hb hn ht => h' g c t (h g c t hb hn ht) hn ht
theorem Spared.of_below {b : Nat} {w w1 : World} (h : Below w.heap.size w w1) : Spared b w w1 := fun g c t hb _ _ => blk_on hb h
theorem Spared.of_in {b : Nat} {w w1 : World} (h : Keep (InEn w) w w1) : Spared b w w1 := fun g c t hb _ ht => h.blk hb (fun ⟨c', t', hb', ht'⟩ => by
  have : t = t' := by
    have e := hb.symm.trans hb'
    simp at e
    exact e.2
  subst this
  rcases ht with rfl | rfl | rfl <;> rcases ht' with h | h <;> exact absurd h (by decide))
theorem Spared.set {b : Nat} {w : World} {g o : Nat} {c : Array Value} {t : TypeId} {v : Value} (h : Blk w g c t) (ht : g = b ∨ (t ≠ 27 ∧ t ≠ 29 ∧ t ≠ 46)) : Spared b w (w.setCell ⟨g, o, none⟩ v) := fun g' c' t' hb hn htt => by
  refine Keep.blk (Keep.setCell (S := fun x => x = g) (p := ⟨g, o, none⟩) (Keep.refl _ w) (.inl rfl) v) hb (fun e => ?_)
  subst e
  rcases ht with ht | ht
  · exact hn ht
  · have : t = t' := by
      have e := h.symm.trans hb
      simp at e
      exact e.2
    subst this
    rcases htt with rfl | rfl | rfl
    · exact ht.1 rfl
    · exact ht.2.1 rfl
    · exact ht.2.2 rfl
theorem keep46 {wz : World} {r : Nat} {a0 a1 a2 a3 a4 a5 : Value} {p : Behind} : Keep (fun g => g = r) wz (((((((wz.setCell ⟨r, 0, none⟩ a0).setCell ⟨r, 1, none⟩ a1).setCell ⟨r, 2, none⟩ a2).setCell ⟨r, 3, none⟩ a3).setCell ⟨r, 4, none⟩ a4).setCell ⟨r, 5, none⟩ a5).junk p) :=
  ((((((((Keep.refl (fun g => g = r) wz).setCell (p := ⟨r, 0, none⟩) (.inl rfl) a0).setCell (p := ⟨r, 1, none⟩) (.inl rfl) a1).setCell (p := ⟨r, 2, none⟩) (.inl rfl) a2).setCell (p := ⟨r, 3, none⟩) (.inl rfl) a3).setCell (p := ⟨r, 4, none⟩) (.inl rfl) a4).setCell (p := ⟨r, 5, none⟩) (.inl rfl) a5).junk p)
theorem fin46 {B b r : Nat} {w wz w' : World} {iv ov mv : Value} {S : PSt} {c : Array Value} (hK : Keep (fun g => g = r) wz w') (hrw : w.heap.size ≤ r) (hbw : b < w.heap.size) (hB : B ≤ w.heap.size) (hr : Blk wz r c 46) (f1 : Blk wz b #[iv, ov, mv] 27) (f2 : StOwn B wz iv ov mv S) (f4 : Below B w wz) (f5 : Spared b w wz) :
    Below B w w' ∧ Spared b w w' ∧ ∃ iv' ov' mv', Blk w' b #[iv', ov', mv'] 27 ∧ StOwn B w' iv' ov' mv' S := by
  refine ⟨f4.trans (hK.below (Nat.le_trans hB f4.size) (fun i hi e => by omega)), fun g c t hb hn ht => hK.blk (f5 g c t hb hn ht) (fun e => by have := hb.lt.lt; omega), iv, ov, mv, hK.blk f1 (fun e => by omega), f2.keep hK (fun g hg => by rw [hg]; exact ⟨_, 46, hr, by decide, by decide, by decide, by decide⟩)⟩
theorem notInEn {w : World} {g : Nat} {c : Array Value} {t : TypeId} (h : Blk w g c t) (h1 : t ≠ 65) (h2 : t ≠ 99) : ¬ InEn w g := fun ⟨c', t', hb', ht'⟩ => by
  have : t = t' := by
    have e := h.symm.trans hb'
    simp at e
    exact e.2
  subst this
  rcases ht' with e | e
  · exact h1 e
  · exact h2 e
theorem PSt.wf_made {S : PSt} (h : S.wf) (k : Nat) {v : Int} (hv : I64 v) : ({ S with made := S.made.set k v } : PSt).wf := by
  obtain ⟨h1, h2, h3, h4, h5, h6⟩ := h
  refine ⟨h1, h2, by show (S.made.set k v).length ≤ _; rw [List.length_set]; exact h3, h4, h5, fun m hm => ?_⟩
  rcases List.mem_or_eq_of_mem_set hm with hm | rfl
  · exact h6 m hm
  · exact hv
/-- What Create and Mkdir make below the root. -/
def mk1 (S : PSt) (x : PIn) (nm : ByteArray) (k : Nat) (m : Int) (dir : Bool) : PSt :=
  let num : Int := 2 + k + 8 * m
  let S2 : PSt := ({ S with made := S.made.set k (m + 1) } : PSt).ents 0 x (insF (fun e => belowR nm e.name) ⟨nm, num⟩ x.ents false [])
  { S2 with ins := insF (fun y => decide (num < y.num)) ⟨num, dir, [], { data := #[] }⟩ S2.ins false [] }
set_option maxRecDepth 100000 in
set_option maxHeartbeats 8000000 in
theorem make56 (B b : Nat) (S : PSt) (iv ov mv : Value) (kd fd off nu : Int) (p2 dt : ByteArray) (ch : UInt8) (x : PIn) (k : Nat) (m : Int) (w : World) (hb : Blk w b #[iv, ov, mv] 27) (ho : StOwn B w iv ov mv S) (hB : B ≤ w.heap.size) (hBb : B ≤ b) (hwf : S.wf) (hr : rootB S = true) (hx : S.ins[0]? = some x) (hch : ch ≠ 47) (hck : checkR (n1 ch) = 0)
    (hent : entryR S 1 (n1 ch) = 0) (hful : decide (4 ≤ fullF (bucketR (n1 ch)) { data := #[] } x.ents 0) = false) (hes : ∀ e ∈ x.ents, e.name.size ≤ 1000000000) (hm : S.made[k]? = some m) (hm0 : 0 ≤ m ∧ m < 32) (hk8 : k < 8) :
    Calls Tryz.prog 56 #[.pointer (some ⟨b, 0, none⟩), .agg #[.int .i64 kd, .int .i64 k, .int .i64 fd, .int .i64 off, .int .i64 nu, .string (p1 ch), .string p2, .string dt]] w fun e w' => e = .returned (resV 0 0 0) ∧ Below B w w' ∧ Spared b w w' ∧ ∃ iv' ov' mv', Blk w' b #[iv', ov', mv'] 27 ∧ StOwn B w' iv' ov' mv' (mk1 S x (n1 ch) k m (kd == 1)) := by
  have hns : (n1 ch).size ≤ 1000000000 := by show (1 : Nat) ≤ _; omega
  obtain ⟨hat0, -⟩ := root_x hr
  have h94 : ∀ ww, Below w.heap.size w ww → Calls Tryz.prog 94 #[.agg #[iv, ov, mv], .string (p1 ch)] ww fun e w' => e = .returned (.tuple #[.int .i64 1, .string (n1 ch), .int .i64 0]) ∧ Below ww.heap.size ww w' := fun ww hb => parent94 S iv ov mv ch ww (ho.read.below hb (Nat.le_refl _)) hwf hr hch hck
  have h95 : ∀ ww, Below w.heap.size w ww → Calls Tryz.prog 95 #[.agg #[iv, ov, mv], .int .i64 1, .string (n1 ch)] ww fun e w' => e = .returned (.int .i64 0) ∧ Below ww.heap.size ww w' := fun ww hb => by
    have := entry95 S iv ov mv 1 (n1 ch) ww (ho.read.below hb (Nat.le_refl _)) hwf
    rw [hent] at this
    exact this
  have h96 : ∀ ww, Below w.heap.size w ww → Calls Tryz.prog 96 #[.agg #[iv, ov, mv], .int .i64 1, .string (n1 ch), .string { data := #[] }] ww fun e w' => e = .returned (.bool false) ∧ Below ww.heap.size ww w' := fun ww hb => by
    have := full96 S iv ov mv 1 (n1 ch) { data := #[] } 0 x ww (ho.read.below hb (Nat.le_refl _)) hwf hat0 hx hns hes
    rw [hful] at this
    exact this
  obtain ⟨hxl, -⟩ := List.getElem?_eq_some_iff.1 hx
  obtain ⟨hkl, -⟩ := List.getElem?_eq_some_iff.1 hm
  obtain ⟨bi, cap, rfl⟩ := ho.ins_form hxl
  obtain ⟨gm, capm, rfl⟩ := ho.made_form (by omega)
  obtain ⟨oa, on, oc, rfl⟩ := ho.1.form
  have hone := hb.lt
  have hblt : b < w.heap.size := hb.lt.lt
  have s0 := hb.cell 0
  have s1 := hb.cell 1
  have s2 := hb.cell 2
  simp at s0 s1 s2
  obtain ⟨m0, fm, iGm⟩ := ho.made_at hm
  have hkI : (k : Int) < S.made.length := by omega
  have h32 : ¬ 32 ≤ m := by omega
  have h32b : decide (32 ≤ m) = false := decide_eq_false h32
  obtain ⟨num, hnum⟩ : ∃ num : Int, 2 + (k : Int) + 8 * m = num := ⟨_, rfl⟩
  have wa : IntKind.i64.wrap (2 + (k : Int)) = 2 + (k : Int) := I64.wrap ⟨by omega, by omega⟩
  have wb : IntKind.i64.wrap (8 * m) = 8 * m := I64.wrap ⟨by omega, by omega⟩
  have wc1 : IntKind.i64.wrap (2 + (k : Int) + 8 * m) = num := by rw [hnum]; exact I64.wrap ⟨by omega, by omega⟩
  have wc2 : wrap64 (2 + (k : Int) + 8 * m) = num := by simp only [wrap64]; omega
  have wd2 : wrap64 (m + 1) = m + 1 := by simp only [wrap64]; omega
  have wd : IntKind.i64.wrap (m + 1) = m + 1 := I64.wrap ⟨by omega, by omega⟩
  have HN := Lib.hid hnum
  generalize hgp : p1 ch = path at *
  have HH := Lib.hid (And.intro hb (And.intro ho (And.intro hwf (And.intro hx (And.intro hm (And.intro hat0 hm0))))))
  have HM := Lib.hid (And.intro hns hes)
  generalize hgn : n1 ch = nm at *
  clear hnum
  clear hb ho hwf hr hx hm hent hful hes hm0 hck hgp hgn hat0 hns
  go_enter Tryz.func56, Tryz.ntmps56
  go_upto_region 1 with fail
  refine wp_region_quiet_rest (by kernel_rfl) (by kernel_rfl) (WQ.out ?_)
  repeat
    refine WQ_step (fun K hK => ?_)
    go_simp
    first
      | (refine hK _ ?_; clear hK K)
      | (apply Exists.intro
         refine ⟨fun _ => ?_, hK _ ?_⟩
         focus ((with_reducible refine calls_in (h94 _ (bel _ _)) (fun w' hb => ?_); first | exact hb.rest | exact rest1 hb | exact rest2 hb))
         clear hK K)
  refine WQ_nil ?_
  intro w1 hw1
  obtain ⟨p, hw1⟩ := hw1
  subst hw1
  go_wp2_with ((go_at_call 95; with_reducible refine (h95 _ (bel _ _)).mono ?_; rintro e w' ⟨rfl, hb⟩; obtain ⟨p, rfl⟩ := hb.rest; clear hb))
  refine wp_region_quiet_rest (by kernel_rfl) (by kernel_rfl) (WQ.out ?_)
  repeat
    refine WQ_step (fun K hK => ?_)
    go_simp
    first
      | (refine hK _ ?_; clear hK K)
      | (apply Exists.intro
         refine ⟨fun _ => ?_, hK _ ?_⟩
         focus ((with_reducible refine calls_in (h96 _ (bel _ _)) (fun w' hb => ?_); first | exact hb.rest | exact rest1 hb | exact rest2 hb))
         clear hK K)
  refine WQ_nil ?_
  intro w1 hw1
  obtain ⟨p, hw1⟩ := hw1
  subst hw1
  go_wp2_with fail
  refine wp_region_quiet_rest (by kernel_rfl) (by kernel_rfl) (WQ.out ?_)
  repeat
    refine WQ_step (fun K hK => ?_)
    go_simp
    first
      | (refine hK _ ?_; clear hK K)
      | (apply Exists.intro
         refine ⟨fun _ => ?_, hK _ ?_⟩
         focus (fail)
         clear hK K)
  refine WQ_nil ?_
  intro w1 hw1
  obtain ⟨p, hw1⟩ := hw1
  subst hw1
  go_upto_region 9 with fail
  refine abs_world (F := fun wa => StOwn B wa (.slice (some ⟨bi, 0, none⟩) S.ins.length cap) (.slice oa on oc) (.slice (some ⟨gm, 0, none⟩) S.made.length capm) S ∧ Blk wa b #[.slice (some ⟨bi, 0, none⟩) S.ins.length cap, .slice oa on oc, .slice (some ⟨gm, 0, none⟩) S.made.length capm] 27 ∧ Blk wa w.heap.size #[.int .i64 kd, .int .i64 k, .int .i64 fd, .int .i64 off, .int .i64 nu, .string path, .string p2, .string dt] 29 ∧ Blk wa (w.heap.size + 1) #[.int .i64 0, .int .i64 0, .int .i64 0, .bool false, .string { data := #[] }, .slice none 0 0] 46 ∧ Below w.heap.size w wa) ⟨HH.out.2.1.on (bel w _), blk_on HH.out.1 (bel w _), blk_on (Blk.new w #[.int .i64 kd, .int .i64 k, .int .i64 fd, .int .i64 off, .int .i64 nu, .string path, .string p2, .string dt] 29) (bel _ _), blk_on (Blk.new_i (w.alloc (.cells #[.int .i64 kd, .int .i64 k, .int .i64 fd, .int .i64 off, .int .i64 nu, .string path, .string p2, .string dt] 29)) #[.int .i64 0, .int .i64 0, .int .i64 0, .bool false, .string { data := #[] }, .slice none 0 0] 46 (w.heap.size + 1)) (bel _ _), bel w _⟩ ?_
  clear s0 s1 s2 m0 fm iGm hone
  rintro wa ⟨ho, hb, hbc, hbr, hbw⟩
  obtain ⟨m0, fm, iGm⟩ := ho.made_at HH.out.2.2.2.2.1
  have iB := hb.lt
  have iC := hbc.lt
  have s2 := hb.cell 2
  have q1 := hbc.cell 1
  simp at s2 q1
  obtain ⟨hs1, hBg, cg, hgm⟩ := (ho.on (bel wa wa.drew)).setMade (k := k) hkl (m + 1)
  have hp4 : Spared b wa (wa.drew.setCell ⟨gm, k, none⟩ (.int .i64 (m + 1))) := (Spared.of_below (bel wa wa.drew)).trans (Spared.set hgm (.inr ⟨by decide, by decide, by decide⟩))
  have hK4 : Keep (fun g => g = gm) wa.drew (wa.drew.setCell ⟨gm, k, none⟩ (.int .i64 (m + 1))) := Keep.setCell (S := fun g => g = gm) (p := ⟨gm, k, none⟩) (Keep.refl _ _) (.inl rfl) _
  have hb4 := hK4.blk (blk_on hb (bel wa wa.drew)) (fun e => by
    subst e
    have := (blk_on hb (bel wa wa.drew)).ne_ hgm (by decide)
    exact this rfl)
  have hbw4 : Below B w (wa.drew.setCell ⟨gm, k, none⟩ (.int .i64 (m + 1))) := (hbw.mono hB).trans ((bel wa wa.drew).mono (Nat.le_trans hB hbw.size) |>.trans (hK4.below (Nat.le_trans hB (Nat.le_trans hbw.size (bel wa wa.drew).size)) (fun i hi e => by omega)))
  obtain ⟨w4, hw4⟩ : ∃ w4, wa.drew.setCell ⟨gm, k, none⟩ (.int .i64 (m + 1)) = w4 := ⟨_, rfl⟩
  rw [hw4] at hs1 hp4 hb4 hbw4
  have hbr4 := hp4 _ _ _ hbr (by omega) (.inr (.inr rfl))
  have hbc4 := hp4 _ _ _ hbc (by omega) (.inr (.inl rfl))
  have hpw4 := (Spared.of_below (b := b) hbw).trans hp4
  have iB4 := hb4.lt
  have iC4 := hbc4.lt
  have iR4 := hbr4.lt
  have c40 := hbc4.cell 0
  have c41 := hbc4.cell 1
  simp at c40 c41
  have HC4 := Lib.hid (And.intro hbc4 hbr4)
  have H4 := Lib.hid (And.intro hs1 (And.intro hb4 (And.intro hbr4 (And.intro hbw4 hpw4))))
  have HW4 := Lib.hid hw4
  clear hs1 hp4 hb4 hbw4 hbr4 hbc4 hpw4 hK4 ho hb hbc hbr hbw hgm
  refine wp_region_eff [10] true (fun w' => w'.cell? ⟨b, 2, none⟩ = some (.slice (some ⟨gm, 0, none⟩) S.made.length capm) ∧ w'.cell? ⟨w.heap.size, 1, none⟩ = some (.int .i64 k) ∧ w'.cell? ⟨gm, k, none⟩ = some (.int .i64 m)) (by kernel_rfl) (by kernel_rfl) ?_ ?_
  · (try dsimp only); (repeat' apply And.intro) <;> go_simp
  repeat
    refine wpL_look rfl rfl ?_
    apply Exists.intro
    refine ⟨?_, ?_⟩
    focus
      rintro w' ⟨s0, s1, s2⟩
      go_simp
      first | done | rfl
    simp only [Act.put, List.setIfInBounds_toArray, List.set_cons_zero, List.set_cons_succ]
  refine wpL_skip rfl rfl ?_
  refine ⟨w4, ?_, .inr ⟨rfl, rfl⟩, ?_⟩
  focus
    go_simp
    first | done | exact HW4.out | rfl
  simp only [Act.put, List.setIfInBounds_toArray, List.set_cons_zero, List.set_cons_succ]
  refine wpL_end ?_
  clear s2 q1 iB iC m0 fm iGm hw4
  have hI64m : I64 (m + 1) := by
    have := HH.out.2.2.2.2.2.2
    exact ⟨by omega, by omega⟩
  obtain ⟨S2, hS2⟩ : ∃ S2 : PSt, (({ S with made := S.made.set k (m + 1) } : PSt).ents 0 x (insF (fun e => belowR nm e.name) ⟨nm, num⟩ x.ents false [])) = S2 := ⟨_, rfl⟩
  have hl2 : S2.ins.length = S.ins.length := by rw [← hS2]; simp [PSt.ents]
  have h97 : ∀ ww, Below w4.heap.size w4 ww → Calls Tryz.prog 97 #[.pointer (some ⟨b, 0, none⟩), .int .i64 1, .string nm, .int .i64 num] ww fun e w' => e = .returned (.tuple #[]) ∧ (StOwn B w' (.slice (some ⟨bi, 0, none⟩) S.ins.length cap) (.slice oa on oc) (.slice (some ⟨gm, 0, none⟩) S.made.length capm) S2 ∧ Blk w' b #[.slice (some ⟨bi, 0, none⟩) S.ins.length cap, .slice oa on oc, .slice (some ⟨gm, 0, none⟩) S.made.length capm] 27 ∧ Below B w w' ∧ Spared b w4 w') := fun ww hb => by
    obtain ⟨o1, o2, o3, o4, o5⟩ := H4.out
    have hB4 : B ≤ ww.heap.size := Nat.le_trans hB (Nat.le_trans o4.size hb.size)
    have hbk := blk_on o2 hb
    refine (put97 B b { S with made := S.made.set k (m + 1) } _ _ _ 1 num nm 0 x ww hbk (o1.on hb) hB4 (PSt.wf_made HH.out.2.2.1 k hI64m) HM.out.1 HH.out.2.2.2.2.2.1 HH.out.2.2.2.1).mono ?_
    rintro e w' ⟨rfl, hb5, hk5, hs5⟩
    rw [hS2] at hs5
    exact ⟨rfl, hs5, hk5.blk hbk (notInEn hbk (by decide) (by decide)), (o4.trans (hb.mono (Nat.le_trans hB o4.size))).trans hb5, (Spared.of_below hb).trans (Spared.of_in hk5)⟩
  have HS2 := Lib.hid hS2
  clear hS2
  go_wp2_with (go_at_call 97; (with_reducible refine (h97 _ (bel w4 _)).mono ?_); rintro e w5 ⟨rfl, hs5, hb5, hbb5, hp5⟩; have hc5 := hp5 _ _ _ HC4.out.1 (by omega) (.inr (.inl rfl)); have iC5 := hc5.lt; have c50 : w5.cell? ⟨w.heap.size, 0, none⟩ = some (.int .i64 kd) := hc5.cell 0; have hr5 := hp5 _ _ _ HC4.out.2 (by omega) (.inr (.inr rfl)); have HX5 := Lib.hid (And.intro hs5 (And.intro hb5 (And.intro hr5 (And.intro hbb5 (H4.out.2.2.2.2.trans hp5))))); clear hs5 hb5 hbb5 hp5 hc5 hr5)
  refine abs_world (F := fun W => StOwn B W (.slice (some ⟨bi, 0, none⟩) S.ins.length cap) (.slice oa on oc) (.slice (some ⟨gm, 0, none⟩) S.made.length capm) S2 ∧ Blk W b #[.slice (some ⟨bi, 0, none⟩) S.ins.length cap, .slice oa on oc, .slice (some ⟨gm, 0, none⟩) S.made.length capm] 27 ∧ Blk W (w.heap.size + 1) #[.int .i64 0, .int .i64 0, .int .i64 0, .bool false, .string { data := #[] }, .slice none 0 0] 46 ∧ Blk W w5.heap.size #[.int .i64 num, .bool (kd == 1), .slice none 0 0, .string { data := #[] }] 65 ∧ Below B w W ∧ Spared b w W) ⟨HX5.out.1.on (bel w5 _), blk_on HX5.out.2.1 (bel w5 _), blk_on HX5.out.2.2.1 (bel w5 _), Blk.new_i _ _ _ _, HX5.out.2.2.2.1.trans ((bel w5 _).mono (Nat.le_trans hB HX5.out.2.2.2.1.size)), HX5.out.2.2.2.2.trans (Spared.of_below (bel w5 _))⟩ ?_
  clear HX5 iC5 c50 H4 HC4 HW4 iB4 iC4 iR4 c40 c41 h97 h94 h95 h96
  obtain ⟨g5, hg5⟩ : ∃ g5, w5.heap.size = g5 := ⟨_, rfl⟩
  rw [hg5]
  clear hg5
  rintro W ⟨ho, hbk, hrs, hnb, hBW, hSP⟩
  have hBle : B ≤ W.heap.size := Nat.le_trans hB hBW.size
  obtain ⟨u1, u2, is, u3, u4, u5, u6⟩ := ho
  rw [hl2] at u4
  obtain ⟨a, capx, e1, hai⟩ := u3.row.at_
  rw [List.length_map, u4] at e1
  cases e1
  have hst : ∀ w2, Below W.heap.size W w2 → BlockLt b w2 ∧ w2.cell? ⟨b, 0, none⟩ = some (.slice (some ⟨bi, 0, none⟩) S.ins.length cap) ∧ w2.frozen? ⟨b, 0, none⟩ = false ∧ BlockLt g5 w2 ∧ w2.cell? ⟨g5, 0, none⟩ = some (.int .i64 num) ∧ w2.cell? ⟨g5, 1, none⟩ = some (.bool (kd == 1)) ∧ w2.cell? ⟨g5, 2, none⟩ = some (.slice none 0 0) ∧ w2.cell? ⟨g5, 3, none⟩ = some (.string { data := #[] }) := by
    intro w2 h2
    have h3 := blk_on hbk h2
    have h4 := blk_on hnb h2
    exact ⟨h3.lt, h3.cell 0, h3.frozen 0, h4.lt, h4.cell 0, h4.cell 1, h4.cell 2, h4.cell 3⟩
  have hform : ∀ (q : Nat) (r : IRec), is[q]? = some r → ∃ a n c, r.ev = .slice a n c := by
    intro q r hr
    obtain ⟨hl, _⟩ := List.getElem?_eq_some_iff.1 hr
    exact (u5 q r _ hr (List.getElem?_eq_getElem (by omega))).2.2.2.form
  obtain ⟨nr, hnr⟩ : ∃ nr : IRec, (⟨num, kd == 1, .slice none 0 0, { data := #[] }, rfl⟩ : IRec) = nr := ⟨_, rfl⟩
  have hnc : nr.cells = [.int .i64 num, .bool (kd == 1), .slice none 0 0, .string { data := #[] }] := by rw [← hnr]; rfl
  obtain ⟨R, hR⟩ : ∃ R, insF (fun r : IRec => decide (num < r.num)) nr is false [] = R := ⟨_, rfl⟩
  have hfin : ∀ (w1 : World) (v : Value), OwnP W.heap.size w1 65 4 v (R.map IRec.cells) → Below W.heap.size W w1 → Blk (w1.setCell ⟨b, 0, none⟩ v) b #[v, .slice oa on oc, .slice (some ⟨gm, 0, none⟩) S.made.length capm] 27 ∧ StOwn B (w1.setCell ⟨b, 0, none⟩ v) v (.slice oa on oc) (.slice (some ⟨gm, 0, none⟩) S.made.length capm) (mk1 S x nm k m (kd == 1)) ∧ Blk (w1.setCell ⟨b, 0, none⟩ v) (w.heap.size + 1) #[.int .i64 0, .int .i64 0, .int .i64 0, .bool false, .string { data := #[] }, .slice none 0 0] 46 ∧ Below B w (w1.setCell ⟨b, 0, none⟩ v) ∧ Spared b w (w1.setCell ⟨b, 0, none⟩ v) := by
    intro w1 v h1 h2
    have hb1 := blk_on hbk h2
    have hr1 := blk_on hrs h2
    have hKb : Keep (fun g => g = b) w1 (w1.setCell ⟨b, 0, none⟩ v) := Keep.setCell (S := fun g => g = b) (p := ⟨b, 0, none⟩) (Keep.refl _ _) (.inl rfl) _
    have hRi : R = insAt is (is.findIdx fun r => decide (num < r.num)) nr := by rw [← hR, insF_at]
    have hiv : OwnP B w1 65 4 v ((is.map IRec.cells).take (is.findIdx fun r => decide (num < r.num)) ++ [.int .i64 num, .bool (kd == 1), .slice none 0 0, .string { data := #[] }] :: (is.map IRec.cells).drop (is.findIdx fun r => decide (num < r.num))) := by
      have := h1.mono hBle
      rw [hRi, insAt_map, hnc] at this
      exact this
    have hs5 := setIns2 (S := S2) is u1 u2 (by omega) u5 u6 (Keep.of_below h2 (fun _ => False)) (fun _ h => h.elim) (is.findIdx fun r => decide (num < r.num)) (by rw [hl2, ← u4]; exact List.findIdx_le_length) num (kd == 1) hiv
    have hidx : (is.findIdx fun r => decide (num < r.num)) = S2.ins.findIdx fun y => decide (num < y.num) := by
      have e : is.map IRec.num = S2.ins.map PIn.num := by
        apply List.ext_getElem?
        intro q
        rw [List.getElem?_map, List.getElem?_map]
        by_cases hq : q < is.length
        · have hq2 : q < S2.ins.length := by omega
          have := (u5 q is[q] S2.ins[q] (List.getElem?_eq_getElem hq) (List.getElem?_eq_getElem hq2)).1
          rw [List.getElem?_eq_getElem hq, List.getElem?_eq_getElem hq2]
          simp [this]
        · rw [List.getElem?_eq_none (by omega), List.getElem?_eq_none (by omega)]; rfl
      have e1 : (is.findIdx fun r => decide (num < r.num)) = (is.map IRec.num).findIdx fun n => decide (num < n) := by rw [List.findIdx_map]; rfl
      have e2 : (S2.ins.findIdx fun y => decide (num < y.num)) = (S2.ins.map PIn.num).findIdx fun n => decide (num < n) := by rw [List.findIdx_map]; rfl
      rw [e1, e2, e]
    have hmk : ({ S2 with ins := insAt S2.ins (is.findIdx fun r => decide (num < r.num)) ⟨num, kd == 1, [], { data := #[] }⟩ } : PSt) = mk1 S x nm k m (kd == 1) := by
      unfold mk1
      simp only
      rw [HN.out, HS2.out, insF_at, hidx]
    rw [hmk] at hs5
    refine ⟨hb1.set_ 0 v, hs5.keep hKb (fun g hg => by rw [hg]; exact ⟨_, 27, hb1, by decide, by decide, by decide, by decide⟩), hKb.blk hr1 (by omega), ?_, ?_⟩
    · exact (hBW.trans (h2.mono hBle)).trans (hKb.below (Nat.le_trans hBle h2.size) (fun i hi e => by omega))
    · exact (hSP.trans (Spared.of_below h2)).trans (Spared.set hb1 (.inl rfl))
  have HST := Lib.hid hst
  have HFO := Lib.hid hform
  have HNC := Lib.hid hnc
  have HR := Lib.hid hR
  have HFIN := Lib.hid hfin
  have HA := Lib.hid hai
  have HU := Lib.hid (And.intro u4 (And.intro hl2 hnr))
  have hil9 : S.ins.length ≤ 1000000000 := HH.out.2.2.1.1
  clear hst hform hnc hR hfin hai u1 u2 u3 u4 u5 u6 hbk hrs hnb hl2 hnr
  go_loopw [10, 11, 12] (fun v10 v11 i wr => ∃ (q : Nat) (d : Bool) (zs : List IRec), i = .int .i64 q ∧ v11 = .bool d ∧ q ≤ S.ins.length ∧ zs.length ≤ 2 * q ∧ OwnP W.heap.size wr 65 4 v10 (zs.map IRec.cells) ∧ insF (fun r : IRec => decide (num < r.num)) nr (is.drop q) d zs = R ∧ Below W.heap.size W wr) (fun _ _ i _ => (S.ins.length - intOf i).toNat)
  case atStart => exact ⟨0, false, [], rfl, rfl, by omega, by simp, .inl ⟨rfl, rfl⟩, HR.out, Below.refl _ _⟩
  case round =>
    obtain ⟨q, d, zs, rfl, rfl, hq, hzl, hO, hre, hbw⟩ := hrel
    have iB : Bel W wr := ⟨hbw⟩
    obtain ⟨iL, t0, tf, iG5, n0, n1, n2, n3⟩ := HST.out wr hbw
    obtain ⟨va, vn, vc, rfl⟩ := hO.form
    have HO := Lib.hid hO
    clear hO
    by_cases hlt : q < S.ins.length
    · have hltq : q < is.length := by have := HU.out.1; omega
      obtain ⟨r, hr⟩ : ∃ r, is[q]? = some r := ⟨_, List.getElem?_eq_getElem hltq⟩
      rw [insF_drop _ _ _ q r d zs hr] at hre
      obtain ⟨ra, rn2, rc, hrev⟩ := HFO.out q r hr
      obtain ⟨be, oe, he, iE0, iE, hce⟩ := HA.out wr hbw q r.cells (by rw [List.getElem?_map, hr]; rfl)
      cases he
      have hcz : ∀ w2, Below W.heap.size W w2 → BlockLt bi w2 ∧ w2.cell? ⟨bi, q * 4, none⟩ = some (.int .i64 r.num) ∧ w2.cell? ⟨bi, q * 4 + 1, none⟩ = some (.bool r.dir) ∧ w2.cell? ⟨bi, q * 4 + 2, none⟩ = some r.ev ∧ w2.cell? ⟨bi, q * 4 + 3, none⟩ = some (.string r.data) := by
        intro w2 h2
        obtain ⟨be', oe', he, _, i2, hc⟩ := HA.out w2 h2 q r.cells (by rw [List.getElem?_map, hr]; rfl)
        cases he
        have h0 := hc 0 _ rfl
        have h1 := hc 1 _ rfl
        have h2 := hc 2 _ rfl
        have h3 := hc 3 _ rfl
        simp only [Nat.zero_add, Nat.add_zero] at h0 h1 h2 h3
        exact ⟨i2, h0, h1, h2, h3⟩
      have hltI : (q : Int) < S.ins.length := by omega
      clear hce hr
      obtain ⟨rn, rd, re, rs, ro⟩ := r
      simp only at hrev
      subst hrev
      simp only at hcz hre
      obtain ⟨-, c0, c1, c2, c3⟩ := hcz wr hbw
      have HCZ := Lib.hid hcz
      clear hcz
      rcases d with _ | _
      · rw [if_neg (by decide)] at hre
        by_cases hA : num < rn
        · rw [if_pos (decide_eq_true hA)] at hre
          have HRE := Lib.hid hre
          clear hre
          go_wp2_with (at_builtin; refine app65 rfl (.tmp 112) (.tmp 114) rfl W.heap.size _ (.slice (some ⟨wr.heap.size, 0, none⟩) 1 1) zs [nr] rfl (by go_simp) (HO.out.below (bel wr _)) (by rw [List.map_cons, HNC.out]; exact RowAt.single (Blk.new_i _ _ _ _) 4 1) (by simp; omega) (bel W _).size ?_)
          intro v' w' hg
          have hbg := hg.on (HO.out.below (bel wr _)) (bel W _).size
          have hb2 := (bel W _).trans hbg
          have hO2 : OwnP W.heap.size w' 65 4 v' ((zs ++ [nr]).map IRec.cells) := by have := hg.1; simpa using this
          have i2 : Bel W w' := ⟨hb2⟩
          obtain ⟨iE2, d0, d1, d2, d3⟩ := HCZ.out w' hb2
          obtain ⟨iL2, y0, yf, iG6, m0, m1, m2, m3⟩ := HST.out w' hb2
          have H2 := Lib.hid hO2
          clear hg hbg hO2 hb2 c0 c1 c2 c3 iE iL t0 tf iG5 n0 n1 n2 n3
          go_wp2_with (at_builtin; refine app65 rfl (.tmp 116) (.tmp 124) rfl W.heap.size _ _ (zs ++ [nr]) [(⟨rn, rd, .slice ra rn2 rc, rs, ro⟩ : IRec)] rfl (by go_simp) (H2.out.below (bel w' _)) (RowAt.single (Blk.new_i _ _ _ _) 4 1) (by simp; omega) (bel W _).size ?_)
          intro v2 w2 hg
          have hbg := hg.on (H2.out.below (bel w' _)) (bel W _).size
          have hb3 := (bel W _).trans hbg
          have hO3 : OwnP W.heap.size w2 65 4 v2 ((zs ++ [nr] ++ [(⟨rn, rd, .slice ra rn2 rc, rs, ro⟩ : IRec)]).map IRec.cells) := by have := hg.1; simpa using this
          have H3 := Lib.hid (And.intro hO3 hb3)
          clear hg hbg hO3 hb3
          go_wp2_with fail
          go_roundw
          case rel => exact ⟨q + 1, true, _, by go_num, rfl, by omega, by simp; omega, H3.out.1, HRE.out, H3.out.2⟩
          case measure => simp [intOf]; omega
        · rw [if_neg (by rw [decide_eq_false hA]; decide)] at hre
          have HRE := Lib.hid hre
          clear hre
          go_wp2_with (at_builtin; refine app65 rfl (.tmp 116) (.tmp 124) rfl W.heap.size _ _ zs [(⟨rn, rd, .slice ra rn2 rc, rs, ro⟩ : IRec)] rfl (by go_simp) (HO.out.below (bel wr _)) (RowAt.single (Blk.new_i _ _ _ _) 4 1) (by simp; omega) (bel W _).size ?_)
          intro v' w' hg
          have hbg := hg.on (HO.out.below (bel wr _)) (bel W _).size
          have hb2 := (bel W _).trans hbg
          have hO2 : OwnP W.heap.size w' 65 4 v' ((zs ++ [(⟨rn, rd, .slice ra rn2 rc, rs, ro⟩ : IRec)]).map IRec.cells) := by have := hg.1; simpa using this
          have H2 := Lib.hid (And.intro hO2 hb2)
          clear hg hbg hO2 hb2
          go_wp2_with fail
          go_roundw
          case rel => exact ⟨q + 1, false, _, by go_num, rfl, by omega, by simp; omega, H2.out.1, HRE.out, H2.out.2⟩
          case measure => simp [intOf]; omega
      · rw [if_pos rfl] at hre
        have HRE := Lib.hid hre
        clear hre
        go_wp2_with (at_builtin; refine app65 rfl (.tmp 116) (.tmp 124) rfl W.heap.size _ _ zs [(⟨rn, rd, .slice ra rn2 rc, rs, ro⟩ : IRec)] rfl (by go_simp) (HO.out.below (bel wr _)) (RowAt.single (Blk.new_i _ _ _ _) 4 1) (by simp; omega) (bel W _).size ?_)
        intro v' w' hg
        have hbg := hg.on (HO.out.below (bel wr _)) (bel W _).size
        have hb2 := (bel W _).trans hbg
        have hO2 : OwnP W.heap.size w' 65 4 v' ((zs ++ [(⟨rn, rd, .slice ra rn2 rc, rs, ro⟩ : IRec)]).map IRec.cells) := by have := hg.1; simpa using this
        have H2 := Lib.hid (And.intro hO2 hb2)
        clear hg hbg hO2 hb2
        go_wp2_with fail
        go_roundw
        case rel => exact ⟨q + 1, true, _, by go_num, rfl, by omega, by simp; omega, H2.out.1, HRE.out, H2.out.2⟩
        case measure => simp [intOf]; omega
    · rw [insF_end _ _ _ q d zs (by have := HU.out.1; omega)] at hre
      have hltI : ¬ (q : Int) < S.ins.length := by omega
      rcases d with _ | _
      · rw [if_neg (by decide)] at hre
        have HRE := Lib.hid hre
        clear hre
        go_wp2_with (at_builtin; refine app65 rfl (.tmp 128) (.tmp 130) rfl W.heap.size _ (.slice (some ⟨wr.heap.size, 0, none⟩) 1 1) zs [nr] rfl (by go_simp) (HO.out.below (bel wr _)) (by rw [List.map_cons, HNC.out]; exact RowAt.single (Blk.new_i _ _ _ _) 4 1) (by simp; omega) (bel W _).size ?_)
        intro v' w' hg
        have hbg := hg.on (HO.out.below (bel wr _)) (bel W _).size
        have hb2 := (bel W _).trans hbg
        have hO2 : OwnP W.heap.size w' 65 4 v' ((zs ++ [nr]).map IRec.cells) := by have := hg.1; simpa using this
        rw [HRE.out] at hO2
        have i2 : Bel W w' := ⟨hb2⟩
        obtain ⟨iL2, y0, yf, iG6, m0, m1, m2, m3⟩ := HST.out w' hb2
        have hf := HFIN.out w' v' hO2 hb2
        obtain ⟨wa, wn, wc, rfl⟩ := hO2.form
        have HF := Lib.hid hf
        clear hg hbg hO2 hb2 hf t0 tf iL iG5 n0 n1 n2 n3 m0 m1 m2 m3 iG6
        go_upto_region 24 with fail
        refine abs_world (F := fun wz => Blk wz b #[.slice wa wn wc, .slice oa on oc, .slice (some ⟨gm, 0, none⟩) S.made.length capm] 27 ∧ StOwn B wz (.slice wa wn wc) (.slice oa on oc) (.slice (some ⟨gm, 0, none⟩) S.made.length capm) (mk1 S x nm k m (kd == 1)) ∧ Blk wz (w.heap.size + 1) #[.int .i64 0, .int .i64 0, .int .i64 0, .bool false, .string { data := #[] }, .slice none 0 0] 46 ∧ Below B w wz ∧ Spared b w wz) HF.out ?_
        rintro wz ⟨f1, f2, f3, f4, f5⟩
        have l3 := f3.lt
        have g0 := f3.cell 0
        have g1 := f3.cell 1
        have g2 := f3.cell 2
        have g3 := f3.cell 3
        have g4 := f3.cell 4
        have g5' := f3.cell 5
        have fz0 := f3.frozen 0
        have fz1 := f3.frozen 1
        have fz2 := f3.frozen 2
        have fz3 := f3.frozen 3
        have fz4 := f3.frozen 4
        have fz5 := f3.frozen 5
        simp at g0 g1 g2 g3 g4 g5'
        have HZ := Lib.hid (And.intro f1 (And.intro f2 (And.intro f3 (And.intro f4 f5))))
        have hr55 : ∀ ww, Calls Tryz.prog 55 #[.int .i64 0] ww fun e w' => e = .returned (.agg #[.int .i64 0, .int .i64 0, .int .i64 0, .bool false, .string { data := #[] }, .slice none 0 0]) ∧ Below ww.heap.size ww w' := fun ww => fail55 0 ww
        clear f1 f2 f3 f4 f5
        go_wp2_with ((go_at_call 55; with_reducible refine (hr55 _).mono ?_; rintro e w' ⟨rfl, hb⟩; obtain ⟨p, rfl⟩ := hb.rest; clear hb))
        exact bodyPost_ret (v := resV 0 0 0) (by unfold results; simp only [Tryz.results56, resV]; go_simp) rfl ⟨rfl, fin46 (r := w.heap.size + 1) keep46 (by omega) hblt hB HZ.out.2.2.1 HZ.out.1 HZ.out.2.1 HZ.out.2.2.2.1 HZ.out.2.2.2.2⟩
      · rw [if_pos rfl] at hre
        subst hre
        have hf := HFIN.out wr _ HO.out hbw
        have HF := Lib.hid hf
        clear hf n0 n1 n2 n3 iG5
        go_upto_region 24 with fail
        refine abs_world (F := fun wz => Blk wz b #[.slice va vn vc, .slice oa on oc, .slice (some ⟨gm, 0, none⟩) S.made.length capm] 27 ∧ StOwn B wz (.slice va vn vc) (.slice oa on oc) (.slice (some ⟨gm, 0, none⟩) S.made.length capm) (mk1 S x nm k m (kd == 1)) ∧ Blk wz (w.heap.size + 1) #[.int .i64 0, .int .i64 0, .int .i64 0, .bool false, .string { data := #[] }, .slice none 0 0] 46 ∧ Below B w wz ∧ Spared b w wz) HF.out ?_
        rintro wz ⟨f1, f2, f3, f4, f5⟩
        have l3 := f3.lt
        have g0 := f3.cell 0
        have g1 := f3.cell 1
        have g2 := f3.cell 2
        have g3 := f3.cell 3
        have g4 := f3.cell 4
        have g5' := f3.cell 5
        have fz0 := f3.frozen 0
        have fz1 := f3.frozen 1
        have fz2 := f3.frozen 2
        have fz3 := f3.frozen 3
        have fz4 := f3.frozen 4
        have fz5 := f3.frozen 5
        simp at g0 g1 g2 g3 g4 g5'
        have HZ := Lib.hid (And.intro f1 (And.intro f2 (And.intro f3 (And.intro f4 f5))))
        have hr55 : ∀ ww, Calls Tryz.prog 55 #[.int .i64 0] ww fun e w' => e = .returned (.agg #[.int .i64 0, .int .i64 0, .int .i64 0, .bool false, .string { data := #[] }, .slice none 0 0]) ∧ Below ww.heap.size ww w' := fun ww => fail55 0 ww
        clear f1 f2 f3 f4 f5
        go_wp2_with ((go_at_call 55; with_reducible refine (hr55 _).mono ?_; rintro e w' ⟨rfl, hb⟩; obtain ⟨p, rfl⟩ := hb.rest; clear hb))
        exact bodyPost_ret (v := resV 0 0 0) (by unfold results; simp only [Tryz.results56, resV]; go_simp) rfl ⟨rfl, fin46 (r := w.heap.size + 1) keep46 (by omega) hblt hB HZ.out.2.2.1 HZ.out.1 HZ.out.2.1 HZ.out.2.2.2.1 HZ.out.2.2.2.2⟩
end Go.Proofs.YtjkenolgkkknaaaGreatDoor
namespace Go.Proofs.YtjkenolgkkknaaaGreatDoor
open Go.RowKit
theorem keep46n {wz : World} {r : Nat} {a0 a1 a2 a3 a4 a5 : Value} : Keep (fun g => g = r) wz ((((((wz.setCell ⟨r, 0, none⟩ a0).setCell ⟨r, 1, none⟩ a1).setCell ⟨r, 2, none⟩ a2).setCell ⟨r, 3, none⟩ a3).setCell ⟨r, 4, none⟩ a4).setCell ⟨r, 5, none⟩ a5) :=
  (((((((Keep.refl (fun g => g = r) wz).setCell (p := ⟨r, 0, none⟩) (.inl rfl) a0).setCell (p := ⟨r, 1, none⟩) (.inl rfl) a1).setCell (p := ⟨r, 2, none⟩) (.inl rfl) a2).setCell (p := ⟨r, 3, none⟩) (.inl rfl) a3).setCell (p := ⟨r, 4, none⟩) (.inl rfl) a4).setCell (p := ⟨r, 5, none⟩) (.inl rfl) a5)
set_option maxRecDepth 100000 in
set_option maxHeartbeats 8000000 in
theorem opened57 (B b : Nat) (S : PSt) (iv ov mv : Value) (kd core f0 off nu : Int) (p2 dt : ByteArray) (ch : UInt8) (num : Int) (K : Nat) (x : PIn) (w : World) (hb : Blk w b #[iv, ov, mv] 27) (ho : StOwn B w iv ov mv S) (hB : B ≤ w.heap.size) (hBb : B ≤ b) (hwf : S.wf) (hr : rootB S = true) (hch : ch ≠ 47) (hck : checkR (n1 ch) = 0)
    (hent : entryR S 1 (n1 ch) = num) (hn0 : num ≠ 0) (hat : atR S num = K) (hx : S.ins[K]? = some x) (hd : x.dir = false) (hfd : ∀ i : Int, 0 ≤ i → i ≤ 3 → fdR S core i = 0) :
    Calls Tryz.prog 57 #[.pointer (some ⟨b, 0, none⟩), .agg #[.int .i64 kd, .int .i64 core, .int .i64 f0, .int .i64 off, .int .i64 nu, .string (p1 ch), .string p2, .string dt], .int .i64 (-1)] w fun e w' => e = .returned (.tuple #[resV 0 0 0, .bool true]) ∧ Below B w w' ∧ Spared b w w' ∧ ∃ iv' ov' mv', Blk w' b #[iv', ov', mv'] 27 ∧ StOwn B w' iv' ov' mv' { S with op := insF (aheadD core 0) ⟨core, 0, num⟩ S.op false [] } := by
  have h98 : ∀ ww, Below w.heap.size w ww → Calls Tryz.prog 98 #[.agg #[iv, ov, mv], .string (p1 ch)] ww fun e w' => e = .returned (.tuple #[.int .i64 num, .int .i64 0]) ∧ Below ww.heap.size ww w' := fun ww hb => find98 S iv ov mv ch num ww (ho.read.below hb (Nat.le_refl _)) hwf hr hch hck hent hn0
  have h51 : ∀ ww, Below w.heap.size w ww → Calls Tryz.prog 51 #[.agg #[iv, ov, mv], .int .i64 num] ww fun e w' => e = .returned (.int .i64 (K : Int)) ∧ Below ww.heap.size ww w' := fun ww hb => by
    have := at51 S iv ov mv num ww (ho.read.below hb (Nat.le_refl _)) hwf.1
    rw [hat] at this
    exact this
  have h99 : ∀ i ww, 0 ≤ i → i ≤ 3 → Below w.heap.size w ww → Calls Tryz.prog 99 #[.agg #[iv, ov, mv], .int .i64 core, .int .i64 i] ww fun e w' => e = .returned (.int .i64 0) ∧ Below ww.heap.size ww w' := fun i ww h1 h2 hb => by
    have := fd99 S iv ov mv core i ww (ho.read.below hb (Nat.le_refl _)) hwf.2.1
    rw [hfd i h1 h2] at this
    exact this
  obtain ⟨hxl, -⟩ := List.getElem?_eq_some_iff.1 hx
  obtain ⟨bi, cap, rfl⟩ := ho.ins_form (by omega)
  obtain ⟨ma, mn, mc, rfl⟩ := ho.2.1.form
  obtain ⟨oa, on, oc, rfl⟩ := ho.1.form
  obtain ⟨a, cap', e1, hai⟩ := ho.read.ins_at2
  cases e1
  obtain ⟨bi', oi, ev, he, iI0, hoi, her, hci⟩ := hai K x hx
  cases he
  obtain ⟨iI, -, x1, -, -⟩ := hci w (Below.refl _ _)
  rw [hd] at x1
  simp only [Nat.zero_add] at x1
  have hKI : (K : Int) < S.ins.length := by omega
  have iL := hb.lt
  have hblt : b < w.heap.size := hb.lt.lt
  have s0 := hb.cell 0
  have s1 := hb.cell 1
  have s2 := hb.cell 2
  simp at s0 s1 s2
  have hol := hwf.2.1
  have HH := Lib.hid (And.intro hb (And.intro ho (And.intro hwf hn0)))
  generalize hgp : p1 ch = path at *
  clear hb ho hwf hr hx hd hat hent hn0 hck hfd hai her hci hoi hgp
  go_enter Tryz.func57, Tryz.ntmps57
  go_upto_region 1 with fail
  refine wp_region_quiet_rest (by kernel_rfl) (by kernel_rfl) (WQ.out ?_)
  repeat
    refine WQ_step (fun K hK => ?_)
    go_simp
    first
      | (refine hK _ ?_; clear hK K)
      | (apply Exists.intro
         refine ⟨fun _ => ?_, hK _ ?_⟩
         focus ((with_reducible refine calls_in (h98 _ (bel _ _)) (fun w' hb => ?_); first | exact hb.rest | exact rest1 hb | exact rest2 hb))
         clear hK K)
  refine WQ_nil ?_
  intro w1 hw1
  obtain ⟨p, hw1⟩ := hw1
  subst hw1
  go_wp2_with fail
  refine wp_region_quiet_rest (by kernel_rfl) (by kernel_rfl) (WQ.out ?_)
  repeat
    refine WQ_step (fun K hK => ?_)
    go_simp
    first
      | (refine hK _ ?_; clear hK K)
      | (apply Exists.intro
         refine ⟨fun _ => ?_, hK _ ?_⟩
         focus ((with_reducible refine calls_in (h51 _ (bel _ _)) (fun w' hb => ?_); first | exact hb.rest | exact rest1 hb | exact rest2 hb))
         clear hK K)
  refine WQ_nil ?_
  intro w1 hw1
  obtain ⟨p, hw1⟩ := hw1
  subst hw1
  go_wp2_with fail
  refine abs_world (F := fun wa => StOwn B wa (.slice (some ⟨bi, 0, none⟩) S.ins.length cap) (.slice oa on oc) (.slice ma mn mc) S ∧ Blk wa b #[.slice (some ⟨bi, 0, none⟩) S.ins.length cap, .slice oa on oc, .slice ma mn mc] 27 ∧ Blk wa w.heap.size #[.int .i64 kd, .int .i64 core, .int .i64 f0, .int .i64 off, .int .i64 nu, .string path, .string p2, .string dt] 29 ∧ Blk wa (w.heap.size + 1) #[.int .i64 0, .int .i64 0, .int .i64 0, .bool false, .string { data := #[] }, .slice none 0 0] 46 ∧ Below w.heap.size w wa) ⟨HH.out.2.1.on (bel w _), blk_on HH.out.1 (bel w _), blk_on (Blk.new w #[.int .i64 kd, .int .i64 core, .int .i64 f0, .int .i64 off, .int .i64 nu, .string path, .string p2, .string dt] 29) (bel _ _), blk_on (Blk.new_i (w.alloc (.cells #[.int .i64 kd, .int .i64 core, .int .i64 f0, .int .i64 off, .int .i64 nu, .string path, .string p2, .string dt] 29)) #[.int .i64 0, .int .i64 0, .int .i64 0, .bool false, .string { data := #[] }, .slice none 0 0] 46 (w.heap.size + 1)) (bel _ _), bel w _⟩ ?_
  clear s0 s1 s2 x1 iI iL
  rintro wa ⟨ho, hb, hbc, hbr, hbw⟩
  have HW := Lib.hid (And.intro ho (And.intro hb (And.intro hbc (And.intro hbr hbw))))
  clear ho hb hbc hbr hbw
  go_loopw [10, 11] (fun v10 v11 wr => ∃ i j : Int, v11 = .int .i64 i ∧ v10 = .int .i64 j ∧ -1 ≤ i ∧ i ≤ 3 ∧ (i < 3 → j = i + 1) ∧ Below wa.heap.size wa wr) (fun _ i _ => (intOf i + 1).toNat)
  case atStart => exact ⟨3, -1, rfl, rfl, by omega, by omega, by omega, Below.refl _ _⟩
  case round =>
    obtain ⟨i, j, rfl, rfl, hi1, hi3, hj, hbw⟩ := hrel
    have hbW : Below w.heap.size w wr := HW.out.2.2.2.2.trans (hbw.mono HW.out.2.2.2.2.size)
    have iB : Bel w wr := ⟨hbW⟩
    have hb := blk_on HW.out.2.1 hbw
    have hc := blk_on HW.out.2.2.1 hbw
    have iL := hb.lt
    have iC := hc.lt
    have s0 := hb.cell 0
    have s1 := hb.cell 1
    have s2 := hb.cell 2
    have q1 := hc.cell 1
    simp at s0 s1 s2 q1
    clear hb hc
    by_cases h0 : 0 ≤ i
    · have h99i := fun ww hb => h99 i ww h0 hi3 hb
      have wi : IntKind.i64.wrap (i - 1) = i - 1 := I64.wrap ⟨by omega, by omega⟩
      have HJ := Lib.hid hj
      clear hj h99
      go_upto_region 10 with fail
      refine wp_region_quiet_rest (by kernel_rfl) (by kernel_rfl) (WQ.out ?_)
      repeat
        refine WQ_step (fun K hK => ?_)
        go_simp
        first
          | (refine hK _ ?_; clear hK K)
          | (apply Exists.intro
             refine ⟨fun _ => ?_, hK _ ?_⟩
             focus ((with_reducible refine calls_in (h99i _ (bel _ _)) (fun w' hb => ?_); first | exact hb.rest | exact rest1 hb | exact rest2 hb))
             clear hK K)
      refine WQ_nil ?_
      intro w1 hw1
      obtain ⟨p, hw1⟩ := hw1
      subst hw1
      go_wp2_with fail
      go_roundw
      case rel => exact ⟨i - 1, i, by go_num, rfl, by omega, by omega, by omega, bel wr _ |> fun h => hbw.trans (h.mono hbw.size)⟩
      case measure => simp [intOf]; omega
    · obtain rfl : i = -1 := by omega
      obtain rfl : j = 0 := by have := hj (by omega); omega
      have h990 := fun ww hb => h99 0 ww (by omega) (by omega) hb
      clear hj h99
      go_wp2_with fail
      refine wp_region_quiet_rest (by kernel_rfl) (by kernel_rfl) (WQ.out ?_)
      repeat
        refine WQ_step (fun K hK => ?_)
        go_simp
        first
          | (refine hK _ ?_; clear hK K)
          | (apply Exists.intro
             refine ⟨fun _ => ?_, hK _ ?_⟩
             focus ((with_reducible refine calls_in (h990 _ (bel _ _)) (fun w' hb => ?_); first | exact hb.rest | exact rest1 hb | exact rest2 hb))
             clear hK K)
      refine WQ_nil ?_
      intro w1 hw1
      obtain ⟨p, hw1⟩ := hw1
      subst hw1
      go_upto_region 18 with fail
      refine abs_world (F := fun wz => StOwn B wz (.slice (some ⟨bi, 0, none⟩) S.ins.length cap) (.slice oa on oc) (.slice ma mn mc) S ∧ Blk wz b #[.slice (some ⟨bi, 0, none⟩) S.ins.length cap, .slice oa on oc, .slice ma mn mc] 27 ∧ Blk wz w.heap.size #[.int .i64 kd, .int .i64 core, .int .i64 f0, .int .i64 off, .int .i64 nu, .string path, .string p2, .string dt] 29 ∧ Blk wz (w.heap.size + 1) #[.int .i64 0, .int .i64 0, .int .i64 0, .bool false, .string { data := #[] }, .slice none 0 0] 46 ∧ Below w.heap.size w wz) ⟨(HW.out.1.on hbw).on (bel wr _), blk_on (blk_on HW.out.2.1 hbw) (bel wr _), blk_on (blk_on HW.out.2.2.1 hbw) (bel wr _), blk_on (blk_on HW.out.2.2.2.1 hbw) (bel wr _), bel w _⟩ ?_
      clear s0 s1 s2 q1 iL iC iB hbW hbw HW
      rintro wz ⟨ho, hb, hc, hr, hbw⟩
      have hBz : B ≤ wz.heap.size := Nat.le_trans hB hbw.size
      have iC := hc.lt
      have q1 := hc.cell 1
      simp at q1
      have h100 : Calls Tryz.prog 100 #[.pointer (some ⟨b, 0, none⟩), .int .i64 core, .int .i64 0, .int .i64 num] wz fun e w' => e = .returned (.tuple #[]) ∧ Below B wz w' ∧ Keep (fun g => g = b) wz w' ∧ ∃ ov', Blk w' b #[.slice (some ⟨bi, 0, none⟩) S.ins.length cap, ov', .slice ma mn mc] 27 ∧ StOwn B w' (.slice (some ⟨bi, 0, none⟩) S.ins.length cap) ov' (.slice ma mn mc) { S with op := insF (aheadD core 0) ⟨core, 0, num⟩ S.op false [] } := grab100 B b S _ _ _ core 0 num wz hb ho hBz hBb hol
      have HZ := Lib.hid (And.intro hc (And.intro hr hbw))
      clear ho hb hc hr hbw
      go_upto_region 19 with (go_at_call 100; (with_reducible refine h100.mono ?_); rintro e w5 ⟨rfl, hb5, hk5, ov5, hb55, hs5⟩; have HX5 := Lib.hid (And.intro hb5 (And.intro hk5 (And.intro hb55 hs5))); clear hb5 hk5 hb55 hs5)
      have f3 := HX5.out.2.1.blk HZ.out.2.1 (by omega)
      have l3 := f3.lt
      have g0 := f3.cell 0
      have g1 := f3.cell 1
      have g2 := f3.cell 2
      have g3 := f3.cell 3
      have g4 := f3.cell 4
      have g5' := f3.cell 5
      have fz0 := f3.frozen 0
      have fz1 := f3.frozen 1
      have fz2 := f3.frozen 2
      have fz3 := f3.frozen 3
      have fz4 := f3.frozen 4
      have fz5 := f3.frozen 5
      simp at g0 g1 g2 g3 g4 g5'
      have HF3 := Lib.hid f3
      clear f3 q1 iC
      go_wp2_with fail
      exact bodyPost_ret (v := .tuple #[resV 0 0 0, .bool true]) (by unfold results; simp only [Tryz.results57, resV]; go_simp) rfl ⟨rfl, fin46 (r := w.heap.size + 1) keep46n (by omega) hblt hB HF3.out HX5.out.2.2.1 HX5.out.2.2.2 ((HZ.out.2.2.mono hB).trans HX5.out.1) ((Spared.of_below HZ.out.2.2).trans (fun g c t hb hn _ => HX5.out.2.1.blk hb hn))⟩
end Go.Proofs.YtjkenolgkkknaaaGreatDoor
namespace Go.Proofs.YtjkenolgkkknaaaGreatDoor
open Go.RowKit
def zrow : Array Value := (Lib.byteCells z200.data.toList).toArray
theorem info5' : (Tryz.prog.info? 5).map (fun i => (i.zero, i.size, i.bytes)) = some (some (.int .u8 0), 1, 1) := by kernel_rfl
theorem z200_size : z200.size = 200 := by kernel_rfl
theorem zrow_size : zrow.size = 200 := by kernel_rfl
theorem mk200 (u : World) : (Instr.makeSlice 43 (.int .i64 200) (.int .i64 200)).run Tryz.prog u = .ok (.slice (some ⟨u.heap.size, 0, none⟩) 200 200) (u.alloc (.cells zrow 5)) := by
  obtain ⟨i, hi, hz, h1, h2⟩ := info_parts info5'
  have := run_makeSlice (P := Tryz.prog) u 43 5 i _ Tryz.underlying43 hi hz .i64 .i64 200 200 (by omega) (Int.le_refl _) (by rw [h1]; decide) (by rw [h2]; decide) (by omega)
  rw [h1] at this
  rw [this]
  have e : madeCells (Value.int IntKind.u8 0).cells ((200 : Int).toNat * 1) = zrow := by kernel_rfl
  rw [e]
  rfl
theorem cp200 (w : World) (g : Nat) (ty : TypeId) (h : Blk w g zrow 5) : (Builtin.copy_ #[43, 9] ty #[.slice (some ⟨g, 0, none⟩) 200 200, .string z200]).run Tryz.prog w = .ok (.int .i64 200) w := by
  obtain ⟨i, hi, hz, h1, h2⟩ := info_parts info5'
  have := Lib.run_copy_row_string (P := Tryz.prog) w 43 9 ty 5 g 0 200 200 z200 zrow 5 Tryz.underlying43 (by rw [hi]; simp [h1]) h (by rw [z200_size]; exact Nat.le_refl _) (by rw [z200_size, zrow_size]; omega)
  rw [this, z200_size]
  have e : (zrow.toList.take 0 ++ Lib.byteCells z200.data.toList ++ zrow.toList.drop (0 + 200)).toArray = zrow := by kernel_rfl
  rw [e, setRow_self w g zrow 5 (0, 0) h]
  rfl
theorem cv200 (w : World) (g : Nat) (h : Blk w g zrow 5) : (convert 43 9 (.slice (some ⟨g, 0, none⟩) 200 200)).run Tryz.prog w = .ok (.string z200) w := by
  have := Lib.run_convert_whole (P := Tryz.prog) w 43 5 9 Tryz.underlying43 Tryz.underlying5 Tryz.underlying9 g 0 z200 (fun i hi => by
    rw [h.cell, Nat.zero_add]
    unfold zrow Lib.byteCells
    have hi2 : i < z200.data.size := hi
    simp [hi2]
    exact ⟨_, Array.getElem?_eq_getElem hi2, rfl⟩) 200
  rw [z200_size] at this
  exact this
set_option maxRecDepth 100000 in
theorem sized102 (w : World) : Calls Tryz.prog 102 #[.string { data := #[] }, .int .i64 200] w fun e w' => ∃ g, e = .returned (.slice (some ⟨g, 0, none⟩) 200 200) ∧ Below w.heap.size w w' ∧ w.heap.size ≤ g ∧ Blk w' g zrow 5 := by
  have hmk := mk200
  have hce : ∀ (d : Option Addr) (W : World), (Builtin.copy_ #[43, 9] 3 #[.slice d 200 200, .string { data := #[] }]).run Tryz.prog W = .ok (.int .i64 0) W := fun d W => by
    obtain ⟨i, hi, hz, h1, h2⟩ := info_parts info5'
    exact Lib.run_copy_empty_string (P := Tryz.prog) W 43 9 3 5 d 200 200 _ Tryz.underlying43 (by rw [hi]; rfl) rfl
  generalize zrow = zr at *
  go_enter Tryz.func102, Tryz.ntmps102
  go_wp2_with fail
  exact bodyPost_ret (v := .slice (some ⟨w.heap.size, 0, none⟩) 200 200) (by simp [results, Tryz.results102, go_sem]) rfl ⟨_, rfl, bel _ _, Nat.le_refl _, Blk.new_i _ _ _ _⟩
set_option maxRecDepth 100000 in
/-- Other bytes are laid in one inode. -/
theorem StOwn.setData {B : Nat} {w : World} {ov mv : Value} {S : PSt} {bi cap K : Nat} {x : PIn} (h : StOwn B w (.slice (some ⟨bi, 0, none⟩) S.ins.length cap) ov mv S) (hx : S.ins[K]? = some x) (d : ByteArray) :
    StOwn B (w.setCell ⟨bi, K * 4 + 3, none⟩ (.string d)) (.slice (some ⟨bi, 0, none⟩) S.ins.length cap) ov mv { S with ins := S.ins.set K { x with data := d } } ∧ B ≤ bi ∧ ∃ c, Blk w bi c 65 := by
  obtain ⟨h1, h2, is, h3, h4, h5, h6⟩ := h
  obtain ⟨hKl, _⟩ := List.getElem?_eq_some_iff.1 hx
  have hr : is[K]? = some is[K] := List.getElem?_eq_getElem (by omega)
  obtain ⟨a1, a2, a3, a4⟩ := h5 K _ x hr hx
  rcases h3 with ⟨h0, _⟩ | ⟨g, cap', arr, heq, hgB, hgb, hnc, hcm, hsz, hri⟩
  · simp at h0
  simp only [Value.slice.injEq, Option.some.injEq, Addr.mk.injEq] at heq
  obtain ⟨⟨rfl, -, -⟩, hl, rfl⟩ := heq
  have hS : Keep (fun k => k = bi) w (w.setCell ⟨bi, K * 4 + 3, none⟩ (.string d)) := Keep.setCell (S := fun k => k = bi) (p := ⟨bi, K * 4 + 3, none⟩) (Keep.refl _ _) (.inl rfl) _
  have far : ∀ {e : TypeId} {k : Nat} {v : Value} {rows : List (List Value)}, OwnP B w e k v rows → e ≠ 65 → OwnP B (w.setCell ⟨bi, K * 4 + 3, none⟩ (.string d)) e k v rows := by
    intro e k v rows ho hee
    exact ho.keep hS (fun g hg hh => ho.ne_blk hgb hee hg hh)
  have hil : K < is.length := by omega
  have hmset : (is.map IRec.cells).set K (is[K].cells.set 3 (.string d)) = (is.set K ⟨is[K].num, is[K].dir, is[K].ev, d, is[K].one⟩).map IRec.cells := by
    rw [List.map_set]
    rfl
  have hKs : K * 4 + 3 < arr.size := by
    rw [List.length_map] at hnc
    omega
  refine ⟨⟨far h1 (by decide), far h2 (by decide), is.set K ⟨is[K].num, is[K].dir, is[K].ev, d, is[K].one⟩, .inr ⟨bi, cap, arr.setIfInBounds (K * 4 + 3) (.string d), ?_, hgB, hgb.set_ _ _, ?_, hcm, by rw [Array.size_setIfInBounds]; exact hsz, ?_⟩, ?_, ?_, ?_⟩, hgB, _, hgb⟩
  · rw [List.length_map, List.length_set, h4]
  · rw [List.length_map, List.length_set]; rw [List.length_map] at hnc; exact hnc
  · rw [← hmset]
    exact hri.set (irec_len _) (by rw [List.getElem?_map, hr]; rfl) (by decide) hKs _
  · show (is.set K _).length = (S.ins.set K _).length
    rw [List.length_set, List.length_set, h4]
  · intro q r x' hq hx'
    have hx' : (S.ins.set K { x with data := d })[q]? = some x' := hx'
    by_cases e : K = q
    · subst e
      rw [List.getElem?_set_self hil] at hq
      rw [List.getElem?_set_self hKl] at hx'
      cases hq
      cases hx'
      exact ⟨a1, a2, rfl, far a4 (by decide)⟩
    · rw [List.getElem?_set_ne e] at hq hx'
      obtain ⟨b1, b2, b3, b4⟩ := h5 q r x' hq hx'
      exact ⟨b1, b2, b3, far b4 (by decide)⟩
  · intro p q r r' hpq hp hq k hk
    have old : ∀ (j : Nat) (rb : IRec), (is.set K ⟨is[K].num, is[K].dir, is[K].ev, d, is[K].one⟩)[j]? = some rb → ∃ ro, is[j]? = some ro ∧ ro.ev = rb.ev := by
      intro j rb hj
      by_cases e : K = j
      · subst e
        rw [List.getElem?_set_self hil] at hj
        cases hj
        exact ⟨_, hr, rfl⟩
      · rw [List.getElem?_set_ne e] at hj
        exact ⟨rb, hj, rfl⟩
    obtain ⟨o1, p1, e1⟩ := old p r hp
    obtain ⟨o2, p2, e2⟩ := old q r' hq
    rw [← e1] at hk
    rw [← e2]
    exact h6 p q o1 o2 hpq p1 p2 k hk
end Go.Proofs.YtjkenolgkkknaaaGreatDoor
