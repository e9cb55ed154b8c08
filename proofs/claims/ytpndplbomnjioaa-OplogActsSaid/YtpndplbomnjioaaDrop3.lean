/- Drop over a log of cores as it lies in memory. Conditions: none. -/
import Derived.Test.YtpndplbomnjioaaDrop2
set_option linter.unusedVariables false
namespace Go.Proofs.Ytpndplbomnjioaa
open Go.RowKit
/-- What Drop leaves of each row. -/
def kept (uc uk : Int) (rs : Nat → List Rec) (j : Nat) : List Rec := (rs j).filter fun r => !gone uc uk r
def keptTo (uc uk : Int) (rs : Nat → List Rec) (k j : Nat) : List Rec := if j < k then kept uc uk rs j else rs j
theorem LogAt.congr {B : Nat} {w : World} {L A T n tc : Nat} {rv tv : Array Value} {ms ms' : Nat → Nat} {xs xs' : Nat → List Value} {lc : Nat → Int} (h : LogAt B w L A T n tc rv tv ms xs lc) (e : ∀ j, j < n → ms' j = ms j ∧ xs' j = xs j) : LogAt B w L A T n tc rv tv ms' xs' lc :=
  ⟨h.hL, h.hA, h.hT, h.bL, h.bA, h.bT, h.n8, h.szA, h.szT, h.t0, h.t1, fun j hj => by rw [(e j hj).1, (e j hj).2]; exact h.row j hj, h.far⟩
theorem LogAt.dropped {B : Nat} {w wx : World} {L A T n tc j m' : Nat} {rv tv : Array Value} {ms : Nat → Nat} {xs : Nat → List Value} {lc : Nat → Int} {xs' : List Value} (h : LogAt B w L A T n tc rv tv ms xs lc) (hj : j < n) {a : Option Addr} {cp : Nat} (hr : rv[j]? = some (.slice a (ms j) cp)) (ho : w.ownsRow 0 45 10 (.slice a (ms j) cp) (ms j) (xs j)) (hb : ∀ k, (Value.slice a (ms j) cp).ownBlock = some k → B ≤ k)
    (keep : Keep (fun b => b = A ∨ (Value.slice a (ms j) cp).ownBlock = some b) w wx) (hA : Blk wx A (rv.setIfInBounds j (.slice a m' cp)) 42) (own : wx.ownsRow 0 45 10 (.slice a m' cp) m' xs') :
    LogAt B wx L A T n tc (rv.setIfInBounds j (.slice a m' cp)) tv (upd ms j m') (upd xs j xs') lc := by
  have ob : (Value.slice a m' cp).ownBlock = (Value.slice a (ms j) cp).ownBlock := by cases a <;> rfl
  have nL := own_ne_blk ho h.hL (by decide)
  have nT := own_ne_blk ho h.hT (by decide)
  have nLA := h.hL.ne_ h.hA (by decide)
  have nTA := h.hT.ne_ h.hA (by decide)
  refine ⟨keep.blk h.hL (fun e => e.elim nLA nL), hA, keep.blk h.hT (fun e => e.elim nTA nT), h.bL, h.bA, h.bT, h.n8, by simpa using h.szA, h.szT, h.t0, h.t1, ?_, ?_⟩
  · intro i hi
    unfold upd
    by_cases e : i = j
    · subst e
      rw [if_pos rfl, if_pos rfl]
      exact ⟨a, cp, by rw [Array.getElem?_setIfInBounds_self_of_lt (by have := h.szA; omega)], own, fun k hk => hb k (ob.symm.trans hk)⟩
    · rw [if_neg e, if_neg e]
      obtain ⟨ai, ci, e1, e2, e3⟩ := h.row i hi
      refine ⟨ai, ci, by rw [Array.getElem?_setIfInBounds_ne (fun e' => e e'.symm)]; exact e1, keep.own e2 (fun k hk hs => ?_), e3⟩
      rcases hs with hs | hs
      · exact own_ne_blk e2 h.hA (by decide) (by rw [hk, hs])
      · exact h.far i j _ _ k e e1 hr hk hs
  · intro i i' u v k hne hu hv hk
    by_cases e : j = i
    · subst e
      rw [Array.getElem?_setIfInBounds_self_of_lt (by have := h.szA; omega)] at hu
      rw [Array.getElem?_setIfInBounds_ne hne] at hv
      injection hu with hu
      subst hu
      exact h.far j i' _ _ k hne hr hv (ob.symm.trans hk)
    · by_cases e2 : j = i'
      · subst e2
        rw [Array.getElem?_setIfInBounds_self_of_lt (by have := h.szA; omega)] at hv
        rw [Array.getElem?_setIfInBounds_ne e] at hu
        injection hv with hv
        subst hv
        rw [ob]
        exact h.far i j _ _ k hne hu hr hk
      · rw [Array.getElem?_setIfInBounds_ne e] at hu
        rw [Array.getElem?_setIfInBounds_ne e2] at hv
        exact h.far i i' u v k hne hu hv hk
/-- What the loop of Drop knows. -/
structure DropAt (B : Nat) (ex : List Nat) (w : World) (X L A T n tc : Nat) (tv : Array Value) (uc uk : Int) (rs : Nat → List Rec) (lc : Nat → Int) (k : Nat) (c : Int) (wr : World) : Prop where
  log : ∃ rv, LogAt B wr L A T n tc rv tv (lenOf (keptTo uc uk rs k)) (fun j => recs (keptTo uc uk rs k j)) lc ∧ ∀ (j : Nat) (v : Value) (b : Nat), rv[j]? = some v → v.ownBlock = some b → b ∉ ex
  keep : Keep (Out B ex) w wr
  box : Blk wr X #[.int .i64 uc, .int .i64 uk] 23
  le : k ≤ n
  cnt : c = (sumTo (lenOf rs) k : Int) - sumTo (lenOf (kept uc uk rs)) k
  lo : 0 ≤ c ∧ c ≤ 256 * k
set_option maxRecDepth 100000 in
set_option maxHeartbeats 2000000 in
theorem RLog.drop {B : Nat} {ex : List Nat} {w : World} {L n : Nat} {rs : Nat → List Rec} {lc : Nat → Int} (h0 : RLog B ex w L n rs lc) (hB : B ≤ w.heap.size) (hms : ∀ j, j < n → (rs j).length ≤ 256) (uc uk : Int) :
    Calls Try.prog 24 #[.pointer (some ⟨L, 0, none⟩), .agg #[.int .i64 uc, .int .i64 uk]] w fun e w' => e = .returned (.int .i64 ((sumTo (lenOf rs) n : Int) - sumTo (lenOf (kept uc uk rs)) n)) ∧ Keep (Out B ex) w w' ∧ RLog B ex w' L n (kept uc uk rs) lc := by
  obtain ⟨A, T, tc, rv, tv, h, x1, x2, x3, x4⟩ := (h0.more (Nat.le_refl _)).alloc (.cells #[.int .i64 uc, .int .i64 uk] 23)
  have h8 := h.n8
  have iL0 : BlockLt L w := ⟨h0.lt⟩
  have cLw : w.cell? ⟨L, 0, none⟩ = some (.slice (some ⟨A, 0, none⟩) n n) := by
    have := h.hL.cell 0
    rw [World.cell?_alloc_i] at this
    simpa using this
  have hbox := Blk.new w #[.int .i64 uc, .int .i64 uk] 23
  have hK0 : Keep (Out B (w.heap.size :: ex)) w (w.alloc (.cells #[.int .i64 uc, .int .i64 uk] 23)) := (Keep.refl _ w).alloc _
  have HH := Lib.hid (And.intro h (And.intro x4 (And.intro hbox hK0)))
  clear h x4 hbox hK0 h0
  go_enter Try.func24, Try.ntmps24
  go_wp2_with fail
  go_loopw [5, 15] (fun s5 s15 wr => ∃ (k : Nat) (c : Int), s15 = .int .i64 k ∧ s5 = .int .i64 c ∧ DropAt B (w.heap.size :: ex) w w.heap.size L A T n tc tv uc uk rs lc k c wr) (fun _ i _ => n - (intOf i).toNat)
  case atStart =>
    obtain ⟨h, x4, hbox, hK0⟩ := HH.out
    exact ⟨0, 0, rfl, rfl, ⟨rv, h.congr (fun j hj => ⟨by simp [lenOf, keptTo], by simp [keptTo]⟩), x4⟩, hK0, hbox, by omega, rfl, by omega⟩
  case round =>
    obtain ⟨k, c, rfl, rfl, hd⟩ := hrel
    have HD := Lib.hid hd
    have hkn := hd.le
    have hlo := hd.lo
    obtain ⟨rv2, hlog, hfar⟩ := hd.log
    have iX := hd.box.lt
    have d0 := hd.box.cell 0
    have d1 := hd.box.cell 1
    simp only [List.getElem?_toArray, List.getElem?_cons_zero, List.getElem?_cons_succ] at d0 d1
    have iL := hlog.hL.lt
    have iA := hlog.hA.lt
    have cL := hlog.hL.cell 0
    simp only [List.getElem?_toArray, List.getElem?_cons_zero] at cL
    by_cases hlt : k < n
    · obtain ⟨a, cp, r1, r2, r3⟩ := hlog.row k hlt
      have hek : lenOf (keptTo uc uk rs k) k = (rs k).length := by simp [lenOf, keptTo]
      have hxk : keptTo uc uk rs k k = rs k := by simp [keptTo]
      have cA := hlog.hA.cell k
      rw [r1, hek] at cA
      have r2' := r2
      rw [hek] at r2'
      simp only [hxk] at r2'
      have hm := hms k hlt
      have nX : (Value.slice a (rs k).length cp).ownBlock ≠ some w.heap.size := fun e => hfar k _ _ r1 (by rw [hek]; exact e) List.mem_cons_self
      have nL := own_ne_blk r2' hlog.hL (by decide)
      have nA := own_ne_blk r2' hlog.hA (by decide)
      have nLA := hlog.hL.ne_ hlog.hA (by decide)
      have H2 := Lib.hid (And.intro hlog (And.intro hfar (And.intro r1 (And.intro r2 (And.intro r3 (And.intro r2' hek))))))
      have N := Lib.hid (And.intro nX (And.intro nL nA))
      clear hlog hfar r1 r2 r3 r2' hd nX nL nA
      go_upto_region 7 with fail
      have iBm : 0 ≤ (k : Int) ∧ (k : Int) < n := by omega
      refine wp_region_eff [7, 9] true (fun w' => w'.cell? ⟨L, 0, none⟩ = some (.slice (some ⟨A, 0, none⟩) n n)) (by kernel_rfl) (by kernel_rfl) ?_ ?_
      · go_simp
      repeat
        refine wpL_look rfl rfl ?_
        apply Exists.intro
        refine ⟨?_, ?_⟩
        focus
          rintro w' s0
          go_simp
          first | done | rfl
        simp only [Act.put, List.setIfInBounds_toArray, List.set_cons_zero, List.set_cons_succ]
      refine wpL_act rfl rfl ?_
      refine eff_call 33 #[.slice a (rs k).length cp, .func (.func 34) #[] #[.pointer (some ⟨w.heap.size, 0, none⟩)]] ?hr ?_
      case hr =>
        go_simp
        first | done | rfl
      refine (delete33 uc uk w.heap.size wr.drew (by infer_instance) (by go_simp) (by go_simp) a (rs k).length cp (rs k) rfl hm (own_drew H2.out.2.2.2.2.2.1) N.out.1).mono ?_
      rintro e w1 ⟨rfl, hk1, hown1⟩
      have hA1 := hk1.blk H2.out.1.hA N.out.2.2
      have hL1 := hk1.blk H2.out.1.hL N.out.2.1
      have jA := hA1.lt
      have jL := hL1.lt
      have fA := hA1.frozen k
      have eA := hA1.cell k
      rw [H2.out.2.2.1, H2.out.2.2.2.2.2.2] at eA
      have eL := hL1.cell 0
      simp only [List.getElem?_toArray, List.getElem?_cons_zero] at eL
      have H3 := Lib.hid (And.intro hk1 (And.intro hown1 (And.intro hA1 hL1)))
      have nLA' : ¬ A = L := fun e => nLA e.symm
      have nLA2 : ¬ L = A := nLA
      have hkl : ((rs k).filter fun r => !gone uc uk r).length ≤ (rs k).length := List.length_filter_le _ _
      obtain ⟨m', hm'⟩ : ∃ m', ((rs k).filter fun r => !gone uc uk r).length = m' := ⟨_, rfl⟩
      rw [hm'] at hkl ⊢
      clear hk1 hown1 hA1 hL1
      refine ⟨_, rfl, .inl eL, ?_⟩
      simp only [Act.put, List.setIfInBounds_toArray, List.set_cons_zero, List.set_cons_succ]
      refine wpL_look rfl rfl ?_
      apply Exists.intro
      refine ⟨?_, ?_⟩
      focus
        rintro w' s0
        go_simp
        first | done | rfl
      simp only [Act.put, List.setIfInBounds_toArray, List.set_cons_zero, List.set_cons_succ]
      refine wpL_skip rfl rfl ?_
      apply Exists.intro
      refine ⟨?_, .inr ⟨rfl, rfl⟩, ?_⟩
      focus
        go_simp
        rfl
      simp only [Act.put]
      refine wpL_end ?_
      go_wp2_with fail
      go_roundw
      case rel =>
        obtain ⟨hlog, hfar, r1, r2, r3, r2', hek⟩ := H2.out
        obtain ⟨hk1, hown1, hA1, hL1⟩ := H3.out
        rw [hm'] at hown1
        have hk2 : Keep (fun b => (Value.slice a (rs k).length cp).ownBlock = some b) wr w1 := ⟨hk1.os, hk1.tape, hk1.output, hk1.size, hk1.block⟩
        have hk3 : Keep (fun b => b = A ∨ (Value.slice a (rs k).length cp).ownBlock = some b) wr (w1.setCell ⟨A, k, none⟩ (.slice a m' cp)) := (hk2.mono (fun i _ h => .inr h)).setCell (p := ⟨A, k, none⟩) (.inl (.inl rfl)) _
        have hownF := ((Keep.refl (fun b => b = A) w1).setCell (p := ⟨A, k, none⟩) (.inl rfl) (Value.slice a m' cp)).own hown1 (fun b hb e => own_ne_blk hown1 hA1 (by decide) (by rw [hb, e]))
        have hD := hlog.dropped (m' := m') (xs' := recs ((rs k).filter fun r => !gone uc uk r)) hlt r1 r2 r3 (by rw [hek]; exact hk3) (hA1.set_ k _) hownF
        have nXA := HD.out.box.ne_ hlog.hA (by decide)
        refine ⟨k + 1, _, by go_num, rfl, ⟨_, hD.congr (fun j hj => ?_), ?_⟩, ?_, ?_, by omega, ?_, by omega⟩
        · by_cases e : j = k
          · subst e
            simp only [upd, if_pos, lenOf, keptTo, Nat.lt_succ_self, kept]
            exact ⟨hm', trivial⟩
          · have e2 : (j < k + 1) = (j < k) := by simp; omega
            simp only [upd, if_neg e, lenOf, keptTo, e2]
            exact ⟨trivial, trivial⟩
        · intro j v b hv hb
          by_cases e : k = j
          · subst e
            rw [Array.getElem?_setIfInBounds_self_of_lt (by have := hlog.szA; omega)] at hv
            injection hv with hv
            subst hv
            refine hfar k _ b r1 ?_
            rw [← hb]
            cases a <;> rfl
          · rw [Array.getElem?_setIfInBounds_ne e] at hv
            exact hfar j v b hv hb
        · refine HD.out.keep.trans (hk3.mono (S' := Out B (w.heap.size :: ex)) (fun i _ hi => ?_)) (fun i _ h => h)
          rcases hi with rfl | hi
          · exact ⟨hlog.bA, x2⟩
          · rw [← hek] at hi
            exact ⟨r3 i hi, hfar k _ i r1 hi⟩
        · exact (hk2.blk HD.out.box N.out.1).far nXA _
        · have := HD.out.cnt
          simp only [sumTo]
          have e : lenOf (kept uc uk rs) k = m' := hm'
          have e2 : lenOf rs k = (rs k).length := rfl
          omega
      case measure => simp [intOf]; omega
    · obtain rfl : k = n := by omega
      have hc := hd.cnt
      clear hd
      go_wp2_with fail
      refine bodyPost_ret (v := .int .i64 c) (by simp [results, Try.results24, go_sem]) rfl ⟨by rw [hc], HD.out.keep.mono (fun i _ h => ⟨h.1, fun e => h.2 (List.mem_cons_of_mem _ e)⟩), A, T, tc, rv2, tv, hlog.congr (fun j hj => ?_), fun e => x1 (List.mem_cons_of_mem _ e), fun e => x2 (List.mem_cons_of_mem _ e), fun e => x3 (List.mem_cons_of_mem _ e), fun j v b hv hb e => hfar j v b hv hb (List.mem_cons_of_mem _ e)⟩
      simp only [lenOf, keptTo, if_pos hj]
      exact ⟨trivial, trivial⟩
end Go.Proofs.Ytpndplbomnjioaa
