/- The document's Add for a row it may add to. Conditions: none. -/
import Derived.Test.YtpndplbomnjioaaRef0
set_option linter.unusedVariables false
namespace Go.Proofs.Ytpndplbomnjioaa
open Go.RowKit
set_option maxRecDepth 100000 in
set_option maxHeartbeats 2000000 in
theorem refadd_ok (L A T n tc j : Nat) (kind fd off num : Int) (path path2 data : ByteArray) (sc sk lc lk : Int) (m : Nat) (rv tcur : Array Value) (a : Option Addr) (cp : Nat)
    (w : World) (hL : Blk w L #[.slice (some ⟨A, 0, none⟩) n n, .slice (some ⟨T, 0, none⟩) n tc] 65) (hA : Blk w A rv 42) (hT : Blk w T tcur 23)
    (hrj : rv[j]? = some (.slice a m cp)) (hT0 : tcur[j * 2]? = some (.int .i64 lc)) (hT1 : tcur[j * 2 + 1]? = some (.int .i64 lk))
    (xs : List Value) (hrow : w.ownsRow 0 45 10 (.slice a m cp) m xs) (hj : j < n) (hn : n ≤ 8) (hm : m < 256) (hk0 : 0 ≤ kind) (hk1 : kind ≤ 16) (hs : mayB sc sk = true) :
    Calls Try.prog 27 #[.pointer (some ⟨L, 0, none⟩), .agg #[.int .i64 kind, .int .i64 j, .int .i64 fd, .int .i64 off, .int .i64 num, .string path, .string path2, .string data], .agg #[.int .i64 sc, .int .i64 sk]] w fun e w' => e = .returned (.tuple #[.agg #[.int .i64 (nextC lc lk sc sk), .int .i64 lk], .int .i64 0]) ∧ ∃ v', Added w A T j m rv ((tcur.setIfInBounds (j * 2) (.int .i64 (nextC lc lk sc sk))).setIfInBounds (j * 2 + 1) (.int .i64 lk)) (xs ++ [.int .i64 (nextC lc lk sc sk), .int .i64 lk, .int .i64 kind, .int .i64 j, .int .i64 fd, .int .i64 off, .int .i64 num, .string path, .string path2, .string data]) (Value.slice a m cp).ownBlock v' w' := by
  have iL := hL.lt
  have iA := hA.lt
  have iT := hT.lt
  have cL0 := hL.cell 0
  have cL1 := hL.cell 1
  have cA := hA.cell j
  have cT0 := hT.cell (j * 2)
  have cT1 := hT.cell (j * 2 + 1)
  simp only [List.getElem?_toArray, List.getElem?_cons_zero, List.getElem?_cons_succ] at cL0 cL1
  rw [hrj] at cA
  rw [hT0] at cT0
  rw [hT1] at cT1
  have HA := Lib.hid hA
  have HT := Lib.hid hT
  have HL := Lib.hid hL
  have HR := Lib.hid hrow
  clear hA hT hL hrow
  go_enter Try.func27, Try.ntmps27
  have hjn : ¬ (n : Int) ≤ j := by omega
  have hmay : ∀ w, Calls Try.prog 12 #[.agg #[.int .i64 sc, .int .i64 sk]] w _ := fun w => refmay_any sc sk w
  rw [hs] at hmay
  go_upto_region 1 with fail
  refine wp_region_quiet_rest (by kernel_rfl) (by kernel_rfl) (WQ.out ?_)
  repeat
    refine WQ_step (fun K hK => ?_)
    go_simp
    first
      | (refine hK _ ?_; clear hK K)
      | (apply Exists.intro
         refine ⟨fun _ => ?_, hK _ ?_⟩
         focus
           go_at_call 12
           refine calls_in (hmay _) (fun w' hb => ?_)
           first | exact rest1 hb | exact rest2 hb
         clear hK K)
  refine WQ_nil ?_
  intro w1 hw1
  obtain ⟨p, hw1⟩ := hw1
  subst hw1
  go_upto_region 3 with fail
  refine wp_region_quiet_rest (by kernel_rfl) (by kernel_rfl) (WQ.out ?_)
  repeat
    refine WQ_step (fun K hK => ?_)
    go_simp
    first
      | (refine hK _ ?_; clear hK K)
      | (apply Exists.intro
         refine ⟨fun _ => ?_, hK _ ?_⟩
         focus
           go_at_call 12
           refine calls_in (hmay _) (fun w' hb => ?_)
           first | exact rest1 hb | exact rest2 hb
         clear hK K)
  refine WQ_nil ?_
  intro w1 hw1
  obtain ⟨p, hw1⟩ := hw1
  subst hw1
  go_upto_region 5 with fail
  go_cut [8] (fun s8 wx => ∃ g : Nat, s8 = .pointer (some ⟨g, 0, none⟩) ∧ Mid1 w #[.int .i64 kind, .int .i64 j, .int .i64 fd, .int .i64 off, .int .i64 num, .string path, .string path2, .string data] (nextC lc lk sc sk) lk g wx)
  case first =>
    go_region_held3 (fun w' => w'.cell? ⟨L, 1, none⟩ = some (.slice (some ⟨T, 0, none⟩) n tc) ∧ w'.cell? ⟨T, j * 2, none⟩ = some (.int .i64 lc) ∧ w'.cell? ⟨T, j * 2 + 1, none⟩ = some (.int .i64 lk) ∧ w'.cell? ⟨w.heap.size, 1, none⟩ = some (.int .i64 j) ∧ w'.cell? ⟨w.heap.size + 1, 0, none⟩ = some (.int .i64 sc) ∧ w'.cell? ⟨w.heap.size + 1, 1, none⟩ = some (.int .i64 sk))
      (first | (refine ⟨?_, ?_, ?_, ?_, ?_, ?_⟩ <;> go_simp))
      ((go_at_call 16; refine (refnext_any _ _ _ _ _).mono ?_; rintro e w' ⟨rfl, hb⟩; obtain ⟨p, rfl⟩ := hb.rest; clear hb))
    all_goals go_wp2_with fail
    all_goals go_meet
    all_goals (refine ⟨_, rfl, bel _ _, ?_, ?_, ?_, ?_, ?_⟩)
    all_goals try (first | omega | (repeat (first | exact Blk.new_i _ _ _ _ | refine Blk.alloc ?_ _ | refine Blk.junk ?_ _)))
  case rest =>
    obtain ⟨g, rfl, mb, mc, mr, mg, mge, mne⟩ := hcut
    clear cL0 cL1 cA cT0 cT1
    have hL := HL.out.below mb iL.lt
    have hA := HA.out.below mb iA.lt
    have hT := HT.out.below mb iT.lt
    have jL := hL.lt
    have jA := hA.lt
    have jT := hT.lt
    have jc := mc.lt
    have jr := mr.lt
    have jg := mg.lt
    have hTlt := iT.lt
    have cL0 := hL.cell 0
    have cL1 := hL.cell 1
    have cA := hA.cell j
    have cT0 := hT.cell (j * 2)
    have cT1 := hT.cell (j * 2 + 1)
    have cc1 := mc.cell 1
    have cg0 := mg.cell 0
    have cg1 := mg.cell 1
    have fT0 := hT.frozen (j * 2)
    have fT1 := hT.frozen (j * 2 + 1)
    simp only [List.getElem?_toArray, List.getElem?_cons_zero, List.getElem?_cons_succ] at cL0 cL1 cc1 cg0 cg1
    rw [hrj] at cA
    rw [hT0] at cT0
    rw [hT1] at cT1
    have nTL : ¬ T = L := hT.ne_ hL (by decide)
    have nLT : ¬ L = T := hL.ne_ hT (by decide)
    have nTg : ¬ T = g := by have := hTlt; omega
    have ngT : ¬ g = T := by have := hTlt; omega
    have nTc : ¬ T = w.heap.size := by have := hTlt; omega
    have ncT : ¬ w.heap.size = T := by have := hTlt; omega
    have HL' := Lib.hid hL
    have HA' := Lib.hid hA
    have HT' := Lib.hid hT
    have HM := Lib.hid (And.intro mc (And.intro mr mg))
    clear hL hA hT mc mr mg
    go_upto_region 6 with fail
    go_cut [] (fun wx => Mid2 w T j tcur #[.int .i64 kind, .int .i64 j, .int .i64 fd, .int .i64 off, .int .i64 num, .string path, .string path2, .string data] (nextC lc lk sc sk) lk g wx)
    case first =>
      go_region_held3 (fun w' => w'.cell? ⟨L, 1, none⟩ = some (.slice (some ⟨T, 0, none⟩) n tc) ∧ w'.cell? ⟨w.heap.size, 1, none⟩ = some (.int .i64 j) ∧ w'.cell? ⟨g, 0, none⟩ = some (.int .i64 (nextC lc lk sc sk)) ∧ w'.cell? ⟨g, 1, none⟩ = some (.int .i64 lk))
        (first | ((try dsimp only); (repeat' apply And.intro) <;> go_simp))
        (fail)
      all_goals go_wp2_with fail
      all_goals go_meet
      all_goals exact ⟨(((Keep.of_below mb (fun k => k = T)).setCell (p := ⟨T, _, _⟩) (.inl rfl) _).setCell (p := ⟨T, _, _⟩) (.inl rfl) _).drew, ((HT'.out.set_ _ _).set_ _ _).drew, ((HM.out.1.far ncT _).far ncT _).drew, ((HM.out.2.1.far (fun e => by have := hTlt; simp at e; omega) _).far (fun e => by have := hTlt; simp at e; omega) _).drew, ((HM.out.2.2.far ngT _).far ngT _).drew, mge, mne⟩
    case rest =>
      clear cL0 cL1 cA cT0 cT1 cc1 cg0 cg1 fT0 fT1 HL' HA' HT' HM jL jA jT jc jr jg mb
      rename World => wq
      obtain ⟨mk, mT, mc, mr, mg, _, _⟩ := hcut
      have hL := mk.blk HL.out nLT
      have hA := mk.blk HA.out (HA.out.ne_ HT.out (by decide))
      have hrow := mk.own HR.out (fun k hk e => own_ne_blk HR.out HT.out (by decide) (by rw [hk, e]))
      have nAL := hA.ne_ hL (by decide)
      have nLA := hL.ne_ hA (by decide)
      have jA := hA.lt
      have jL := hL.lt
      have jc := mc.lt
      have jg := mg.lt
      have jr := mr.lt
      have hAlt := iA.lt
      have nAg : ¬ A = g := by have := hAlt; omega
      have nAc : ¬ A = w.heap.size := by have := hAlt; omega
      have cL0 := hL.cell 0
      have cA := hA.cell j
      have fA := hA.frozen j
      have cc0 := mc.cell 0
      have cc1 := mc.cell 1
      have cc2 := mc.cell 2
      have cc3 := mc.cell 3
      have cc4 := mc.cell 4
      have cc5 := mc.cell 5
      have cc6 := mc.cell 6
      have cc7 := mc.cell 7
      have cg0 := mg.cell 0
      have cg1 := mg.cell 1
      simp only [List.getElem?_toArray, List.getElem?_cons_zero, List.getElem?_cons_succ] at cL0 cc0 cc1 cc2 cc3 cc4 cc5 cc6 cc7 cg0 cg1
      rw [hrj] at cA
      have HL2 := Lib.hid hL
      have HA2 := Lib.hid hA
      have HR2 := Lib.hid hrow
      have HM := Lib.hid (And.intro mT (And.intro mc (And.intro mr mg)))
      have nRL := Lib.hid (own_ne_blk hrow hL (by decide))
      have nRA := Lib.hid (own_ne_blk hrow hA (by decide))
      have nRc := Lib.hid (own_ne_blk hrow mc (by decide))
      have nRg := Lib.hid (own_ne_blk hrow mg (by decide))
      have nRr := Lib.hid (own_ne_blk hrow mr (by decide))
      clear hL hA hrow mT mc mr mg
      obtain ⟨i0, hi, hz0, hz1, hz2⟩ := info_parts info45
      go_upto_region 7 with fail
      go_cut [] (fun wx => ∃ v', Mid3 w A T j m rv ((tcur.setIfInBounds (j * 2) (.int .i64 (nextC lc lk sc sk))).setIfInBounds (j * 2 + 1) (.int .i64 lk)) (nextC lc lk sc sk) lk g (xs ++ [.int .i64 (nextC lc lk sc sk), .int .i64 lk, .int .i64 kind, .int .i64 j, .int .i64 fd, .int .i64 off, .int .i64 num, .string path, .string path2, .string data]) (Value.slice a m cp).ownBlock v' wx)
      case first =>
        refine wp_region_eff [17, 18, 20] true (fun w' => w'.cell? ⟨L, 0, none⟩ = some (.slice (some ⟨A, 0, none⟩) n n) ∧ w'.cell? ⟨A, j, none⟩ = some (.slice a m cp) ∧ w'.cell? ⟨w.heap.size, 0, none⟩ = some (.int .i64 kind) ∧ w'.cell? ⟨w.heap.size, 1, none⟩ = some (.int .i64 j) ∧ w'.cell? ⟨w.heap.size, 2, none⟩ = some (.int .i64 fd) ∧ w'.cell? ⟨w.heap.size, 3, none⟩ = some (.int .i64 off) ∧ w'.cell? ⟨w.heap.size, 4, none⟩ = some (.int .i64 num) ∧ w'.cell? ⟨w.heap.size, 5, none⟩ = some (.string path) ∧ w'.cell? ⟨w.heap.size, 6, none⟩ = some (.string path2) ∧ w'.cell? ⟨w.heap.size, 7, none⟩ = some (.string data) ∧ w'.cell? ⟨g, 0, none⟩ = some (.int .i64 (nextC lc lk sc sk)) ∧ w'.cell? ⟨g, 1, none⟩ = some (.int .i64 lk)) (by kernel_rfl) (by kernel_rfl) ?_ ?_
        · (try dsimp only); (repeat' apply And.intro) <;> go_simp
        repeat
          refine wpL_look rfl rfl ?_
          apply Exists.intro
          refine ⟨?_, ?_⟩
          focus
            rintro w' ⟨s0, s1, s2, s3, s4, s5, s6, s7, s8, s9, s10, s11⟩
            go_simp
            first | done | rfl
          simp only [Act.put, List.setIfInBounds_toArray, List.set_cons_zero, List.set_cons_succ]
        refine wpL_do rfl rfl ?_
        apply Exists.intro
        apply Exists.intro
        refine ⟨?_, ?_, ?_⟩
        focus
          go_simp
          exact ⟨rfl, rfl⟩
        focus
          refine .inl ?_
          (try dsimp only); (repeat' apply And.intro) <;> go_simp
        simp only [Act.put, List.setIfInBounds_toArray, List.set_cons_zero, List.set_cons_succ]
        refine wpL_act rfl rfl ?_
        refine eff_append (.tmp 80) (.tmp 84) 42 ?e00 0 45 i0 _ 10 104 Try.underlying42 hi hz0 hz1 hz2 ?e9 ?e10 (.slice a m cp) m xs ?e1 ?e2 ?ad 1 1 [.int .i64 (nextC lc lk sc sk), .int .i64 lk, .int .i64 kind, .int .i64 j, .int .i64 fd, .int .i64 off, .int .i64 num, .string path, .string path2, .string data] ?e3 ?e4 ?news ?e5 ?e6 ?e7 (Nat.zero_le _) ?_
        case e00 => rfl
        case e9 => rfl
        case e10 => decide
        case e1 => rfl
        case e3 => rfl
        case e4 => rfl
        case e2 => exact own_drew (own_drew (HR2.out.alloc _))
        case e5 => simp [Value.oneCell']
        case e6 => unfold maxLen; omega
        case e7 => omega
        case news => exact (fun j' u hu => by simp only [World.cell?_drew]; exact news_new wq [.int .i64 (nextC lc lk sc sk), .int .i64 lk, .int .i64 kind, .int .i64 j, .int .i64 fd, .int .i64 off, .int .i64 num, .string path, .string path2, .string data] 45 wq.heap.size j' u hu)
        intro v' w1 hown1 hgrow hloc
        obtain ⟨a', cp', rfl⟩ := own_form hown1
        have HX := Lib.hid (And.intro hown1 (And.intro hgrow hloc))
        clear hown1 hloc
        have iA1 : BlockLt A w1 := grown_lt hgrow
        have e1 := grown_cells hgrow (b := L) nRL.out
        have e2 := grown_cells hgrow (b := A) nRA.out
        have e3 := grown_cells hgrow (b := w.heap.size) nRc.out
        have e4 := grown_cells hgrow (b := g) nRg.out
        have e5 := grown_frozen hgrow (b := A) nRA.out
        clear hgrow
        refine ⟨.inl ?_, ?_⟩
        focus
          (try dsimp only); (repeat' apply And.intro) <;> go_simp
        simp only [Act.put, List.setIfInBounds_toArray, List.set_cons_zero, List.set_cons_succ]
        refine wpL_look rfl rfl ?_
        apply Exists.intro
        refine ⟨?_, ?_⟩
        focus
          rintro w' ⟨s0, s1, s2, s3, s4, s5, s6, s7, s8, s9, s10, s11⟩
          go_simp
          first | done | rfl
        simp only [Act.put, List.setIfInBounds_toArray, List.set_cons_zero, List.set_cons_succ]
        refine wpL_skip rfl rfl ?_
        apply Exists.intro
        refine ⟨?_, .inr ⟨rfl, rfl⟩, ?_⟩
        focus
          go_simp
          rfl
        simp only [Act.put]
        refine wpL_end ?_
        all_goals go_wp2_with fail
        all_goals go_meet
        all_goals (obtain ⟨hown1, hgrow, hloc⟩ := HX.out)
        have K1 : Keep (fun k => (Value.slice a m cp).ownBlock = some k) wq w1 := (((Keep.refl _ wq).alloc _).drew).grown hgrow (fun k hk => .inl hk)
        have nRT := own_ne_blk HR2.out HM.out.1 (by decide)
        have hA1 := K1.blk HA2.out nRA.out
        have nAT := HA2.out.ne_ HM.out.1 (by decide)
        have nTA : ¬ T = A := fun e => nAT e.symm
        exact ⟨_, ((mk.mono (S' := fun k => k = T ∨ k = A ∨ (Value.slice a m cp).ownBlock = some k) (fun i _ h => .inl h)).trans K1 (fun i _ h => .inr (.inr h))).setCell (p := ⟨A, _, _⟩) (.inl (.inr (.inl rfl))) _, hA1.set_ _ _, (K1.blk HM.out.1 nRT).far nTA _, (K1.blk HM.out.2.2.1 nRr.out).far (fun e => by have := hAlt; simp at e; omega) _, (K1.blk HM.out.2.2.2 nRg.out).far (fun e => nAg e.symm) _,
          ((Keep.refl (fun k => k = A) w1).setCell (p := ⟨A, _, _⟩) (.inl rfl) _).own hown1 (fun k hk e => own_ne_blk hown1 hA1 (by decide) (by rw [hk, e])), by
          rcases hloc with h | h
          · exact .inl h
          · exact .inr ⟨_, h, by have := mk.size; simp; omega⟩⟩
      case rest =>
        obtain ⟨v', m3⟩ := hcut
        have jr := m3.hr.lt
        have jg := m3.hg.lt
        have cg0 := m3.hg.cell 0
        have cg1 := m3.hg.cell 1
        have fr0 := m3.hr.frozen 0
        have fr1 := m3.hr.frozen 1
        have cr0 := m3.hr.cell 0
        have cr1 := m3.hr.cell 1
        simp only [List.getElem?_toArray, List.getElem?_cons_zero, List.getElem?_cons_succ] at cg0 cg1 cr0 cr1
        go_wp2_with fail
        have hx := m3.hr.set_ 0 (.int .i64 (nextC lc lk sc sk))
        have q0 := hx.cell 0
        have q1 := (hx.set_ 1 (.int .i64 lk)).cell 1
        simp at q0 q1
        refine bodyPost_ret (v := .tuple #[.agg #[.int .i64 (nextC lc lk sc sk), .int .i64 lk], .int .i64 0]) (by simp [results, Try.results27, go_sem, q0, q1]) rfl ⟨rfl, v', ?_⟩
        have nA : A ≠ w.heap.size + 1 + 1 := fun e => by have := hAlt; omega
        have nT : T ≠ w.heap.size + 1 + 1 := fun e => by have := hTlt; omega
        exact ⟨(m3.keep.setCell (p := ⟨_, _, _⟩) (.inr (by simp; omega)) _).setCell (p := ⟨_, _, _⟩) (.inr (by simp; omega)) _, (m3.hA.far nA _).far nA _, (m3.hT.far nT _).far nT _, (((Keep.refl (fun k => k = w.heap.size + 1 + 1) wc).setCell (p := ⟨_, _, _⟩) (.inl rfl) _).setCell (p := ⟨_, _, _⟩) (.inl rfl) _).own m3.own (fun k hk e => own_ne_blk m3.own m3.hr (by decide) (by rw [hk, e])), m3.loc⟩

end Go.Proofs.Ytpndplbomnjioaa
