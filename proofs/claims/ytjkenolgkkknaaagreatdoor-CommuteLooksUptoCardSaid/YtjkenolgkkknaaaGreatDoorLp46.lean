/- Part of the proof that the calls that look alone commute. Conditions: none. -/
import Derived.Test.YtjkenolgkkknaaaGreatDoorLp44
set_option linter.unusedVariables false
set_option linter.unusedSimpArgs false
set_option maxRecDepth 100000
set_option maxHeartbeats 8000000
/- The reference's look at the descriptors: open. Conditions: none. -/
set_option linter.unusedVariables false
set_option linter.unusedSimpArgs false
namespace Go.Proofs.YtjkenolgkkknaaaGreatDoor
open Go.RowKit
def dirAt (S : PSt) (k : Int) : Bool := match S.ins[k.toNat]? with | some x => x.dir | none => false
def badD (S : PSt) (d : PDesc) : Bool := decide (d.core < 0) || (decide ((S.made.length : Int) ≤ d.core) || (decide (d.fd < 0) || (decide (4 ≤ d.fd) || (decide (atR S d.num < 0) || dirAt S (atR S d.num)))))
def prevDR (o : Option PDesc) (d : PDesc) : Bool := match o with | some o => decide (d.core < o.core) || ((o.core == d.core) && decide (d.fd ≤ o.fd)) | none => false
def openL (S : PSt) : Option PDesc → List PDesc → Bool
  | _, [] => true
  | o, d :: r => if badD S d = true then false else if prevDR o d = true then false else openL S (some d) r
def openR (S : PSt) : Bool := openL S none S.op
def prevDOf (es : List PDesc) (q : Nat) : Option PDesc := if q = 0 then none else es[q - 1]?
set_option maxRecDepth 100000 in
set_option maxHeartbeats 8000000 in
theorem open27 (S : PSt) (iv ov mv : Value) (w : World) (h : StRead w iv ov mv S) (hwf : S.wf) :
    Calls Tryz.prog 27 #[.agg #[iv, ov, mv]] w fun e w' => e = .returned (.bool (openR S)) ∧ Below w.heap.size w w' := by
  have hA0 : ∀ n ww, Below w.heap.size w ww → Calls Tryz.prog 51 #[.agg #[iv, ov, mv], .int .i64 n] ww fun e w' => e = .returned (.int .i64 (atR S n)) ∧ Below ww.heap.size ww w' := fun n ww hb => at51 S iv ov mv n ww (h.below hb (Nat.le_refl _)) hwf.1
  obtain ⟨ai, ni, ci, ao, no, co, am, nm, cm, rfl, rfl, rfl⟩ := h.slices
  obtain ⟨a, cap, e1, hat⟩ := h.1.at_
  rw [List.length_map] at e1
  cases e1
  obtain ⟨a, cap, e1, hai⟩ := h.ins_at2
  cases e1
  obtain ⟨a, cap, e1, -⟩ := h.2.1.at_
  rw [List.length_map] at e1
  cases e1
  have HA := Lib.hid hat
  have HI := Lib.hid hai
  have HWF := Lib.hid hwf
  have hol := hwf.2.1
  have hml := hwf.2.2.1
  clear hat h hai hwf
  obtain ⟨R, hR⟩ : ∃ R, openR S = R := ⟨_, rfl⟩
  rw [hR]
  unfold openR at hR
  have HR := Lib.hid hR
  clear hR
  go_enter Tryz.func27, Tryz.ntmps27
  go_wp2_with fail
  go_loopw [3] (fun i wr => ∃ (q : Nat), i = .int .i64 q ∧ q ≤ S.op.length ∧ openL S (prevDOf S.op q) (S.op.drop q) = R ∧ Below w.heap.size w wr ∧ Blk wr w.heap.size #[.slice ai S.ins.length ci, .slice ao S.op.length co, .slice am S.made.length cm] 27) (fun i _ => (S.op.length - intOf i).toNat)
  case atStart => exact ⟨0, rfl, by omega, HR.out, bel _ _, Blk.new w _ 27⟩
  case round =>
    obtain ⟨q, rfl, hq, hre, hb, hblk⟩ := hrel
    have iB : Bel w wr := ⟨hb⟩
    have iL := hblk.lt
    have s0 := hblk.cell 0
    have s1 := hblk.cell 1
    have s2 := hblk.cell 2
    simp at s0 s1 s2
    have HB := Lib.hid hblk
    clear hblk
    by_cases hlt : q < S.op.length
    · obtain ⟨z, hz⟩ : ∃ z, S.op[q]? = some z := ⟨_, List.getElem?_eq_getElem hlt⟩
      obtain ⟨b, off, rfl, iG0, iG, hc⟩ := HA.out wr hb q z.cells (by rw [List.getElem?_map, hz]; rfl)
      have c0 := hc 0 _ rfl
      have c1 := hc 1 _ rfl
      have c2 := hc 2 _ rfl
      rw [Nat.add_zero] at c0
      rw [drop_at hz, openL] at hre
      have hprev : (q = 0 ∧ prevDOf S.op q = none) ∨ ∃ (k : Nat) (y : PDesc), q = k + 1 ∧ S.op[k]? = some y ∧ prevDOf S.op q = some y ∧ wr.cell? ⟨b, off + k * 3, none⟩ = some (.int .i64 y.core) ∧ wr.cell? ⟨b, off + k * 3 + 1, none⟩ = some (.int .i64 y.fd) ∧ wr.cell? ⟨b, off + k * 3 + 2, none⟩ = some (.int .i64 y.num) := by
        by_cases hq0 : q = 0
        · exact .inl ⟨hq0, by simp [prevDOf, hq0]⟩
        · obtain ⟨k, rfl⟩ : ∃ k, q = k + 1 := ⟨q - 1, by omega⟩
          obtain ⟨y, hy⟩ : ∃ y, S.op[k]? = some y := ⟨_, List.getElem?_eq_getElem (by omega)⟩
          obtain ⟨b2, off2, he2, _, _, hc2⟩ := HA.out wr hb k y.cells (by rw [List.getElem?_map, hy]; rfl)
          cases he2
          exact .inr ⟨k, y, rfl, hy, by simp [prevDOf, hy], hc2 0 _ rfl, hc2 1 _ rfl, hc2 2 _ rfl⟩
      have hnext : prevDOf S.op (q + 1) = some z := by simp [prevDOf, hz]
      have HN := Lib.hid (And.intro hnext hprev)
      have hA := fun ww hb => hA0 z.num ww hb
      have hab := atR_bounds S z.num
      clear hc hnext hprev hA0
      unfold badD at hre
      generalize atR S z.num = K at hre hA hab
      have HRE := Lib.hid hre
      clear hre hz
      by_cases k1 : z.core < 0
      · obtain rfl : R = false := by have := HRE.out; simpa [k1] using this.symm
        clear HN
        go_wp2_with (go_at_call 51; refine (hA _ (bel _ _)).mono ?_; rintro e w' ⟨rfl, hb⟩; obtain ⟨pj, rfl⟩ := hb.rest; clear hb)
        exact bodyPost_ret (v := .bool false) (by simp [results, Tryz.results27, go_sem]) rfl ⟨rfl, bel _ _⟩
      by_cases k2 : (S.made.length : Int) ≤ z.core
      · obtain rfl : R = false := by have := HRE.out; simpa [k2] using this.symm
        clear HN
        go_wp2_with (go_at_call 51; refine (hA _ (bel _ _)).mono ?_; rintro e w' ⟨rfl, hb⟩; obtain ⟨pj, rfl⟩ := hb.rest; clear hb)
        exact bodyPost_ret (v := .bool false) (by simp [results, Tryz.results27, go_sem]) rfl ⟨rfl, bel _ _⟩
      by_cases k3 : z.fd < 0
      · obtain rfl : R = false := by have := HRE.out; simpa [k3] using this.symm
        clear HN
        go_wp2_with (go_at_call 51; refine (hA _ (bel _ _)).mono ?_; rintro e w' ⟨rfl, hb⟩; obtain ⟨pj, rfl⟩ := hb.rest; clear hb)
        exact bodyPost_ret (v := .bool false) (by simp [results, Tryz.results27, go_sem]) rfl ⟨rfl, bel _ _⟩
      by_cases k4 : 4 ≤ z.fd
      · obtain rfl : R = false := by have := HRE.out; simpa [k4] using this.symm
        clear HN
        go_wp2_with (go_at_call 51; refine (hA _ (bel _ _)).mono ?_; rintro e w' ⟨rfl, hb⟩; obtain ⟨pj, rfl⟩ := hb.rest; clear hb)
        exact bodyPost_ret (v := .bool false) (by simp [results, Tryz.results27, go_sem]) rfl ⟨rfl, bel _ _⟩
      by_cases k5 : K < 0
      · obtain rfl : R = false := by have := HRE.out; simpa [k5] using this.symm
        clear HN
        go_wp2_with (go_at_call 51; refine (hA _ (bel _ _)).mono ?_; rintro e w' ⟨rfl, hb⟩; obtain ⟨pj, rfl⟩ := hb.rest; clear hb)
        exact bodyPost_ret (v := .bool false) (by simp [results, Tryz.results27, go_sem]) rfl ⟨rfl, bel _ _⟩
      obtain ⟨k, rfl⟩ : ∃ k : Nat, K = k := ⟨K.toNat, by omega⟩
      have hk : k < S.ins.length := by omega
      obtain ⟨x, hx⟩ : ∃ x, S.ins[k]? = some x := ⟨_, List.getElem?_eq_getElem hk⟩
      obtain ⟨bi, oi, ev, rfl, iI0, hoi, -, hci⟩ := HI.out k x hx
      obtain ⟨iI, x0, x1, x2, x3⟩ := hci wr hb
      have hre : (if (dirAt S (k : Int)) = true then false else if prevDR (prevDOf S.op q) z = true then false else openL S (some z) (S.op.drop (q + 1))) = R := by have := HRE.out; simpa [k1, k2, k3, k4, k5] using this
      have hd : dirAt S (k : Int) = x.dir := by simp [dirAt, hx]
      rw [hd] at hre
      clear hd hci hoi x0 x2 x3 HRE hx
      obtain ⟨xn, xd, xe, xs⟩ := x
      (try simp only at x1)
      (try simp only at hre)
      rcases xd with _ | _
      · rw [if_neg (by decide)] at hre
        obtain ⟨hn, hprev⟩ := HN.out
        rcases hprev with ⟨rfl, hp⟩ | ⟨j, y, rfl, hy, hp, y0, y1, y2⟩
        · rw [hp] at hre
          have HRE := Lib.hid (And.intro hre hn)
          clear hre hn hp
          simp only [Nat.zero_mul, Nat.add_zero] at c0 c1 c2
          go_wp2_with (go_at_call 51; refine (hA _ (bel _ _)).mono ?_; rintro e w' ⟨rfl, hb⟩; obtain ⟨pj, rfl⟩ := hb.rest; clear hb)
          go_roundw
          case rel => exact ⟨1, by rfl, by omega, by have := HRE.out; rw [this.2]; simpa [prevDR] using this.1, bel _ _, by first | exact (HB.out.alloc _).junk _ | exact HB.out⟩
          case measure => simp [intOf]; omega
        · rw [hp, prevDR] at hre
          (try simp only at hre)
          have HRE := Lib.hid (And.intro hre hn)
          have hjI : ((j : Int) + 1) - 1 = j := by omega
          have w2 : IntKind.i64.wrap (j : Int) = j := I64.wrap ⟨by omega, by omega⟩
          have hj1 : (0 : Int) < (j : Int) + 1 := by omega
          have hjl : (j : Int) < S.op.length := by omega
          have hjl2 : j < S.op.length := by omega
          clear hre hn hp hy HN
          by_cases p1 : z.core < y.core
          · obtain rfl : R = false := by have := HRE.out.1; simpa [p1] using this.symm
            go_wp2_with (go_at_call 51; refine (hA _ (bel _ _)).mono ?_; rintro e w' ⟨rfl, hb⟩; obtain ⟨pj, rfl⟩ := hb.rest; clear hb)
            exact bodyPost_ret (v := .bool false) (by simp [results, Tryz.results27, go_sem]) rfl ⟨rfl, bel _ _⟩
          rcases p2 : (y.core == z.core) with _ | _
          · have hre : openL S (some z) (S.op.drop (j + 1 + 1)) = R := by have := HRE.out.1; simpa [p1, p2] using this
            have hn := HRE.out.2
            have HRE := Lib.hid (And.intro hre hn)
            clear hre hn
            go_wp2_with (go_at_call 51; refine (hA _ (bel _ _)).mono ?_; rintro e w' ⟨rfl, hb⟩; obtain ⟨pj, rfl⟩ := hb.rest; clear hb)
            go_roundw
            case rel => exact ⟨j + 1 + 1, by simp, by omega, by have := HRE.out; rw [this.2]; exact this.1, bel _ _, by first | exact ((HB.out.alloc _).junk _).alloc _ | exact (HB.out.alloc _).junk _ | exact HB.out⟩
            case measure => simp [intOf]; omega
          · by_cases p3 : z.fd ≤ y.fd
            · obtain rfl : R = false := by have := HRE.out.1; simpa [p2, p3] using this.symm
              go_wp2_with (go_at_call 51; refine (hA _ (bel _ _)).mono ?_; rintro e w' ⟨rfl, hb⟩; obtain ⟨pj, rfl⟩ := hb.rest; clear hb)
              exact bodyPost_ret (v := .bool false) (by simp [results, Tryz.results27, go_sem]) rfl ⟨rfl, bel _ _⟩
            · have hre : openL S (some z) (S.op.drop (j + 1 + 1)) = R := by have := HRE.out.1; simpa [p1, p2, p3] using this
              have hn := HRE.out.2
              have HRE := Lib.hid (And.intro hre hn)
              clear hre hn
              go_wp2_with (go_at_call 51; refine (hA _ (bel _ _)).mono ?_; rintro e w' ⟨rfl, hb⟩; obtain ⟨pj, rfl⟩ := hb.rest; clear hb)
              go_roundw
              case rel => exact ⟨j + 1 + 1, by simp, by omega, by have := HRE.out; rw [this.2]; exact this.1, bel _ _, by first | exact ((HB.out.alloc _).junk _).alloc _ | exact (HB.out.alloc _).junk _ | exact HB.out⟩
              case measure => simp [intOf]; omega
      · rw [if_pos rfl] at hre
        subst hre
        clear HN
        go_wp2_with (go_at_call 51; refine (hA _ (bel _ _)).mono ?_; rintro e w' ⟨rfl, hb⟩; obtain ⟨pj, rfl⟩ := hb.rest; clear hb)
        exact bodyPost_ret (v := .bool false) (by simp [results, Tryz.results27, go_sem]) rfl ⟨rfl, bel _ _⟩
    · rw [List.drop_of_length_le (by omega)] at hre
      obtain rfl : R = true := by rw [← hre]; rfl
      go_wp2_with fail
      exact bodyPost_ret (v := .bool true) (by simp [results, Tryz.results27, go_sem]) rfl ⟨rfl, bel _ _⟩
end Go.Proofs.YtjkenolgkkknaaaGreatDoor
