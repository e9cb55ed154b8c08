/- The reference's look at the descriptors: open. Conditions: none. The reference's runes, buckets and names are the program's. Conditions: none. -/
import Derived.Test.YtmkapobnfigedaaGreatDoorEl36
import Derived.Test.YtmkapobnfigedaaGreatDoorEl34
import Derived.Test.YtmkapobnfigedaaGreatDoorEl03
set_option linter.unusedVariables false
set_option linter.unusedSimpArgs false
namespace Go.Proofs.YtmkapobnfigedaaGreatDoor
open Go.RowKit
def dirAt (S : PSt) (k : Int) : Bool := match S.ins[k.toNat]? with | some x => x.dir | none => false
def badD (S : PSt) (d : PDesc) : Bool := decide (d.core < 0) || (decide ((S.made.length : Int) ≤ d.core) || (decide (d.fd < 0) || (decide (4 ≤ d.fd) || (decide (atR S d.num < 0) || dirAt S (atR S d.num)))))
def prevDR (o : Option PDesc) (d : PDesc) : Bool := match o with | some o => decide (d.core < o.core) || ((o.core == d.core) && decide (d.fd ≤ o.fd)) | none => false
def openL (S : PSt) : Option PDesc → List PDesc → Bool
 | _, [] => true
 | o, d :: r => if badD S d = true then false else if prevDR o d = true then false else openL S (some d) r
def openR (S : PSt) : Bool := openL S none S.op
def prevDOf (es : List PDesc) (q : Nat) : Option PDesc := if q = 0 then none else es[q - 1]?
set_option maxRecDepth 100000 in
set_option maxHeartbeats 8000000 in
theorem open27 (S : PSt) (iv ov mv : Value) (w : World) (h : StRead w iv ov mv S) (hwf : S.wf) :
 Calls Tryz.prog 58 #[.agg #[iv, ov, mv]] w fun e w' => e = .returned (.bool (openR S)) ∧ Below w.heap.size w w' := by
 have hA0 : ∀ n ww, Below w.heap.size w ww → Calls Tryz.prog 85 #[.agg #[iv, ov, mv], .int .i64 n] ww fun e w' => e = .returned (.int .i64 (atR S n)) ∧ Below ww.heap.size ww w' := fun n ww hb => at51 S iv ov mv n ww (h.below hb (Nat.le_refl _)) hwf.1
 obtain ⟨ai, ni, ci, ao, no, co, am, nm, cm, rfl, rfl, rfl⟩ := h.slices
 obtain ⟨a, cap, e1, hat⟩ := h.1.at_
 rw [List.length_map] at e1
 cases e1
 obtain ⟨a, cap, e1, hai⟩ := h.ins_at2
 cases e1
 obtain ⟨a, cap, e1, -⟩ := h.2.1.at_
 rw [List.length_map] at e1
 cases e1
 have HA := Lib.hid hat
 have HI := Lib.hid hai
 have HWF := Lib.hid hwf
 have hol := hwf.2.1
 have hml := hwf.2.2.1
 clear hat h hai hwf
 obtain ⟨R, hR⟩ : ∃ R, openR S = R := ⟨_, rfl⟩
 rw [hR]
 unfold openR at hR
 have HR := Lib.hid hR
 clear hR
 go_enter Tryz.func58, Tryz.ntmps58
 go_wp2_with fail
 go_loopw [3] (fun i wr => ∃ (q : Nat), i = .int .i64 q ∧ q ≤ S.op.length ∧ openL S (prevDOf S.op q) (S.op.drop q) = R ∧ Below w.heap.size w wr ∧ Blk wr w.heap.size #[.slice ai S.ins.length ci, .slice ao S.op.length co, .slice am S.made.length cm] 26) (fun i _ => (S.op.length - intOf i).toNat)
 case atStart => exact ⟨0, rfl, by omega, HR.out, bel _ _, Blk.new w _ 26⟩
 case round =>
  obtain ⟨q, rfl, hq, hre, hb, hblk⟩ := hrel; have iB : Bel w wr := ⟨hb⟩
  have iL := hblk.lt; have s0 := hblk.cell 0; have s1 := hblk.cell 1; have s2 := hblk.cell 2; simp at s0 s1 s2; have HB := Lib.hid hblk; clear hblk; by_cases hlt : q < S.op.length
  · obtain ⟨z, hz⟩ : ∃ z, S.op[q]? = some z := ⟨_, List.getElem?_eq_getElem hlt⟩
    obtain ⟨b, off, rfl, iG0, iG, hc⟩ := HA.out wr hb q z.cells (by rw [List.getElem?_map, hz]; rfl); have c0 := hc 0 _ rfl; have c1 := hc 1 _ rfl; have c2 := hc 2 _ rfl; rw [Nat.add_zero] at c0; rw [drop_at hz, openL] at hre; have hprev : (q = 0 ∧ prevDOf S.op q = none) ∨ ∃ (k : Nat) (y : PDesc), q = k + 1 ∧ S.op[k]? = some y ∧ prevDOf S.op q = some y ∧ wr.cell? ⟨b, off + k * 3, none⟩ = some (.int .i64 y.core) ∧ wr.cell? ⟨b, off + k * 3 + 1, none⟩ = some (.int .i64 y.fd) ∧ wr.cell? ⟨b, off + k * 3 + 2, none⟩ = some (.int .i64 y.num) := by
     by_cases hq0 : q = 0
     · exact .inl ⟨hq0, by simp [prevDOf, hq0]⟩
     · obtain ⟨k, rfl⟩ : ∃ k, q = k + 1 := ⟨q - 1, by omega⟩
       obtain ⟨y, hy⟩ : ∃ y, S.op[k]? = some y := ⟨_, List.getElem?_eq_getElem (by omega)⟩
       obtain ⟨b2, off2, he2, _, _, hc2⟩ := HA.out wr hb k y.cells (by rw [List.getElem?_map, hy]; rfl); cases he2; exact .inr ⟨k, y, rfl, hy, by simp [prevDOf, hy], hc2 0 _ rfl, hc2 1 _ rfl, hc2 2 _ rfl⟩
    have hnext : prevDOf S.op (q + 1) = some z := by simp [prevDOf, hz]
    have HN := Lib.hid (And.intro hnext hprev); have hA := fun ww hb => hA0 z.num ww hb
    have hab := atR_bounds S z.num; clear hc hnext hprev hA0; unfold badD at hre; generalize atR S z.num = K at hre hA hab; have HRE := Lib.hid hre; clear hre hz; by_cases k1 : z.core < 0
    · obtain rfl : R = false := by have := HRE.out; simpa [k1] using this.symm
      clear HN; go_wp2_with (go_at_call 85; refine (hA _ (bel _ _)).mono ?_; rintro e w' ⟨rfl, hb⟩; obtain ⟨pj, rfl⟩ := hb.rest; clear hb)
      exact bodyPost_ret (v := .bool false) (by simp [results, Tryz.results58, go_sem]) rfl ⟨rfl, bel _ _⟩
    by_cases k2 : (S.made.length : Int) ≤ z.core
    · obtain rfl : R = false := by have := HRE.out; simpa [k2] using this.symm
      clear HN; go_wp2_with (go_at_call 85; refine (hA _ (bel _ _)).mono ?_; rintro e w' ⟨rfl, hb⟩; obtain ⟨pj, rfl⟩ := hb.rest; clear hb)
      exact bodyPost_ret (v := .bool false) (by simp [results, Tryz.results58, go_sem]) rfl ⟨rfl, bel _ _⟩
    by_cases k3 : z.fd < 0
    · obtain rfl : R = false := by have := HRE.out; simpa [k3] using this.symm
      clear HN; go_wp2_with (go_at_call 85; refine (hA _ (bel _ _)).mono ?_; rintro e w' ⟨rfl, hb⟩; obtain ⟨pj, rfl⟩ := hb.rest; clear hb)
      exact bodyPost_ret (v := .bool false) (by simp [results, Tryz.results58, go_sem]) rfl ⟨rfl, bel _ _⟩
    by_cases k4 : 4 ≤ z.fd
    · obtain rfl : R = false := by have := HRE.out; simpa [k4] using this.symm
      clear HN; go_wp2_with (go_at_call 85; refine (hA _ (bel _ _)).mono ?_; rintro e w' ⟨rfl, hb⟩; obtain ⟨pj, rfl⟩ := hb.rest; clear hb)
      exact bodyPost_ret (v := .bool false) (by simp [results, Tryz.results58, go_sem]) rfl ⟨rfl, bel _ _⟩
    by_cases k5 : K < 0
    · obtain rfl : R = false := by have := HRE.out; simpa [k5] using this.symm
      clear HN; go_wp2_with (go_at_call 85; refine (hA _ (bel _ _)).mono ?_; rintro e w' ⟨rfl, hb⟩; obtain ⟨pj, rfl⟩ := hb.rest; clear hb)
      exact bodyPost_ret (v := .bool false) (by simp [results, Tryz.results58, go_sem]) rfl ⟨rfl, bel _ _⟩
    obtain ⟨k, rfl⟩ : ∃ k : Nat, K = k := ⟨K.toNat, by omega⟩
    have hk : k < S.ins.length := by omega
    obtain ⟨x, hx⟩ : ∃ x, S.ins[k]? = some x := ⟨_, List.getElem?_eq_getElem hk⟩
    obtain ⟨bi, oi, ev, rfl, iI0, hoi, -, hci⟩ := HI.out k x hx; obtain ⟨iI, x0, x1, x2, x3⟩ := hci wr hb; have hre : (if (dirAt S (k : Int)) = true then false else if prevDR (prevDOf S.op q) z = true then false else openL S (some z) (S.op.drop (q + 1))) = R := by have := HRE.out; simpa [k1, k2, k3, k4, k5] using this
    have hd : dirAt S (k : Int) = x.dir := by simp [dirAt, hx]
    rw [hd] at hre; clear hd hci hoi x0 x2 x3 HRE hx; obtain ⟨xn, xd, xe, xs⟩ := x
    (try simp only at x1)
    (try simp only at hre)
    rcases xd with _ | _
    · rw [if_neg (by decide)] at hre; obtain ⟨hn, hprev⟩ := HN.out; rcases hprev with ⟨rfl, hp⟩ | ⟨j, y, rfl, hy, hp, y0, y1, y2⟩
      · rw [hp] at hre; have HRE := Lib.hid (And.intro hre hn); clear hre hn hp; simp only [Nat.zero_mul, Nat.add_zero] at c0 c1 c2; go_wp2_with (go_at_call 85; refine (hA _ (bel _ _)).mono ?_; rintro e w' ⟨rfl, hb⟩; obtain ⟨pj, rfl⟩ := hb.rest; clear hb)
        go_roundw
        case rel => exact ⟨1, by rfl, by omega, by have := HRE.out; rw [this.2]; simpa [prevDR] using this.1, bel _ _, by first | exact (HB.out.alloc _).junk _ | exact HB.out⟩
        case measure => simp [intOf]; omega
      · rw [hp, prevDR] at hre
        (try simp only at hre)
        have HRE := Lib.hid (And.intro hre hn); have hjI : ((j : Int) + 1) - 1 = j := by omega
        have w2 : IntKind.i64.wrap (j : Int) = j := I64.wrap ⟨by omega, by omega⟩; have hj1 : (0 : Int) < (j : Int) + 1 := by omega
        have hjl : (j : Int) < S.op.length := by omega
        have hjl2 : j < S.op.length := by omega
        clear hre hn hp hy HN; by_cases p1 : z.core < y.core
        · obtain rfl : R = false := by have := HRE.out.1; simpa [p1] using this.symm
          go_wp2_with (go_at_call 85; refine (hA _ (bel _ _)).mono ?_; rintro e w' ⟨rfl, hb⟩; obtain ⟨pj, rfl⟩ := hb.rest; clear hb)
          exact bodyPost_ret (v := .bool false) (by simp [results, Tryz.results58, go_sem]) rfl ⟨rfl, bel _ _⟩
        rcases p2 : (y.core == z.core) with _ | _
        · have hre : openL S (some z) (S.op.drop (j + 1 + 1)) = R := by have := HRE.out.1; simpa [p1, p2] using this
          have hn := HRE.out.2; have HRE := Lib.hid (And.intro hre hn); clear hre hn; go_wp2_with (go_at_call 85; refine (hA _ (bel _ _)).mono ?_; rintro e w' ⟨rfl, hb⟩; obtain ⟨pj, rfl⟩ := hb.rest; clear hb)
          go_roundw
          case rel => exact ⟨j + 1 + 1, by simp, by omega, by have := HRE.out; rw [this.2]; exact this.1, bel _ _, by first | exact ((HB.out.alloc _).junk _).alloc _ | exact (HB.out.alloc _).junk _ | exact HB.out⟩
          case measure => simp [intOf]; omega
        · by_cases p3 : z.fd ≤ y.fd
          · obtain rfl : R = false := by have := HRE.out.1; simpa [p2, p3] using this.symm
            go_wp2_with (go_at_call 85; refine (hA _ (bel _ _)).mono ?_; rintro e w' ⟨rfl, hb⟩; obtain ⟨pj, rfl⟩ := hb.rest; clear hb)
            exact bodyPost_ret (v := .bool false) (by simp [results, Tryz.results58, go_sem]) rfl ⟨rfl, bel _ _⟩
          · have hre : openL S (some z) (S.op.drop (j + 1 + 1)) = R := by have := HRE.out.1; simpa [p1, p2, p3] using this
            have hn := HRE.out.2; have HRE := Lib.hid (And.intro hre hn); clear hre hn; go_wp2_with (go_at_call 85; refine (hA _ (bel _ _)).mono ?_; rintro e w' ⟨rfl, hb⟩; obtain ⟨pj, rfl⟩ := hb.rest; clear hb)
            go_roundw
            case rel => exact ⟨j + 1 + 1, by simp, by omega, by have := HRE.out; rw [this.2]; exact this.1, bel _ _, by first | exact ((HB.out.alloc _).junk _).alloc _ | exact (HB.out.alloc _).junk _ | exact HB.out⟩
            case measure => simp [intOf]; omega
    · rw [if_pos rfl] at hre; subst hre; clear HN; go_wp2_with (go_at_call 85; refine (hA _ (bel _ _)).mono ?_; rintro e w' ⟨rfl, hb⟩; obtain ⟨pj, rfl⟩ := hb.rest; clear hb)
      exact bodyPost_ret (v := .bool false) (by simp [results, Tryz.results58, go_sem]) rfl ⟨rfl, bel _ _⟩
  · rw [List.drop_of_length_le (by omega)] at hre; obtain rfl : R = true := by rw [← hre]; rfl
    go_wp2_with fail; exact bodyPost_ret (v := .bool true) (by simp [results, Tryz.results58, go_sem]) rfl ⟨rfl, bel _ _⟩
end Go.Proofs.YtmkapobnfigedaaGreatDoor
namespace Go.Proofs.YtmkapobnfigedaaGreatDoor
open Go.RowKit
theorem get_bang (s : ByteArray) (p : Nat) (h : p < s.size) : s.get! p = s[p]'h := by
 have h' : p < s.data.size := h
 show s.data[p]! = _
 rw [getElem!_pos s.data p h']
 rfl
theorem byteAt_get {s : ByteArray} {p : Nat} (h : p < s.size) : byteAt s p = (s.get! p).toNat := by
 unfold byteAt
 rw [dif_pos h, get_bang s p h]
theorem nextR_cont (s : ByteArray) (p : Nat) : nextR s p = if (decide (p < s.size) && (s.get! p).toNat / 64 == 2) = true then (((s.get! p).toNat % 64 : Nat) : Int) else -1 := by
 have hb := (s.get! p).toNat_lt
 unfold nextR
 by_cases h : p < s.size
 · rw [if_pos h, byteAt_get h]; generalize (s.get! p).toNat = b at hb ⊢; have e : (decide (p < s.size) && b / 64 == 2) = decide (b / 64 = 2) := by simp [h]; rfl
   rw [e]; simp only [decide_eq_true_eq]; by_cases h2 : b / 64 = 2
   · rw [if_pos h2, if_neg (show ¬ (b : Int) < 128 by omega), if_neg (show ¬ 191 < (b : Int) by omega)]; omega
   · rw [if_neg h2]; by_cases h3 : (b : Int) < 128
     · rw [if_pos h3]
     · rw [if_neg h3, if_pos (by omega)]
 · rw [if_neg h, if_neg (by simp [h])]
def decB (b0 b1 b2 b3 : Nat) (c1 c2 c3 : Bool) : Nat × Nat :=
 if b0 < 0x80 then (b0, 1)
 else if b0 / 32 == 6 && c1 then (if (b0 % 32) * 64 + b1 % 64 ≥ 0x80 then ((b0 % 32) * 64 + b1 % 64, 2) else (65533, 1))
 else if b0 / 16 == 14 && c1 && c2 then (if (b0 % 16) * 4096 + (b1 % 64) * 64 + b2 % 64 ≥ 0x800 && Utf8.valid ((b0 % 16) * 4096 + (b1 % 64) * 64 + b2 % 64 : Nat) then ((b0 % 16) * 4096 + (b1 % 64) * 64 + b2 % 64, 3) else (65533, 1))
 else if b0 / 8 == 30 && c1 && c2 && c3 then (if (b0 % 8) * 262144 + (b1 % 64) * 4096 + (b2 % 64) * 64 + b3 % 64 ≥ 0x10000 && Utf8.valid ((b0 % 8) * 262144 + (b1 % 64) * 4096 + (b2 % 64) * 64 + b3 % 64 : Nat) then ((b0 % 8) * 262144 + (b1 % 64) * 4096 + (b2 % 64) * 64 + b3 % 64, 4) else (65533, 1))
 else (65533, 1)
theorem decode_decB (s : ByteArray) (i : Nat) : Utf8.decode s i = decB (s.get! i).toNat (s.get! (i + 1)).toNat (s.get! (i + 2)).toNat (s.get! (i + 3)).toNat (decide (i + 1 < s.size) && (s.get! (i + 1)).toNat / 64 == 2) (decide (i + 2 < s.size) && (s.get! (i + 2)).toNat / 64 == 2) (decide (i + 3 < s.size) && (s.get! (i + 3)).toNat / 64 == 2) := rfl
theorem runeB_eq (b0 b1 b2 b3 : Nat) (c1 c2 c3 : Bool) (h0 : b0 < 256) (A B D : Int) (hA : A = if c1 = true then ((b1 % 64 : Nat) : Int) else -1) (hB : B = if c2 = true then ((b2 % 64 : Nat) : Int) else -1) (hD : D = if c3 = true then ((b3 % 64 : Nat) : Int) else -1) :
 ((decB b0 b1 b2 b3 c1 c2 c3).1 : Int) = (rune1B b0 A B D).1 ∧ ((decB b0 b1 b2 b3 c1 c2 c3).2 : Int) = max (rune1B b0 A B D).2 1 ∧
 ((rune1B b0 A B D).2 = 0 ↔ ((decB b0 b1 b2 b3 c1 c2 c3).1 = 65533 ∧ ¬ (b0 = 239 ∧ c1 = true ∧ c2 = true ∧ b1 % 64 = 63 ∧ b2 % 64 = 61))) := by
 have fin : ∀ (x w : Nat) (y v : Int), decB b0 b1 b2 b3 c1 c2 c3 = (x, w) → rune1B b0 A B D = (y, v) → (x : Int) = y → (w : Int) = max v 1 → (v = 0 ↔ x = 65533 ∧ ¬ (b0 = 239 ∧ c1 = true ∧ c2 = true ∧ b1 % 64 = 63 ∧ b2 % 64 = 61)) → ((decB b0 b1 b2 b3 c1 c2 c3).1 : Int) = (rune1B b0 A B D).1 ∧ ((decB b0 b1 b2 b3 c1 c2 c3).2 : Int) = max (rune1B b0 A B D).2 1 ∧
  ((rune1B b0 A B D).2 = 0 ↔ ((decB b0 b1 b2 b3 c1 c2 c3).1 = 65533 ∧ ¬ (b0 = 239 ∧ c1 = true ∧ c2 = true ∧ b1 % 64 = 63 ∧ b2 % 64 = 61))) := by
  intro x w y v h1 h2 h3 h4 h5; rw [h1, h2]; exact ⟨h3, h4, h5⟩
 by_cases e0 : b0 < 128
 · refine fin b0 1 b0 1 (by unfold decB; rw [if_pos e0]) (by unfold rune1B; rw [if_pos (by omega)]) rfl rfl (by omega)
 have bad : b0 < 194 ∨ 244 < b0 ∨ c1 = false → decB b0 b1 b2 b3 c1 c2 c3 = (65533, 1) → _ := fun h hd => fin 65533 1 65533 0 hd (by
  unfold rune1B; have hx : b0 < 194 ∨ 244 < b0 ∨ A = -1 := h.imp (fun h => h) (fun h => h.imp (fun h => h) (fun h => by rw [hA, h]; rfl)); rw [if_neg (by omega), if_neg (by omega), if_neg (by omega), if_neg (by omega)]) rfl rfl (by
  rcases h with h | h | h
  · omega
  · omega
  · simp [h])
 rcases c1 with _ | _
 · refine bad (.inr (.inr rfl)) (by
    unfold decB; rw [if_neg e0]; simp)
 have hA1 : A = ((b1 % 64 : Nat) : Int) := by rw [hA]; rfl
 clear hA
 by_cases e1 : b0 / 32 = 6
 · by_cases e2 : b0 % 32 * 64 + b1 % 64 ≥ 128
   · refine fin (b0 % 32 * 64 + b1 % 64) 2 ((b0 - 192) * 64 + A) 2 (by unfold decB; rw [if_neg e0, if_pos (by simp [e1]), if_pos e2]) (by unfold rune1B; rw [if_neg (by omega), if_pos (by omega)]) (by omega) rfl (by omega)
   · refine bad (.inl (by omega)) (by unfold decB; rw [if_neg e0, if_pos (by simp [e1]), if_neg e2])
 rcases c2 with _ | _
 · have hB1 : B = -1 := by rw [hB]; rfl
   refine fin 65533 1 65533 0 (by unfold decB; rw [if_neg e0]; simp [e1]) (by
    unfold rune1B; rw [if_neg (by omega), if_neg (by omega), if_neg (by omega), if_neg (by omega)]) rfl rfl (by simp)
 have hB1 : B = ((b2 % 64 : Nat) : Int) := by rw [hB]; rfl
 clear hB
 by_cases e2 : b0 / 16 = 14
 · by_cases e3 : b0 % 16 * 4096 + b1 % 64 * 64 + b2 % 64 ≥ 2048 ∧ (b0 % 16 * 4096 + b1 % 64 * 64 + b2 % 64 < 55296 ∨ 57343 < b0 % 16 * 4096 + b1 % 64 * 64 + b2 % 64)
   · refine fin (b0 % 16 * 4096 + b1 % 64 * 64 + b2 % 64) 3 ((b0 - 224) * 4096 + A * 64 + B) 3 (by
      unfold decB Utf8.valid; rw [if_neg e0, if_neg (by simp [e1]), if_pos (by simp [e2]), if_pos (by simp only [Bool.and_eq_true, Bool.or_eq_true, decide_eq_true_eq]; omega)]) (by
      unfold rune1B; rw [if_neg (by omega), if_neg (by omega), if_pos (by omega), if_pos (by omega)]) (by omega) rfl (by simp only [true_and]; omega)
   · refine fin 65533 1 65533 0 (by
      unfold decB Utf8.valid; rw [if_neg e0, if_neg (by simp [e1]), if_pos (by simp [e2]), if_neg (by simp only [Bool.and_eq_true, Bool.or_eq_true, decide_eq_true_eq]; omega)]) (by
      unfold rune1B; rw [if_neg (by omega), if_neg (by omega), if_pos (by omega), if_neg (by omega)]) rfl rfl (by omega)
 rcases c3 with _ | _
 · have hD1 : D = -1 := by rw [hD]; rfl
   refine fin 65533 1 65533 0 (by unfold decB; rw [if_neg e0]; simp [e1, e2]) (by
    unfold rune1B; rw [if_neg (by omega), if_neg (by omega), if_neg (by omega), if_neg (by omega)]) rfl rfl (by omega)
 have hD1 : D = ((b3 % 64 : Nat) : Int) := by rw [hD]; rfl
 clear hD
 by_cases e3 : b0 / 8 = 30
 · by_cases e4 : b0 % 8 * 262144 + b1 % 64 * 4096 + b2 % 64 * 64 + b3 % 64 ≥ 65536 ∧ b0 % 8 * 262144 + b1 % 64 * 4096 + b2 % 64 * 64 + b3 % 64 ≤ 1114111
   · refine fin (b0 % 8 * 262144 + b1 % 64 * 4096 + b2 % 64 * 64 + b3 % 64) 4 ((b0 - 240) * 262144 + A * 4096 + B * 64 + D) 4 (by
      unfold decB Utf8.valid; rw [if_neg e0, if_neg (by simp [e1]), if_neg (by simp [e2]), if_pos (by simp [e3]), if_pos (by simp only [Bool.and_eq_true, Bool.or_eq_true, decide_eq_true_eq]; omega)]) (by
      unfold rune1B; rw [if_neg (by omega), if_neg (by omega), if_neg (by omega), if_pos (by omega), if_pos (by omega)]) (by omega) rfl (by omega)
   · have hd : decB b0 b1 b2 b3 true true true = (65533, 1) := by
      unfold decB Utf8.valid; rw [if_neg e0, if_neg (by simp [e1]), if_neg (by simp [e2]), if_pos (by simp [e3]), if_neg (by simp only [Bool.and_eq_true, Bool.or_eq_true, decide_eq_true_eq]; omega)]
     by_cases e5 : b0 ≤ 244
     · refine fin 65533 1 65533 0 hd (by
        unfold rune1B; rw [if_neg (by omega), if_neg (by omega), if_neg (by omega), if_pos (by omega), if_neg (by omega)]) rfl rfl (by omega)
     · exact bad (.inr (.inl (by omega))) hd
 · refine fin 65533 1 65533 0 (by unfold decB; rw [if_neg e0]; simp [e1, e2, e3]) (by
    unfold rune1B; rw [if_neg (by omega), if_neg (by omega), if_neg (by omega), if_neg (by omega)]) rfl rfl (by omega)
theorem rune_eq {s : ByteArray} {p : Nat} (hp : p < s.size) :
 ((Utf8.decode s p).1 : Int) = (rune1R s p).1 ∧ ((Utf8.decode s p).2 : Int) = max (rune1R s p).2 1 ∧ ((rune1R s p).2 = 0 ↔ ((Utf8.decode s p).1 = 65533 ∧ ¬ ((s.get! p).toNat = 239 ∧ (decide (p + 1 < s.size) && (s.get! (p + 1)).toNat / 64 == 2) = true ∧ (decide (p + 2 < s.size) && (s.get! (p + 2)).toNat / 64 == 2) = true ∧ (s.get! (p + 1)).toNat % 64 = 63 ∧ (s.get! (p + 2)).toNat % 64 = 61))) := by
 unfold rune1R
 rw [decode_decB, byteAt_get hp, nextR_cont, nextR_cont, nextR_cont]
 exact runeB_eq _ _ _ _ _ _ _ (s.get! p).toNat_lt _ _ _ rfl rfl rfl
theorem hash_eq (s : ByteArray) : ∀ b p h, hashRF s b p h = hashFrom s b p h
 | 0, _, _ => rfl
 | b + 1, p, h => by
   unfold hashRF hashFrom; by_cases hp : p < s.size
   · rw [if_pos hp, if_pos hp, hash_eq s b]; obtain ⟨h1, h2, _⟩ := rune_eq hp; rw [← h1, ← h2, Int.toNat_natCast]
   · rw [if_neg hp, if_neg hp]
theorem bucket_eq (s : ByteArray) : bucketR s = bucketM s := by
 unfold bucketR bucketM hashR hashM
 rw [hash_eq]
theorem decB_valid (b0 b1 b2 b3 : Nat) (c1 c2 c3 : Bool) : Utf8.valid ((decB b0 b1 b2 b3 c1 c2 c3).1 : Nat) = true := by
 have key : ∀ r : Nat, (r < 55296 ∨ (57344 ≤ r ∧ r ≤ 1114111)) → Utf8.valid (r : Int) = true := fun r h => by
  unfold Utf8.valid; simp only [Bool.and_eq_true, Bool.or_eq_true, decide_eq_true_eq]; omega
 unfold decB
 split
 · exact key _ (by simp only; omega)
 · split
   · split
     · exact key _ (by simp only; omega)
     · rfl
   · split
     · split
       · rename_i h
         simp only [Bool.and_eq_true] at h; exact h.2
       · rfl
     · split
       · split
         · rename_i h
           simp only [Bool.and_eq_true] at h; exact h.2
         · rfl
       · rfl
theorem encode_err {r : Nat} (hv : Utf8.valid (r : Int) = true) (h : (Utf8.encode (r : Int)).toList = [239, 191, 189]) : r = 65533 := by
 unfold Utf8.encode at h
 rw [if_pos hv] at h
 simp only [Int.toNat_natCast] at h
 have hlt : r ≤ 1114111 := by
  unfold Utf8.valid at hv; simp only [Bool.and_eq_true, Bool.or_eq_true, decide_eq_true_eq] at hv; omega
 have t1 : ∀ a : UInt8, (⟨#[a]⟩ : ByteArray).toList = [a] := fun _ => ByteArray.toList_mk _
 have t2 : ∀ a b : UInt8, (⟨#[a, b]⟩ : ByteArray).toList = [a, b] := fun _ _ => ByteArray.toList_mk _
 have t3 : ∀ a b c : UInt8, (⟨#[a, b, c]⟩ : ByteArray).toList = [a, b, c] := fun _ _ _ => ByteArray.toList_mk _
 have t4 : ∀ a b c d : UInt8, (⟨#[a, b, c, d]⟩ : ByteArray).toList = [a, b, c, d] := fun _ _ _ _ => ByteArray.toList_mk _
 split at h
 · rw [t1] at h; simp at h
 · split at h
   · rw [t2] at h; simp at h
   · split at h
     · rw [t3] at h; simp only [List.cons.injEq, and_true] at h; obtain ⟨h1, h2, h3⟩ := h; have e1 := congrArg UInt8.toNat h1; have e2 := congrArg UInt8.toNat h2; have e3 := congrArg UInt8.toNat h3; simp at e1 e2 e3; omega
     · rw [t4] at h; simp at h
theorem prefix_err {s : ByteArray} {p : Nat} (h0 : (s.get! p).toNat = 239) (h1 : p + 1 < s.size) (h2 : p + 2 < s.size) (b1 : (s.get! (p + 1)).toNat = 191) (b2 : (s.get! (p + 2)).toNat = 189) : prefixB (s.extract p s.size) ⟨#[239, 191, 189]⟩ = true := by
 unfold prefixB
 have hsz : (s.extract p s.size).size = s.size - p := by simp
 have e : (s.extract p s.size).extract 0 (⟨#[239, 191, 189]⟩ : ByteArray).size = ⟨#[239, 191, 189]⟩ := by
  show (s.extract p s.size).extract 0 3 = _; apply ByteArray.ext; apply Array.ext
  · simp; have : s.data.size = s.size := rfl; omega
  · intro k hk hk'; have hk3 : k < 3 := hk'; have g : ∀ j (hj : j < s.size), s.data[j]'hj = s.get! j := fun j hj => (get_bang s j hj).symm
    simp only [ByteArray.data_extract, Array.getElem_extract]; rw [g _ (by omega)]; have : k = 0 ∨ k = 1 ∨ k = 2 := by omega
    rcases this with rfl | rfl | rfl
    · apply UInt8.toNat_inj.1; simpa using h0
    · apply UInt8.toNat_inj.1; simpa using b1
    · apply UInt8.toNat_inj.1; simpa using b2
 rw [e, hsz]
 have : decide ((⟨#[239, 191, 189]⟩ : ByteArray).size ≤ s.size - p) = true := decide_eq_true (by show 3 ≤ _; omega)
 rw [this]
 simp
theorem check_from (s : ByteArray) : ∀ b p, checkRF s b p = true → checkFrom s b p = true
 | 0, _, _ => rfl
 | b + 1, p, h => by
   unfold checkRF at h; unfold checkFrom; by_cases hp : p < s.size
   · rw [if_pos hp] at h ⊢; obtain ⟨h1, h2, h3⟩ := rune_eq hp
     split at h
     · cases h
     · rename_i hb
       have hk : (rune1R s p).2 ≠ 0 := fun e => hb (.inl e)
       have hw : (rune1R s p).2.toNat = (Utf8.decode s p).2 := by
        have : 0 ≤ (rune1R s p).2 := by
         unfold rune1R rune1B
         repeat' split
         all_goals simp
        omega
       rw [hw] at h; rw [check_from s b _ h, Bool.and_true, Bool.not_eq_true']; unfold badRune; simp only [Bool.or_eq_false_iff, decide_eq_false_iff_not, beq_eq_false_iff_ne]; refine ⟨⟨⟨by omega, by omega⟩, by omega⟩, ?_⟩; rw [Bool.and_eq_false_iff]; by_cases e : (Utf8.decode s p).1 = 65533
       · right; rw [Bool.not_eq_false']; have hy := fun hn => hk (h3.2 ⟨e, hn⟩)
         have hy := Classical.not_not.1 hy; simp only [Bool.and_eq_true, decide_eq_true_eq, beq_iff_eq] at hy; obtain ⟨a0, ⟨a1, a2⟩, ⟨a3, a4⟩, a5, a6⟩ := hy; exact prefix_err a0 a1 a3 (by omega) (by omega)
       · left; rw [beq_eq_false_iff_ne]; intro he; refine e (encode_err ?_ he); rw [decode_decB]; exact decB_valid _ _ _ _ _ _ _
   · rw [if_neg hp]
theorem check_name {s : ByteArray} (h : checkR s = 0) : nameB s = true := by
 unfold nameB checkM
 unfold checkR at h
 split at h
 · cases h
 · rename_i h1
   rw [if_neg h1]
   split at h
   · cases h
   · rename_i h2
     rw [if_neg h2]
     split at h
     · rename_i h3
       rw [if_pos (check_from s _ _ h3)]; rfl
     · cases h
end Go.Proofs.YtmkapobnfigedaaGreatDoor
