/- The reference's names: Check, Hash, Bucket, Below, Code. Conditions: none. The reference's looks at a state: At, IsOpen, Fd, given, Entry, Links. Conditions: none. The reference's looks at a state: given, Links. Conditions: none. The reference's look at the descriptors: open. Conditions: none. -/
import Derived.Test.YtjkenolgkkknaaaGreatDoorTw18
import Derived.Test.YtjkenolgkkknaaaGreatDoorTw15
set_option linter.unusedVariables false
set_option linter.unusedSimpArgs false
namespace Go.Proofs.YtjkenolgkkknaaaGreatDoor
open Go.RowKit
theorem rune1R_bounds (s : ByteArray) (p : Nat) : 0 ≤ (rune1R s p).1 ∧ (rune1R s p).1 ≤ 1114111 ∧ 0 ≤ (rune1R s p).2 ∧ (rune1R s p).2 ≤ 4 := by
  have h0 := byteAt_bounds s p
  have h1 := nextR_bounds s (p + 1)
  have h2 := nextR_bounds s (p + 2)
  have h3 := nextR_bounds s (p + 3)
  unfold rune1R
  generalize byteAt s p = c at *
  generalize nextR s (p + 1) = a at *
  generalize nextR s (p + 2) = b at *
  generalize nextR s (p + 3) = d at *
  unfold rune1B
  repeat' split
  all_goals (simp only; omega)
/-- The hash from a place on. -/
def hashRF (s : ByteArray) : Nat → Nat → Int → Int
  | 0, _, h => h
  | b + 1, p, h => if p < s.size then hashRF s b (p + (max (rune1R s p).2 1).toNat) ((31 * h + (rune1R s p).1) % 4294967296) else h
def hashR (s : ByteArray) : Int := hashRF s s.size 0 7
theorem hashRF_end (s : ByteArray) (b p : Nat) (h : Int) (hp : ¬ p < s.size) : hashRF s b p h = h := by
  cases b with
  | zero => rfl
  | succ b => simp [hashRF, hp]
theorem hashRF_lt (s : ByteArray) : ∀ b p h, 0 ≤ h ∧ h < 4294967296 → 0 ≤ hashRF s b p h ∧ hashRF s b p h < 4294967296
  | 0, _, h, hh => hh
  | b + 1, p, h, hh => by
    unfold hashRF
    split
    · have := rune1R_bounds s p
      exact hashRF_lt s b _ _ (by omega)
    · exact hh
theorem hash61 (s : ByteArray) (hs : s.size ≤ 1000000000) (w : World) :
    Calls Tryz.prog 61 #[.string s] w fun e w' => e = .returned (.int .i64 (hashR s)) ∧ Below w.heap.size w w' := by
  obtain ⟨R, hR⟩ : ∃ R, hashR s = R := ⟨_, rfl⟩
  rw [hR]
  unfold hashR at hR
  have HR := Lib.hid hR
  clear hR
  go_enter Tryz.func61, Tryz.ntmps61
  go_wp2_with fail
  go_loopw [3, 4] (fun vh vi wr => ∃ (p b : Nat) (acc : Int), vi = .int .i64 p ∧ vh = .int .i64 acc ∧ 0 ≤ acc ∧ acc < 4294967296 ∧ hashRF s b p acc = R ∧ s.size ≤ p + b ∧ p ≤ s.size + 4 ∧ Below w.heap.size w wr) (fun _ vi _ => (s.size + 4 - intOf vi).toNat)
  case atStart => exact ⟨0, s.size, 7, rfl, rfl, by omega, by omega, HR.out, by omega, by omega, bel _ _⟩
  case round =>
    obtain ⟨p, b, acc, rfl, rfl, ha0, ha1, hre, hbp, hp4, hb⟩ := hrel
    have iB : Bel w wr := ⟨hb⟩
    by_cases hp : p < s.size
    · have hpI : (p : Int) < s.size := by omega
      obtain ⟨b', rfl⟩ : ∃ b', b = b' + 1 := ⟨b - 1, by omega⟩
      have hru := fun ww => rune93 s p hp (by omega) ww
      have hrb := rune1R_bounds s p
      rw [hashRF, if_pos hp] at hre
      generalize hrk : rune1R s p = rk at hre hru hrb
      clear hrk
      obtain ⟨r, k⟩ := rk
      simp only at hrb hre hru
      obtain ⟨m, hm⟩ : ∃ m : Nat, max k 1 = m := ⟨(max k 1).toNat, by omega⟩
      have hm1 : 1 ≤ m ∧ m ≤ 4 := by omega
      rw [hm, Int.toNat_natCast] at hre
      have w1 : IntKind.i64.wrap (31 * acc) = 31 * acc := I64.wrap ⟨by omega, by omega⟩
      have w2 : IntKind.i64.wrap (31 * acc + r) = 31 * acc + r := I64.wrap ⟨by omega, by omega⟩
      have w3 : IntKind.i64.wrap ((p : Int) + m) = p + m := I64.wrap ⟨by omega, by omega⟩
      have w4 : IntKind.i64.wrap ((31 * acc + r) % 4294967296) = (31 * acc + r) % 4294967296 := I64.wrap ⟨by omega, by omega⟩
      have w5 : (31 * acc + r).tmod 4294967296 = (31 * acc + r) % 4294967296 := Int.tmod_eq_emod_of_nonneg (by omega)
      have HRE := Lib.hid hre
      clear hre
      go_wp2_with (go_at_call 93; refine (hru _).mono ?_; rintro e w' ⟨rfl, hb⟩; obtain ⟨pj, rfl⟩ := hb.rest; clear hb)
      go_roundw
      case rel => exact ⟨p + m, b', _, by rfl, rfl, by omega, by omega, HRE.out, by omega, by omega, bel _ _⟩
      case measure => simp [intOf]; omega
    · rw [hashRF_end s b p acc hp] at hre
      subst hre
      have hpI : ¬ (p : Int) < s.size := by omega
      go_wp2_with fail
      exact bodyPost_ret (v := .int .i64 acc) (by simp [results, Tryz.results61, go_sem]) rfl ⟨rfl, bel _ _⟩
def checkRF (s : ByteArray) : Nat → Nat → Bool
  | 0, _ => true
  | b + 1, p => if p < s.size then (if (rune1R s p).2 = 0 ∨ (rune1R s p).1 = 47 ∨ (rune1R s p).1 < 32 ∨ (rune1R s p).1 = 127 then false else checkRF s b (p + (rune1R s p).2.toNat)) else true
def checkR (s : ByteArray) : Int := if 12 < s.size then 801 else if (s.toList.isEmpty || s.toList == [46] || s.toList == [46, 46]) = true then 800 else if checkRF s s.size 0 = true then 0 else 800
theorem checkRF_end (s : ByteArray) (b p : Nat) (hp : ¬ p < s.size) : checkRF s b p = true := by
  cases b with
  | zero => rfl
  | succ b => simp [checkRF, hp]
theorem check52 (s : ByteArray) (w : World) :
    Calls Tryz.prog 52 #[.string s] w fun e w' => e = .returned (.int .i64 (checkR s)) ∧ Below w.heap.size w w' := by
  by_cases hlen : 12 < s.size
  · have hlenI : (12 : Int) < s.size := by omega
    have hM : checkR s = 801 := by simp [checkR, hlen]
    rw [hM]
    go_enter Tryz.func52, Tryz.ntmps52
    go_wp2_with fail
    exact bodyPost_ret (v := .int .i64 801) (by simp [results, Tryz.results52, go_sem]) rfl ⟨rfl, bel _ _⟩
  have hlenI : ¬ (12 : Int) < s.size := by omega
  rcases h1 : s.toList.isEmpty with _ | _
  rcases h2 : s.toList == [46] with _ | _
  rcases h3 : s.toList == [46, 46] with _ | _
  · have hM : checkR s = if checkRF s s.size 0 = true then 0 else 800 := by simp only [checkR, if_neg hlen, h1, h2, h3]; rfl
    rw [hM]
    obtain ⟨V, hV⟩ : ∃ V : Int, (if checkRF s s.size 0 = true then 0 else 800) = V := ⟨_, rfl⟩
    rw [hV]
    obtain ⟨T, hT⟩ : ∃ T, checkRF s s.size 0 = T := ⟨_, rfl⟩
    rw [hT] at hV
    have HT := Lib.hid (And.intro hT hV)
    clear hM hT hV
    go_enter Tryz.func52, Tryz.ntmps52
    go_wp2_with fail
    go_loopw [3] (fun vi wr => ∃ (p b : Nat), vi = .int .i64 p ∧ checkRF s b p = T ∧ s.size ≤ p + b ∧ p ≤ s.size + 4 ∧ Below w.heap.size w wr) (fun vi _ => (s.size + 4 - intOf vi).toNat)
    case atStart => exact ⟨0, s.size, rfl, HT.out.1, by omega, by omega, bel _ _⟩
    case round =>
      obtain ⟨p, b, rfl, hre, hbp, hp4, hb⟩ := hrel
      have iB : Bel w wr := ⟨hb⟩
      by_cases hp : p < s.size
      · have hpI : (p : Int) < s.size := by omega
        obtain ⟨b', rfl⟩ : ∃ b', b = b' + 1 := ⟨b - 1, by omega⟩
        have hru := fun ww => rune93 s p hp (by omega) ww
        have hrb := rune1R_bounds s p
        rw [checkRF, if_pos hp] at hre
        generalize hrk : rune1R s p = rk at hre hru hrb
        clear hrk
        obtain ⟨r, k⟩ := rk
        simp only at hrb hre hru
        by_cases hbad : k = 0 ∨ r = 47 ∨ r < 32 ∨ r = 127
        · rw [if_pos hbad] at hre
          subst hre
          obtain rfl : V = 800 := by have := HT.out.2; simpa using this.symm
          have hcase : k = 0 ∨ ((k == 0) = false ∧ (r == 47) = true) ∨ ((k == 0) = false ∧ (r == 47) = false ∧ r < 32) ∨ ((k == 0) = false ∧ (r == 47) = false ∧ ¬ r < 32 ∧ (r == 127) = true) := by
            by_cases a1 : k = 0
            · exact .inl a1
            by_cases a2 : r = 47
            · exact .inr (.inl ⟨by simpa using a1, by simpa using a2⟩)
            by_cases a3 : r < 32
            · exact .inr (.inr (.inl ⟨by simpa using a1, by simpa using a2, a3⟩))
            · exact .inr (.inr (.inr ⟨by simpa using a1, by simpa using a2, a3, by simp; omega⟩))
          clear hbad HT
          rcases hcase with hc | ⟨c1, c2⟩ | ⟨c1, c2, c3⟩ | ⟨c1, c2, c3, c4⟩
          · have c1 : (k == 0) = true := by simpa using hc
            clear hc
            go_wp2_with (go_at_call 93; refine (hru _).mono ?_; rintro e w' ⟨rfl, hb⟩; obtain ⟨pj, rfl⟩ := hb.rest; clear hb)
            exact bodyPost_ret (v := .int .i64 800) (by simp [results, Tryz.results52, go_sem]) rfl ⟨rfl, bel _ _⟩
          all_goals
            go_wp2_with (go_at_call 93; refine (hru _).mono ?_; rintro e w' ⟨rfl, hb⟩; obtain ⟨pj, rfl⟩ := hb.rest; clear hb)
            exact bodyPost_ret (v := .int .i64 800) (by simp [results, Tryz.results52, go_sem]) rfl ⟨rfl, bel _ _⟩
        · rw [if_neg hbad] at hre
          have a1 : (k == 0) = false := by simp; omega
          have a2 : (r == 47) = false := by simp; omega
          have a3 : ¬ r < 32 := by omega
          have a4 : (r == 127) = false := by simp; omega
          have hk : ¬ k = 0 := by omega
          obtain ⟨m, rfl⟩ : ∃ m : Nat, k = m := ⟨k.toNat, by omega⟩
          have hm1 : 1 ≤ m ∧ m ≤ 4 := by omega
          rw [Int.toNat_natCast] at hre
          have w3 : IntKind.i64.wrap ((p : Int) + m) = p + m := I64.wrap ⟨by omega, by omega⟩
          have HRE := Lib.hid hre
          clear hre hbad hk
          go_wp2_with (go_at_call 93; refine (hru _).mono ?_; rintro e w' ⟨rfl, hb⟩; obtain ⟨pj, rfl⟩ := hb.rest; clear hb)
          go_roundw
          case rel => exact ⟨p + m, b', by rfl, HRE.out, by omega, by omega, bel _ _⟩
          case measure => simp [intOf]; omega
      · rw [checkRF_end s b p hp] at hre
        subst hre
        obtain rfl : V = 0 := by have := HT.out.2; simpa using this.symm
        have hpI : ¬ (p : Int) < s.size := by omega
        go_wp2_with fail
        exact bodyPost_ret (v := .int .i64 0) (by simp [results, Tryz.results52, go_sem]) rfl ⟨rfl, bel _ _⟩
  all_goals
    have hM : checkR s = 800 := by simp only [checkR, if_neg hlen]; simp [*]
    rw [hM]
    go_enter Tryz.func52, Tryz.ntmps52
    go_wp2_with fail
    exact bodyPost_ret (v := .int .i64 800) (by simp [results, Tryz.results52, go_sem]) rfl ⟨rfl, bel _ _⟩
/-- Is a text ahead of another? -/
def belowRF (x y : ByteArray) : Nat → Nat → Bool
  | 0, _ => decide (x.size < y.size)
  | n + 1, p => if p < x.size ∧ p < y.size then (if byteAt x p = byteAt y p then belowRF x y n (p + 1) else decide (byteAt x p < byteAt y p)) else decide (x.size < y.size)
def belowR (x y : ByteArray) : Bool := belowRF x y x.size 0
theorem belowRF_end (x y : ByteArray) (n p : Nat) (hp : ¬ (p < x.size ∧ p < y.size)) : belowRF x y n p = decide (x.size < y.size) := by
  cases n with
  | zero => rfl
  | succ n => rw [belowRF, if_neg hp]
set_option maxRecDepth 100000 in
theorem below53 (x y : ByteArray) (hs : x.size ≤ 1000000000000) (w : World) :
    Calls Tryz.prog 53 #[.string x, .string y] w fun e w' => e = .returned (.bool (belowR x y)) ∧ Below w.heap.size w w' := by
  obtain ⟨R, hR⟩ : ∃ R, belowR x y = R := ⟨_, rfl⟩
  rw [hR]
  unfold belowR at hR
  have HR := Lib.hid hR
  clear hR
  go_enter Tryz.func53, Tryz.ntmps53
  go_wp2_with fail
  go_loopw [5] (fun vi wr => ∃ (q b : Nat), vi = .int .i64 q ∧ belowRF x y b q = R ∧ x.size ≤ q + b ∧ q ≤ x.size ∧ Below w.heap.size w wr) (fun vi _ => (x.size - intOf vi).toNat)
  case atStart => exact ⟨0, x.size, rfl, HR.out, by omega, by omega, bel _ _⟩
  case round =>
    obtain ⟨q, b, rfl, hre, hbp, hp4, hb⟩ := hrel
    have iB : Bel w wr := ⟨hb⟩
    have hcond : (q < x.size ∧ q < y.size) ∨ ¬ (q < x.size) ∨ (q < x.size ∧ ¬ q < y.size) := by omega
    have hend : ∀ ww, Bel w ww → ¬ (q < x.size ∧ q < y.size) → Ending.returned (.bool (decide ((x.size : Int) < y.size))) = Ending.returned (.bool R) ∧ Below w.heap.size w ww := fun ww hww hn => by
      rw [belowRF_end x y b q hn] at hre
      rw [← hre]
      exact ⟨by congr 2; by_cases h : x.size < y.size <;> simp [h] <;> omega, hww.below⟩
    rcases hcond with ⟨h1, h2⟩ | h1 | ⟨h1, h2⟩
    · obtain ⟨b', rfl⟩ : ∃ b', b = b' + 1 := ⟨b - 1, by omega⟩
      clear hend
      rw [belowRF, if_pos ⟨h1, h2⟩, byteAt_in h1, byteAt_in h2] at hre
      have h1I : (q : Int) < x.size := by omega
      have h2I : (q : Int) < y.size := by omega
      have w3 : IntKind.i64.wrap ((q : Int) + 1) = q + 1 := I64.wrap ⟨by omega, by omega⟩
      by_cases he : (x[q].toNat : Int) = y[q].toNat
      · rw [if_pos he] at hre
        have he1 : ((x[q].toNat : Int) != y[q].toNat) = false := by simpa using he
        have HRE := Lib.hid hre
        clear hre he
        go_wp2_with fail
        refine wp_region_quiet_rest (by kernel_rfl) (by kernel_rfl) ?_
        repeat
          first
            | go_big_quiet_skip
            | (go_big_quiet_want; go_big_quiet_op; first | go_big_quiet_on | (apply Exists.intro; refine ⟨fun _ => ?_, ?_⟩; (focus (fail)); go_big_quiet_on))
        refine wpQuiet_nil ?_
        intro w1 hw1
        obtain ⟨p, hw1⟩ := hw1
        subst hw1
        go_wp2_with fail
        go_roundw
        case rel => exact ⟨q + 1, b', by rfl, HRE.out, by omega, by omega, bel _ _⟩
        case measure => simp [intOf]; omega
      · rw [if_neg he] at hre
        have he1 : ((x[q].toNat : Int) != y[q].toNat) = true := by simpa using he
        subst hre
        go_wp2_with fail
        refine wp_region_quiet_rest (by kernel_rfl) (by kernel_rfl) ?_
        repeat
          first
            | go_big_quiet_skip
            | (go_big_quiet_want; go_big_quiet_op; first | go_big_quiet_on | (apply Exists.intro; refine ⟨fun _ => ?_, ?_⟩; (focus (fail)); go_big_quiet_on))
        refine wpQuiet_nil ?_
        intro w1 hw1
        obtain ⟨p, hw1⟩ := hw1
        subst hw1
        go_wp2_with fail
        refine wp_region_quiet_rest (by kernel_rfl) (by kernel_rfl) ?_
        repeat
          first
            | go_big_quiet_skip
            | (go_big_quiet_want; go_big_quiet_op; first | go_big_quiet_on | (apply Exists.intro; refine ⟨fun _ => ?_, ?_⟩; (focus (fail)); go_big_quiet_on))
        refine wpQuiet_nil ?_
        intro w1 hw1
        obtain ⟨p, hw1⟩ := hw1
        subst hw1
        go_wp2_with fail
        exact bodyPost_ret (v := .bool (decide ((x[q].toNat : Int) < y[q].toNat))) (by simp [results, Tryz.results53, go_sem]) rfl ⟨rfl, bel _ _⟩
    · have h1I : ¬ (q : Int) < x.size := by omega
      have HE := Lib.hid hend
      clear hend hre
      go_wp2_with fail
      exact bodyPost_ret (v := .bool (decide ((x.size : Int) < y.size))) (by simp [results, Tryz.results53, go_sem]) rfl (HE.out _ ⟨bel _ _⟩ (by omega))
    · have h1I : (q : Int) < x.size := by omega
      have h2I : ¬ (q : Int) < y.size := by omega
      have HE := Lib.hid hend
      clear hend hre
      go_wp2_with fail
      exact bodyPost_ret (v := .bool (decide ((x.size : Int) < y.size))) (by simp [results, Tryz.results53, go_sem]) rfl (HE.out _ ⟨bel _ _⟩ (by omega))
def bucketR (s : ByteArray) : Int := hashR s % 8
theorem bucket35 (s : ByteArray) (hs : s.size ≤ 1000000000) (w : World) :
    Calls Tryz.prog 35 #[.string s] w fun e w' => e = .returned (.int .i64 (bucketR s)) ∧ Below w.heap.size w w' := by
  have hb : 0 ≤ hashR s ∧ hashR s < 4294967296 := hashRF_lt s s.size 0 7 (by omega)
  unfold bucketR
  have h1 := fun ww => hash61 s hs ww
  generalize hashR s = h at *
  have w5 : h.tmod 8 = h % 8 := Int.tmod_eq_emod_of_nonneg (by omega)
  have w6 : IntKind.i64.wrap (h % 8) = h % 8 := I64.wrap ⟨by omega, by omega⟩
  go_enter Tryz.func35, Tryz.ntmps35
  go_wp2_with ((go_at_call 61; refine (h1 _).mono ?_; rintro e w' ⟨rfl, hb⟩; obtain ⟨p, rfl⟩ := hb.rest; clear hb))
  exact bodyPost_ret (v := .int .i64 (h % 8)) (by simp [results, Tryz.results35, go_sem]) rfl ⟨rfl, bel _ _⟩
end Go.Proofs.YtjkenolgkkknaaaGreatDoor
namespace Go.Proofs.YtjkenolgkkknaaaGreatDoor
open Go.RowKit
def atR (S : PSt) (n : Int) : Int := idxM (isNum n) S.ins
theorem atR_bounds (S : PSt) (n : Int) : atR S n = -1 ∨ (0 ≤ atR S n ∧ atR S n < S.ins.length) := idxM_bounds _ _
set_option maxRecDepth 100000 in
theorem at51 (S : PSt) (iv ov mv : Value) (n : Int) (w : World) (h : StRead w iv ov mv S) (hlen : S.ins.length ≤ 1000000000) :
    Calls Tryz.prog 51 #[.agg #[iv, ov, mv], .int .i64 n] w fun e w' => e = .returned (.int .i64 (atR S n)) ∧ Below w.heap.size w w' := by
  obtain ⟨ai, ni, ci, ao, no, co, am, nm, cm, rfl, rfl, rfl⟩ := h.slices
  obtain ⟨a, cap, e1, hat⟩ := h.ins_at
  cases e1
  have HA := Lib.hid hat
  clear hat h
  obtain ⟨R, hR⟩ : ∃ R, atR S n = R := ⟨_, rfl⟩
  rw [hR]
  unfold atR idxM at hR
  have HR := Lib.hid hR
  clear hR
  go_enter Tryz.func51, Tryz.ntmps51
  go_wp2_with fail
  go_loopw [5] (fun i wr => ∃ (q : Nat), i = .int .i64 q ∧ q ≤ S.ins.length ∧ idxFrom (isNum n) (S.ins.drop q) q = R ∧ Below w.heap.size w wr ∧ Blk wr w.heap.size #[.slice ai S.ins.length ci, .slice ao no co, .slice am nm cm] 27) (fun i _ => (S.ins.length - intOf i).toNat)
  case atStart => exact ⟨0, rfl, by omega, HR.out, bel _ _, Blk.new w _ 27⟩
  case round =>
    obtain ⟨q, rfl, hq, hre, hb, hblk⟩ := hrel
    have iB : Bel w wr := ⟨hb⟩
    have iL := hblk.lt
    have s0 := hblk.cell 0
    simp at s0
    have HB := Lib.hid hblk
    clear hblk
    by_cases hlt : q < S.ins.length
    · obtain ⟨z, hz⟩ : ∃ z, S.ins[q]? = some z := ⟨_, List.getElem?_eq_getElem hlt⟩
      obtain ⟨b, off, ev, rfl, iG0, iG, -, -, c0, -, -, -⟩ := HA.out wr hb q z hz
      rw [idxFrom_drop _ S.ins q z hz] at hre
      have HZ := Lib.hid hre
      clear hz hre
      rcases hpz : (z.num == n) with _ | _
      · go_wp2_with fail
        go_roundw
        case rel => exact ⟨q + 1, by go_num, by omega, by have := HZ.out; simpa [isNum, hpz] using this, bel _ _, by first | exact HB.out | exact HB.out.alloc _ | exact HB.out.junk _⟩
        case measure => simp [intOf]; omega
      · have hv : R = q := by have := HZ.out; simpa [isNum, hpz] using this.symm
        subst hv
        go_wp2_with fail
        exact bodyPost_ret (v := .int .i64 q) (by simp [results, Tryz.results51, go_sem]) rfl ⟨rfl, bel _ _⟩
    · rw [idxFrom_end _ S.ins q hlt] at hre
      subst hre
      go_wp2_with fail
      exact bodyPost_ret (v := .int .i64 (-1)) (by simp [results, Tryz.results51, go_sem]) rfl ⟨rfl, bel _ _⟩
def fdL (c f : Int) : List PDesc → Int
  | [] => 0
  | d :: r => if (d.core == c && d.fd == f) = true then d.num else fdL c f r
def fdR (S : PSt) (c f : Int) : Int := fdL c f S.op
set_option maxRecDepth 100000 in
theorem fd99 (S : PSt) (iv ov mv : Value) (c f : Int) (w : World) (h : StRead w iv ov mv S) (hlen : S.op.length ≤ 1000000000) :
    Calls Tryz.prog 99 #[.agg #[iv, ov, mv], .int .i64 c, .int .i64 f] w fun e w' => e = .returned (.int .i64 (fdR S c f)) ∧ Below w.heap.size w w' := by
  obtain ⟨ai, ni, ci, ao, no, co, am, nm, cm, rfl, rfl, rfl⟩ := h.slices
  obtain ⟨a, cap, e1, hat⟩ := h.1.at_
  rw [List.length_map] at e1
  cases e1
  have HA := Lib.hid hat
  clear hat h
  obtain ⟨R, hR⟩ : ∃ R, fdR S c f = R := ⟨_, rfl⟩
  rw [hR]
  unfold fdR at hR
  have HR := Lib.hid hR
  clear hR
  go_enter Tryz.func99, Tryz.ntmps99
  go_wp2_with fail
  go_loopw [7] (fun i wr => ∃ (q : Nat), i = .int .i64 q ∧ q ≤ S.op.length ∧ fdL c f (S.op.drop q) = R ∧ Below w.heap.size w wr ∧ Blk wr w.heap.size #[.slice ai ni ci, .slice ao S.op.length co, .slice am nm cm] 27) (fun i _ => (S.op.length - intOf i).toNat)
  case atStart => exact ⟨0, rfl, by omega, HR.out, bel _ _, Blk.new w _ 27⟩
  case round =>
    obtain ⟨q, rfl, hq, hre, hb, hblk⟩ := hrel
    have iB : Bel w wr := ⟨hb⟩
    have iL := hblk.lt
    have s1 := hblk.cell 1
    simp at s1
    have HB := Lib.hid hblk
    clear hblk
    by_cases hlt : q < S.op.length
    · obtain ⟨z, hz⟩ : ∃ z, S.op[q]? = some z := ⟨_, List.getElem?_eq_getElem hlt⟩
      obtain ⟨b, off, rfl, iG0, iG, hc⟩ := HA.out wr hb q z.cells (by rw [List.getElem?_map, hz]; rfl)
      have c0 := hc 0 _ rfl
      have c1 := hc 1 _ rfl
      have c2 := hc 2 _ rfl
      rw [Nat.add_zero] at c0
      rw [drop_at hz, fdL] at hre
      clear hz hc
      rcases hpz : (z.core == c) with _ | _
      · rw [hpz, Bool.false_and, if_neg (by decide)] at hre
        have HZ := Lib.hid hre
        clear hre
        go_wp2_with fail
        go_roundw
        case rel => exact ⟨q + 1, by go_num, by omega, HZ.out, bel _ _, HB.out⟩
        case measure => simp [intOf]; omega
      · rcases hpf : (z.fd == f) with _ | _
        · rw [hpf, Bool.and_false, if_neg (by decide)] at hre
          have HZ := Lib.hid hre
          clear hre
          go_wp2_with fail
          go_roundw
          case rel => exact ⟨q + 1, by go_num, by omega, HZ.out, bel _ _, HB.out⟩
          case measure => simp [intOf]; omega
        · rw [hpz, hpf, if_pos (by decide)] at hre
          subst hre
          go_wp2_with fail
          exact bodyPost_ret (v := .int .i64 z.num) (by simp [results, Tryz.results99, go_sem]) rfl ⟨rfl, bel _ _⟩
    · rw [List.drop_of_length_le (by omega)] at hre
      obtain rfl : R = 0 := by rw [← hre]; rfl
      go_wp2_with fail
      exact bodyPost_ret (v := .int .i64 0) (by simp [results, Tryz.results99, go_sem]) rfl ⟨rfl, bel _ _⟩
def entL (name : ByteArray) : List PEnt → Int
  | [] => 0
  | e :: r => if (e.name.toList == name.toList) = true then e.num else entL name r
def entryR (S : PSt) (dir : Int) (name : ByteArray) : Int := if atR S dir < 0 then 0 else match S.ins[(atR S dir).toNat]? with | some x => entL name x.ents | none => 0
set_option maxRecDepth 100000 in
theorem entry95 (S : PSt) (iv ov mv : Value) (dir : Int) (name : ByteArray) (w : World) (h : StRead w iv ov mv S) (hwf : S.wf) :
    Calls Tryz.prog 95 #[.agg #[iv, ov, mv], .int .i64 dir, .string name] w fun e w' => e = .returned (.int .i64 (entryR S dir name)) ∧ Below w.heap.size w w' := by
  have hA : ∀ ww, Below w.heap.size w ww → Calls Tryz.prog 51 #[.agg #[iv, ov, mv], .int .i64 dir] ww fun e w' => e = .returned (.int .i64 (atR S dir)) ∧ Below ww.heap.size ww w' := fun ww hb => at51 S iv ov mv dir ww (h.below hb (Nat.le_refl _)) hwf.1
  obtain ⟨ai, ni, ci, ao, no, co, am, nm, cm, rfl, rfl, rfl⟩ := h.slices
  obtain ⟨a, cap, e1, hat⟩ := h.ins_at2
  cases e1
  have hbd := atR_bounds S dir
  obtain ⟨R, hR⟩ : ∃ R, entryR S dir name = R := ⟨_, rfl⟩
  rw [hR]
  unfold entryR at hR
  generalize atR S dir = K at hA hbd hR
  by_cases hK : K < 0
  · rw [if_pos hK] at hR
    subst hR
    clear hat h hbd hwf
    go_enter Tryz.func95, Tryz.ntmps95
    go_wp2_with ((go_at_call 51; refine (hA _ (bel _ _)).mono ?_; rintro e w' ⟨rfl, hb⟩; obtain ⟨p, rfl⟩ := hb.rest; clear hb))
    exact bodyPost_ret (v := .int .i64 0) (by simp [results, Tryz.results95, go_sem]) rfl ⟨rfl, bel _ _⟩
  · rw [if_neg hK] at hR
    obtain ⟨k, rfl⟩ : ∃ k : Nat, K = k := ⟨K.toNat, by omega⟩
    have hk : k < S.ins.length := by omega
    obtain ⟨x, hx⟩ : ∃ x, S.ins[k]? = some x := ⟨_, List.getElem?_eq_getElem hk⟩
    rw [Int.toNat_natCast, hx] at hR
    simp only at hR
    obtain ⟨b, off, ev, rfl, iG0, ho, her, hc⟩ := hat k x hx
    obtain ⟨ae, ce, rfl, hae⟩ := her.at_
    rw [List.length_map] at hc
    have hel := (hwf.2.2.2.1 x (List.mem_of_getElem? hx)).2.1
    have HA := Lib.hid (And.intro hae hc)
    have HR := Lib.hid hR
    clear hat h hbd hwf her hae hc ho hR hx
    go_enter Tryz.func95, Tryz.ntmps95
    go_wp2_with ((go_at_call 51; refine (hA _ (bel _ _)).mono ?_; rintro e w' ⟨rfl, hb⟩; obtain ⟨p, rfl⟩ := hb.rest; clear hb))
    go_loopw [8] (fun i wr => ∃ (q : Nat), i = .int .i64 q ∧ q ≤ x.ents.length ∧ entL name (x.ents.drop q) = R ∧ Below w.heap.size w wr ∧ Blk wr w.heap.size #[.slice (some ⟨b, off, none⟩) S.ins.length ci, .slice ao no co, .slice am nm cm] 27) (fun i _ => (x.ents.length - intOf i).toNat)
    case atStart => exact ⟨0, rfl, by omega, HR.out, bel _ _, (Blk.new w _ 27).junk _⟩
    case round =>
      obtain ⟨q, rfl, hq, hre, hb, hblk⟩ := hrel
      have iB : Bel w wr := ⟨hb⟩
      have iL := hblk.lt
      have s0 := hblk.cell 0
      simp at s0
      obtain ⟨iG, c0, c1, c2, c3⟩ := HA.out.2 wr hb
      clear c0 c1 c3
      have HB := Lib.hid hblk
      clear hblk
      by_cases hlt : q < x.ents.length
      · obtain ⟨z, hz⟩ : ∃ z, x.ents[q]? = some z := ⟨_, List.getElem?_eq_getElem hlt⟩
        obtain ⟨be, oe, rfl, iE0, iE, hce⟩ := HA.out.1 wr hb q z.cells (by rw [List.getElem?_map, hz]; rfl)
        have e0 := hce 0 _ rfl
        have e1 := hce 1 _ rfl
        rw [Nat.add_zero] at e0
        rw [drop_at hz, entL] at hre
        clear hz hce
        rcases hpz : (z.name.toList == name.toList) with _ | _
        · rw [hpz, if_neg (by decide)] at hre
          have HZ := Lib.hid hre
          clear hre
          go_wp2_with fail
          go_roundw
          case rel => exact ⟨q + 1, by go_num, by omega, HZ.out, bel _ _, HB.out⟩
          case measure => simp [intOf]; omega
        · rw [hpz, if_pos (by decide)] at hre
          subst hre
          go_wp2_with fail
          exact bodyPost_ret (v := .int .i64 z.num) (by simp [results, Tryz.results95, go_sem]) rfl ⟨rfl, bel _ _⟩
      · rw [List.drop_of_length_le (by omega)] at hre
        obtain rfl : R = 0 := by rw [← hre]; rfl
        go_wp2_with fail
        exact bodyPost_ret (v := .int .i64 0) (by simp [results, Tryz.results95, go_sem]) rfl ⟨rfl, bel _ _⟩
end Go.Proofs.YtjkenolgkkknaaaGreatDoor
namespace Go.Proofs.YtjkenolgkkknaaaGreatDoor
open Go.RowKit
def givenR (S : PSt) (n : Int) : Bool := if n < 2 then false else match S.made[((n - 2) % 8).toNat]? with | some m => decide ((n - 2) / 8 < m) | none => false
set_option maxRecDepth 100000 in
theorem given29 (S : PSt) (iv ov mv : Value) (n : Int) (hn : I64 n) (w : World) (h : StRead w iv ov mv S) (hwf : S.wf) :
    Calls Tryz.prog 29 #[.agg #[iv, ov, mv], .int .i64 n] w fun e w' => e = .returned (.bool (givenR S n)) ∧ Below w.heap.size w w' := by
  obtain ⟨ai, ni, ci, ao, no, co, am, nm, cm, rfl, rfl, rfl⟩ := h.slices
  obtain ⟨a, cap, e1, hat⟩ := h.2.1.at_
  rw [List.length_map] at e1
  cases e1
  have hml := hwf.2.2.1
  obtain ⟨R, hR⟩ : ∃ R, givenR S n = R := ⟨_, rfl⟩
  rw [hR]
  unfold givenR at hR
  clear h hwf
  by_cases h2 : n < 2
  · rw [if_pos h2] at hR
    subst hR
    clear hat
    go_enter Tryz.func29, Tryz.ntmps29
    go_wp2_with fail
    exact bodyPost_ret (v := .bool false) (by simp [results, Tryz.results29, go_sem]) rfl ⟨rfl, bel _ _⟩
  · rw [if_neg h2] at hR
    have hn2 := hn.2
    have w1 : IntKind.i64.wrap (n - 2) = n - 2 := I64.wrap ⟨by omega, by omega⟩
    have w2 : (n - 2).tmod 8 = (n - 2) % 8 := Int.tmod_eq_emod_of_nonneg (by omega)
    have w3 : (n - 2).tdiv 8 = (n - 2) / 8 := Int.tdiv_eq_ediv_of_nonneg (by omega)
    obtain ⟨k, hk⟩ : ∃ k : Nat, (n - 2) % 8 = k := ⟨((n - 2) % 8).toNat, by omega⟩
    obtain ⟨d, hd⟩ : ∃ d : Int, (n - 2) / 8 = d := ⟨_, rfl⟩
    have hd64 : IntKind.i64.wrap d = d := I64.wrap ⟨by omega, by omega⟩
    have hk8 : k < 8 := by omega
    have hk64 : IntKind.i64.wrap (k : Int) = k := I64.wrap ⟨by omega, by omega⟩
    rw [hk, hd, Int.toNat_natCast] at hR
    rw [hk] at w2
    rw [hd] at w3
    clear hk hd
    by_cases hlt : k < S.made.length
    · obtain ⟨m, hm⟩ : ∃ m, S.made[k]? = some m := ⟨_, List.getElem?_eq_getElem hlt⟩
      rw [hm] at hR
      simp only at hR
      obtain ⟨b, off, rfl, iG0, -, hc⟩ := hat w (bel _ _) k (intCells m) (by rw [List.getElem?_map, hm]; rfl)
      have c0 := hc 0 _ rfl
      rw [Nat.mul_one, Nat.add_zero] at c0
      subst hR
      clear hc hat hm hn
      have hltI : (k : Int) < S.made.length := by omega
      go_enter Tryz.func29, Tryz.ntmps29
      go_wp2_with fail
      exact bodyPost_ret (v := .bool (decide (d < m))) (by simp [results, Tryz.results29, go_sem]) rfl ⟨rfl, bel _ _⟩
    · rw [List.getElem?_eq_none (by omega)] at hR
      simp only at hR
      subst hR
      clear hat hn
      have hltI : ¬ (k : Int) < S.made.length := by omega
      go_enter Tryz.func29, Tryz.ntmps29
      go_wp2_with fail
      exact bodyPost_ret (v := .bool false) (by simp [results, Tryz.results29, go_sem]) rfl ⟨rfl, bel _ _⟩
def lkE (n : Int) : List PEnt → Int → Int
  | [], a => a
  | e :: r, a => lkE n r (if (e.num == n) = true then a + 1 else a)
def lkI (n : Int) : List PIn → Int → Int
  | [], a => a
  | x :: r, a => lkI n r (if x.dir = true then lkE n x.ents a else a)
def linksR (S : PSt) (n : Int) : Int := lkI n S.ins 0
set_option maxRecDepth 100000 in
set_option maxHeartbeats 1000000 in
theorem links31 (S : PSt) (iv ov mv : Value) (n : Int) (w : World) (h : StRead w iv ov mv S) (hwf : S.wf) :
    Calls Tryz.prog 31 #[.agg #[iv, ov, mv], .int .i64 n] w fun e w' => e = .returned (.int .i64 (linksR S n)) ∧ Below w.heap.size w w' := by
  obtain ⟨ai, ni, ci, ao, no, co, am, nm, cm, rfl, rfl, rfl⟩ := h.slices
  obtain ⟨a, cap, e1, hat⟩ := h.ins_at2
  cases e1
  have hlen := hwf.1
  have HWF := Lib.hid hwf
  have HAt := Lib.hid hat
  clear hat h hwf
  obtain ⟨R, hR⟩ : ∃ R, linksR S n = R := ⟨_, rfl⟩
  rw [hR]
  unfold linksR at hR
  have HR := Lib.hid hR
  clear hR
  go_enter Tryz.func31, Tryz.ntmps31
  go_wp2_with fail
  go_loopw [5, 6] (fun v i wr => ∃ (q : Nat) (m : Int), i = .int .i64 q ∧ v = .int .i64 m ∧ 0 ≤ m ∧ m ≤ 1000000000 * q ∧ q ≤ S.ins.length ∧ lkI n (S.ins.drop q) m = R ∧ Below w.heap.size w wr ∧ Blk wr w.heap.size #[.slice ai S.ins.length ci, .slice ao no co, .slice am nm cm] 27) (fun _ i _ => (S.ins.length - intOf i).toNat)
  case atStart => exact ⟨0, 0, rfl, rfl, by omega, by omega, by omega, HR.out, bel _ _, Blk.new w _ 27⟩
  case round =>
    obtain ⟨q, m, rfl, rfl, hm0, hm1, hq, hre, hb, hblk⟩ := hrel
    have iB : Bel w wr := ⟨hb⟩
    have iL := hblk.lt
    have s0 := hblk.cell 0
    simp at s0
    by_cases hlt : q < S.ins.length
    · obtain ⟨x, hx⟩ : ∃ x, S.ins[q]? = some x := ⟨_, List.getElem?_eq_getElem hlt⟩
      obtain ⟨b, off, ev, rfl, iG0, ho, her, hc⟩ := HAt.out q x hx
      obtain ⟨ae, ce, rfl, hae⟩ := her.at_
      rw [List.length_map] at hc
      have hel := (HWF.out.2.2.2.1 x (List.mem_of_getElem? hx)).2.1
      have HA := Lib.hid (And.intro hae hc)
      obtain ⟨iG, c0, c1, c2, c3⟩ := hc wr hb
      have HB := Lib.hid hblk
      rw [drop_at hx, lkI] at hre
      clear her hae hc ho hblk c0 c3 c1 c2 hx
      obtain ⟨xn, xd, xe, xs⟩ := x
      simp only at hre HA hel
      rcases xd with _ | _
      · rw [if_neg (by decide)] at hre
        obtain ⟨_, _, c1, c2, _⟩ := HA.out.2 wr hb
        have HRE := Lib.hid hre
        clear hre
        by_cases h0 : 0 < xe.length
        · have h0I : (0 : Int) < xe.length := by omega
          go_wp2_with fail
          go_loopw [5, 7] (fun v i wr' => v = .int .i64 m ∧ i = .int .i64 0 ∧ wr' = wr) (fun _ i _ => 0)
          case atStart => exact ⟨rfl, rfl, rfl⟩
          case round =>
            obtain ⟨rfl, rfl, rfl⟩ := hrel
            go_wp2_with fail
            go_roundw
            case rel => exact ⟨q + 1, m, by rfl, rfl, hm0, by omega, by omega, HRE.out, bel _ _, HB.out⟩
            case measure => simp [intOf]; omega
        · have h0I : ¬ (0 : Int) < xe.length := by omega
          go_wp2_with fail
          go_loopw [5, 7] (fun v i wr' => v = .int .i64 m ∧ i = .int .i64 0 ∧ wr' = wr) (fun _ i _ => 0)
          case atStart => exact ⟨rfl, rfl, rfl⟩
          case round =>
            obtain ⟨rfl, rfl, rfl⟩ := hrel
            go_wp2_with fail
            go_roundw
            case rel => exact ⟨q + 1, m, by rfl, rfl, hm0, by omega, by omega, HRE.out, bel _ _, HB.out⟩
            case measure => simp [intOf]; omega
      · rw [if_pos rfl] at hre
        have HRE := Lib.hid hre
        clear hre
        go_wp2_with fail
        go_loopw [5, 7] (fun v i wr' => ∃ (j : Nat) (m' : Int), i = .int .i64 j ∧ v = .int .i64 m' ∧ 0 ≤ m' ∧ m' ≤ 1000000000 * q + j ∧ j ≤ xe.length ∧ lkI n (S.ins.drop (q + 1)) (lkE n (xe.drop j) m') = R ∧ Below w.heap.size w wr' ∧ Blk wr' w.heap.size #[.slice (some ⟨b, off, none⟩) S.ins.length ci, .slice ao no co, .slice am nm cm] 27) (fun _ i _ => (xe.length - intOf i).toNat)
        case atStart => exact ⟨0, m, rfl, rfl, by omega, by omega, by omega, HRE.out, bel _ _, HB.out⟩
        case round =>
          clear HRE HB iB iL s0 hb iG
          obtain ⟨j, m', rfl, rfl, hm2, hm3, hj, hre, hb, hblk⟩ := hrel
          have iB : Bel w wr := ⟨hb⟩
          have iL := hblk.lt
          have s0 := hblk.cell 0
          simp at s0
          obtain ⟨iG, c0, c1, c2, c3⟩ := HA.out.2 wr hb
          have HB := Lib.hid hblk
          clear hblk c0 c3
          by_cases hlj : j < xe.length
          · obtain ⟨z, hz⟩ : ∃ z, xe[j]? = some z := ⟨_, List.getElem?_eq_getElem hlj⟩
            obtain ⟨be, oe, rfl, iE0, iE, hce⟩ := HA.out.1 wr hb j z.cells (by rw [List.getElem?_map, hz]; rfl)
            have e1 := hce 1 _ rfl
            rw [drop_at hz, lkE] at hre
            clear hz hce
            have hljI : (j : Int) < xe.length := by omega
            have w1 : IntKind.i64.wrap (m' + 1) = m' + 1 := I64.wrap ⟨by omega, by omega⟩
            rcases hpz : (z.num == n) with _ | _
            · rw [hpz, if_neg (by decide)] at hre
              have HZ := Lib.hid hre
              clear hre
              go_wp2_with fail
              go_roundw
              case rel => exact ⟨j + 1, m', by rfl, rfl, by omega, by omega, by omega, HZ.out, bel _ _, HB.out⟩
              case measure => simp [intOf]; omega
            · rw [hpz, if_pos (by decide)] at hre
              have HZ := Lib.hid hre
              clear hre
              go_wp2_with fail
              go_roundw
              case rel => exact ⟨j + 1, m' + 1, by rfl, rfl, by omega, by omega, by omega, HZ.out, bel _ _, HB.out⟩
              case measure => simp [intOf]; omega
          · rw [show xe.drop j = [] from List.drop_of_length_le (by omega), lkE] at hre
            have hljI : ¬ (j : Int) < xe.length := by omega
            have HZ := Lib.hid hre
            clear hre
            go_wp2_with fail
            go_roundw
            case rel => exact ⟨q + 1, m', by rfl, rfl, hm2, by omega, by omega, HZ.out, bel _ _, HB.out⟩
            case measure => simp [intOf]; omega
    · rw [List.drop_of_length_le (by omega), lkI] at hre
      subst hre
      go_wp2_with fail
      exact bodyPost_ret (v := .int .i64 m) (by simp [results, Tryz.results31, go_sem]) rfl ⟨rfl, bel _ _⟩
end Go.Proofs.YtjkenolgkkknaaaGreatDoor
namespace Go.Proofs.YtjkenolgkkknaaaGreatDoor
open Go.RowKit
def dirAt (S : PSt) (k : Int) : Bool := match S.ins[k.toNat]? with | some x => x.dir | none => false
def badD (S : PSt) (d : PDesc) : Bool := decide (d.core < 0) || (decide ((S.made.length : Int) ≤ d.core) || (decide (d.fd < 0) || (decide (4 ≤ d.fd) || (decide (atR S d.num < 0) || dirAt S (atR S d.num)))))
def prevDR (o : Option PDesc) (d : PDesc) : Bool := match o with | some o => decide (d.core < o.core) || ((o.core == d.core) && decide (d.fd ≤ o.fd)) | none => false
def openL (S : PSt) : Option PDesc → List PDesc → Bool
  | _, [] => true
  | o, d :: r => if badD S d = true then false else if prevDR o d = true then false else openL S (some d) r
def openR (S : PSt) : Bool := openL S none S.op
def prevDOf (es : List PDesc) (q : Nat) : Option PDesc := if q = 0 then none else es[q - 1]?
set_option maxRecDepth 100000 in
set_option maxHeartbeats 8000000 in
theorem open27 (S : PSt) (iv ov mv : Value) (w : World) (h : StRead w iv ov mv S) (hwf : S.wf) :
    Calls Tryz.prog 27 #[.agg #[iv, ov, mv]] w fun e w' => e = .returned (.bool (openR S)) ∧ Below w.heap.size w w' := by
  have hA0 : ∀ n ww, Below w.heap.size w ww → Calls Tryz.prog 51 #[.agg #[iv, ov, mv], .int .i64 n] ww fun e w' => e = .returned (.int .i64 (atR S n)) ∧ Below ww.heap.size ww w' := fun n ww hb => at51 S iv ov mv n ww (h.below hb (Nat.le_refl _)) hwf.1
  obtain ⟨ai, ni, ci, ao, no, co, am, nm, cm, rfl, rfl, rfl⟩ := h.slices
  obtain ⟨a, cap, e1, hat⟩ := h.1.at_
  rw [List.length_map] at e1
  cases e1
  obtain ⟨a, cap, e1, hai⟩ := h.ins_at2
  cases e1
  obtain ⟨a, cap, e1, -⟩ := h.2.1.at_
  rw [List.length_map] at e1
  cases e1
  have HA := Lib.hid hat
  have HI := Lib.hid hai
  have HWF := Lib.hid hwf
  have hol := hwf.2.1
  have hml := hwf.2.2.1
  clear hat h hai hwf
  obtain ⟨R, hR⟩ : ∃ R, openR S = R := ⟨_, rfl⟩
  rw [hR]
  unfold openR at hR
  have HR := Lib.hid hR
  clear hR
  go_enter Tryz.func27, Tryz.ntmps27
  go_wp2_with fail
  go_loopw [3] (fun i wr => ∃ (q : Nat), i = .int .i64 q ∧ q ≤ S.op.length ∧ openL S (prevDOf S.op q) (S.op.drop q) = R ∧ Below w.heap.size w wr ∧ Blk wr w.heap.size #[.slice ai S.ins.length ci, .slice ao S.op.length co, .slice am S.made.length cm] 27) (fun i _ => (S.op.length - intOf i).toNat)
  case atStart => exact ⟨0, rfl, by omega, HR.out, bel _ _, Blk.new w _ 27⟩
  case round =>
    obtain ⟨q, rfl, hq, hre, hb, hblk⟩ := hrel
    have iB : Bel w wr := ⟨hb⟩
    have iL := hblk.lt
    have s0 := hblk.cell 0
    have s1 := hblk.cell 1
    have s2 := hblk.cell 2
    simp at s0 s1 s2
    have HB := Lib.hid hblk
    clear hblk
    by_cases hlt : q < S.op.length
    · obtain ⟨z, hz⟩ : ∃ z, S.op[q]? = some z := ⟨_, List.getElem?_eq_getElem hlt⟩
      obtain ⟨b, off, rfl, iG0, iG, hc⟩ := HA.out wr hb q z.cells (by rw [List.getElem?_map, hz]; rfl)
      have c0 := hc 0 _ rfl
      have c1 := hc 1 _ rfl
      have c2 := hc 2 _ rfl
      rw [Nat.add_zero] at c0
      rw [drop_at hz, openL] at hre
      have hprev : (q = 0 ∧ prevDOf S.op q = none) ∨ ∃ (k : Nat) (y : PDesc), q = k + 1 ∧ S.op[k]? = some y ∧ prevDOf S.op q = some y ∧ wr.cell? ⟨b, off + k * 3, none⟩ = some (.int .i64 y.core) ∧ wr.cell? ⟨b, off + k * 3 + 1, none⟩ = some (.int .i64 y.fd) ∧ wr.cell? ⟨b, off + k * 3 + 2, none⟩ = some (.int .i64 y.num) := by
        by_cases hq0 : q = 0
        · exact .inl ⟨hq0, by simp [prevDOf, hq0]⟩
        · obtain ⟨k, rfl⟩ : ∃ k, q = k + 1 := ⟨q - 1, by omega⟩
          obtain ⟨y, hy⟩ : ∃ y, S.op[k]? = some y := ⟨_, List.getElem?_eq_getElem (by omega)⟩
          obtain ⟨b2, off2, he2, _, _, hc2⟩ := HA.out wr hb k y.cells (by rw [List.getElem?_map, hy]; rfl)
          cases he2
          exact .inr ⟨k, y, rfl, hy, by simp [prevDOf, hy], hc2 0 _ rfl, hc2 1 _ rfl, hc2 2 _ rfl⟩
      have hnext : prevDOf S.op (q + 1) = some z := by simp [prevDOf, hz]
      have HN := Lib.hid (And.intro hnext hprev)
      have hA := fun ww hb => hA0 z.num ww hb
      have hab := atR_bounds S z.num
      clear hc hnext hprev hA0
      unfold badD at hre
      generalize atR S z.num = K at hre hA hab
      have HRE := Lib.hid hre
      clear hre hz
      by_cases k1 : z.core < 0
      · obtain rfl : R = false := by have := HRE.out; simpa [k1] using this.symm
        clear HN
        go_wp2_with (go_at_call 51; refine (hA _ (bel _ _)).mono ?_; rintro e w' ⟨rfl, hb⟩; obtain ⟨pj, rfl⟩ := hb.rest; clear hb)
        exact bodyPost_ret (v := .bool false) (by simp [results, Tryz.results27, go_sem]) rfl ⟨rfl, bel _ _⟩
      by_cases k2 : (S.made.length : Int) ≤ z.core
      · obtain rfl : R = false := by have := HRE.out; simpa [k2] using this.symm
        clear HN
        go_wp2_with (go_at_call 51; refine (hA _ (bel _ _)).mono ?_; rintro e w' ⟨rfl, hb⟩; obtain ⟨pj, rfl⟩ := hb.rest; clear hb)
        exact bodyPost_ret (v := .bool false) (by simp [results, Tryz.results27, go_sem]) rfl ⟨rfl, bel _ _⟩
      by_cases k3 : z.fd < 0
      · obtain rfl : R = false := by have := HRE.out; simpa [k3] using this.symm
        clear HN
        go_wp2_with (go_at_call 51; refine (hA _ (bel _ _)).mono ?_; rintro e w' ⟨rfl, hb⟩; obtain ⟨pj, rfl⟩ := hb.rest; clear hb)
        exact bodyPost_ret (v := .bool false) (by simp [results, Tryz.results27, go_sem]) rfl ⟨rfl, bel _ _⟩
      by_cases k4 : 4 ≤ z.fd
      · obtain rfl : R = false := by have := HRE.out; simpa [k4] using this.symm
        clear HN
        go_wp2_with (go_at_call 51; refine (hA _ (bel _ _)).mono ?_; rintro e w' ⟨rfl, hb⟩; obtain ⟨pj, rfl⟩ := hb.rest; clear hb)
        exact bodyPost_ret (v := .bool false) (by simp [results, Tryz.results27, go_sem]) rfl ⟨rfl, bel _ _⟩
      by_cases k5 : K < 0
      · obtain rfl : R = false := by have := HRE.out; simpa [k5] using this.symm
        clear HN
        go_wp2_with (go_at_call 51; refine (hA _ (bel _ _)).mono ?_; rintro e w' ⟨rfl, hb⟩; obtain ⟨pj, rfl⟩ := hb.rest; clear hb)
        exact bodyPost_ret (v := .bool false) (by simp [results, Tryz.results27, go_sem]) rfl ⟨rfl, bel _ _⟩
      obtain ⟨k, rfl⟩ : ∃ k : Nat, K = k := ⟨K.toNat, by omega⟩
      have hk : k < S.ins.length := by omega
      obtain ⟨x, hx⟩ : ∃ x, S.ins[k]? = some x := ⟨_, List.getElem?_eq_getElem hk⟩
      obtain ⟨bi, oi, ev, rfl, iI0, hoi, -, hci⟩ := HI.out k x hx
      obtain ⟨iI, x0, x1, x2, x3⟩ := hci wr hb
      have hre : (if (dirAt S (k : Int)) = true then false else if prevDR (prevDOf S.op q) z = true then false else openL S (some z) (S.op.drop (q + 1))) = R := by have := HRE.out; simpa [k1, k2, k3, k4, k5] using this
      have hd : dirAt S (k : Int) = x.dir := by simp [dirAt, hx]
      rw [hd] at hre
      clear hd hci hoi x0 x2 x3 HRE hx
      obtain ⟨xn, xd, xe, xs⟩ := x
      (try simp only at x1)
      (try simp only at hre)
      rcases xd with _ | _
      · rw [if_neg (by decide)] at hre
        obtain ⟨hn, hprev⟩ := HN.out
        rcases hprev with ⟨rfl, hp⟩ | ⟨j, y, rfl, hy, hp, y0, y1, y2⟩
        · rw [hp] at hre
          have HRE := Lib.hid (And.intro hre hn)
          clear hre hn hp
          simp only [Nat.zero_mul, Nat.add_zero] at c0 c1 c2
          go_wp2_with (go_at_call 51; refine (hA _ (bel _ _)).mono ?_; rintro e w' ⟨rfl, hb⟩; obtain ⟨pj, rfl⟩ := hb.rest; clear hb)
          go_roundw
          case rel => exact ⟨1, by rfl, by omega, by have := HRE.out; rw [this.2]; simpa [prevDR] using this.1, bel _ _, by first | exact (HB.out.alloc _).junk _ | exact HB.out⟩
          case measure => simp [intOf]; omega
        · rw [hp, prevDR] at hre
          (try simp only at hre)
          have HRE := Lib.hid (And.intro hre hn)
          have hjI : ((j : Int) + 1) - 1 = j := by omega
          have w2 : IntKind.i64.wrap (j : Int) = j := I64.wrap ⟨by omega, by omega⟩
          have hj1 : (0 : Int) < (j : Int) + 1 := by omega
          have hjl : (j : Int) < S.op.length := by omega
          have hjl2 : j < S.op.length := by omega
          clear hre hn hp hy HN
          by_cases p1 : z.core < y.core
          · obtain rfl : R = false := by have := HRE.out.1; simpa [p1] using this.symm
            go_wp2_with (go_at_call 51; refine (hA _ (bel _ _)).mono ?_; rintro e w' ⟨rfl, hb⟩; obtain ⟨pj, rfl⟩ := hb.rest; clear hb)
            exact bodyPost_ret (v := .bool false) (by simp [results, Tryz.results27, go_sem]) rfl ⟨rfl, bel _ _⟩
          rcases p2 : (y.core == z.core) with _ | _
          · have hre : openL S (some z) (S.op.drop (j + 1 + 1)) = R := by have := HRE.out.1; simpa [p1, p2] using this
            have hn := HRE.out.2
            have HRE := Lib.hid (And.intro hre hn)
            clear hre hn
            go_wp2_with (go_at_call 51; refine (hA _ (bel _ _)).mono ?_; rintro e w' ⟨rfl, hb⟩; obtain ⟨pj, rfl⟩ := hb.rest; clear hb)
            go_roundw
            case rel => exact ⟨j + 1 + 1, by simp, by omega, by have := HRE.out; rw [this.2]; exact this.1, bel _ _, by first | exact ((HB.out.alloc _).junk _).alloc _ | exact (HB.out.alloc _).junk _ | exact HB.out⟩
            case measure => simp [intOf]; omega
          · by_cases p3 : z.fd ≤ y.fd
            · obtain rfl : R = false := by have := HRE.out.1; simpa [p2, p3] using this.symm
              go_wp2_with (go_at_call 51; refine (hA _ (bel _ _)).mono ?_; rintro e w' ⟨rfl, hb⟩; obtain ⟨pj, rfl⟩ := hb.rest; clear hb)
              exact bodyPost_ret (v := .bool false) (by simp [results, Tryz.results27, go_sem]) rfl ⟨rfl, bel _ _⟩
            · have hre : openL S (some z) (S.op.drop (j + 1 + 1)) = R := by have := HRE.out.1; simpa [p1, p2, p3] using this
              have hn := HRE.out.2
              have HRE := Lib.hid (And.intro hre hn)
              clear hre hn
              go_wp2_with (go_at_call 51; refine (hA _ (bel _ _)).mono ?_; rintro e w' ⟨rfl, hb⟩; obtain ⟨pj, rfl⟩ := hb.rest; clear hb)
              go_roundw
              case rel => exact ⟨j + 1 + 1, by simp, by omega, by have := HRE.out; rw [this.2]; exact this.1, bel _ _, by first | exact ((HB.out.alloc _).junk _).alloc _ | exact (HB.out.alloc _).junk _ | exact HB.out⟩
              case measure => simp [intOf]; omega
      · rw [if_pos rfl] at hre
        subst hre
        clear HN
        go_wp2_with (go_at_call 51; refine (hA _ (bel _ _)).mono ?_; rintro e w' ⟨rfl, hb⟩; obtain ⟨pj, rfl⟩ := hb.rest; clear hb)
        exact bodyPost_ret (v := .bool false) (by simp [results, Tryz.results27, go_sem]) rfl ⟨rfl, bel _ _⟩
    · rw [List.drop_of_length_le (by omega)] at hre
      obtain rfl : R = true := by rw [← hre]; rfl
      go_wp2_with fail
      exact bodyPost_ret (v := .bool true) (by simp [results, Tryz.results27, go_sem]) rfl ⟨rfl, bel _ _⟩
end Go.Proofs.YtjkenolgkkknaaaGreatDoor
