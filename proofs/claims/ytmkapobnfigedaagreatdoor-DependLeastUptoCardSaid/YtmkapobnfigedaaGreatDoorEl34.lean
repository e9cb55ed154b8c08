/- The reference's names: Check, Hash, Bucket, Below, Code. Conditions: none. -/
import Derived.Test.YtmkapobnfigedaaGreatDoorEl33
set_option linter.unusedVariables false
set_option linter.unusedSimpArgs false
namespace Go.Proofs.YtmkapobnfigedaaGreatDoor
open Go.RowKit
theorem rune1R_bounds (s : ByteArray) (p : Nat) : 0 ≤ (rune1R s p).1 ∧ (rune1R s p).1 ≤ 1114111 ∧ 0 ≤ (rune1R s p).2 ∧ (rune1R s p).2 ≤ 4 := by
 have h0 := byteAt_bounds s p
 have h1 := nextR_bounds s (p + 1)
 have h2 := nextR_bounds s (p + 2)
 have h3 := nextR_bounds s (p + 3)
 unfold rune1R
 generalize byteAt s p = c at *
 generalize nextR s (p + 1) = a at *
 generalize nextR s (p + 2) = b at *
 generalize nextR s (p + 3) = d at *
 unfold rune1B
 repeat' split
 all_goals (simp only; omega)
def hashRF (s : ByteArray) : Nat → Nat → Int → Int
 | 0, _, h => h
 | b + 1, p, h => if p < s.size then hashRF s b (p + (max (rune1R s p).2 1).toNat) ((31 * h + (rune1R s p).1) % 4294967296) else h
def hashR (s : ByteArray) : Int := hashRF s s.size 0 7
theorem hashRF_end (s : ByteArray) (b p : Nat) (h : Int) (hp : ¬ p < s.size) : hashRF s b p h = h := by
 cases b with
 | zero => rfl
 | succ b => simp [hashRF, hp]
theorem hashRF_lt (s : ByteArray) : ∀ b p h, 0 ≤ h ∧ h < 4294967296 → 0 ≤ hashRF s b p h ∧ hashRF s b p h < 4294967296
 | 0, _, h, hh => hh
 | b + 1, p, h, hh => by
   unfold hashRF
   split
   · have := rune1R_bounds s p; exact hashRF_lt s b _ _ (by omega)
   · exact hh
theorem hash61 (s : ByteArray) (hs : s.size ≤ 1000000000) (w : World) :
 Calls Tryz.prog 119 #[.string s] w fun e w' => e = .returned (.int .i64 (hashR s)) ∧ Below w.heap.size w w' := by
 obtain ⟨R, hR⟩ : ∃ R, hashR s = R := ⟨_, rfl⟩
 rw [hR]
 unfold hashR at hR
 have HR := Lib.hid hR
 clear hR
 go_enter Tryz.func119, Tryz.ntmps119
 go_wp2_with fail
 go_loopw [3, 4] (fun vh vi wr => ∃ (p b : Nat) (acc : Int), vi = .int .i64 p ∧ vh = .int .i64 acc ∧ 0 ≤ acc ∧ acc < 4294967296 ∧ hashRF s b p acc = R ∧ s.size ≤ p + b ∧ p ≤ s.size + 4 ∧ Below w.heap.size w wr) (fun _ vi _ => (s.size + 4 - intOf vi).toNat)
 case atStart => exact ⟨0, s.size, 7, rfl, rfl, by omega, by omega, HR.out, by omega, by omega, bel _ _⟩
 case round =>
  obtain ⟨p, b, acc, rfl, rfl, ha0, ha1, hre, hbp, hp4, hb⟩ := hrel; have iB : Bel w wr := ⟨hb⟩
  by_cases hp : p < s.size
  · have hpI : (p : Int) < s.size := by omega
    obtain ⟨b', rfl⟩ : ∃ b', b = b' + 1 := ⟨b - 1, by omega⟩
    have hru := fun ww => rune93 s p hp (by omega) ww
    have hrb := rune1R_bounds s p; rw [hashRF, if_pos hp] at hre; generalize hrk : rune1R s p = rk at hre hru hrb; clear hrk; obtain ⟨r, k⟩ := rk; simp only at hrb hre hru; obtain ⟨m, hm⟩ : ∃ m : Nat, max k 1 = m := ⟨(max k 1).toNat, by omega⟩
    have hm1 : 1 ≤ m ∧ m ≤ 4 := by omega
    rw [hm, Int.toNat_natCast] at hre; have w1 : IntKind.i64.wrap (31 * acc) = 31 * acc := I64.wrap ⟨by omega, by omega⟩; have w2 : IntKind.i64.wrap (31 * acc + r) = 31 * acc + r := I64.wrap ⟨by omega, by omega⟩; have w3 : IntKind.i64.wrap ((p : Int) + m) = p + m := I64.wrap ⟨by omega, by omega⟩; have w4 : IntKind.i64.wrap ((31 * acc + r) % 4294967296) = (31 * acc + r) % 4294967296 := I64.wrap ⟨by omega, by omega⟩; have w5 : (31 * acc + r).tmod 4294967296 = (31 * acc + r) % 4294967296 := Int.tmod_eq_emod_of_nonneg (by omega); have HRE := Lib.hid hre; clear hre; go_wp2_with (go_at_call 120; refine (hru _).mono ?_; rintro e w' ⟨rfl, hb⟩; obtain ⟨pj, rfl⟩ := hb.rest; clear hb)
    go_roundw
    case rel => exact ⟨p + m, b', _, by rfl, rfl, by omega, by omega, HRE.out, by omega, by omega, bel _ _⟩
    case measure => simp [intOf]; omega
  · rw [hashRF_end s b p acc hp] at hre; subst hre; have hpI : ¬ (p : Int) < s.size := by omega
    go_wp2_with fail; exact bodyPost_ret (v := .int .i64 acc) (by simp [results, Tryz.results119, go_sem]) rfl ⟨rfl, bel _ _⟩
def checkRF (s : ByteArray) : Nat → Nat → Bool
 | 0, _ => true
 | b + 1, p => if p < s.size then (if (rune1R s p).2 = 0 ∨ (rune1R s p).1 = 47 ∨ (rune1R s p).1 < 32 ∨ (rune1R s p).1 = 127 then false else checkRF s b (p + (rune1R s p).2.toNat)) else true
def checkR (s : ByteArray) : Int := if 12 < s.size then 801 else if (s.toList.isEmpty || s.toList == [46] || s.toList == [46, 46]) = true then 800 else if checkRF s s.size 0 = true then 0 else 800
theorem checkRF_end (s : ByteArray) (b p : Nat) (hp : ¬ p < s.size) : checkRF s b p = true := by
 cases b with
 | zero => rfl
 | succ b => simp [checkRF, hp]
theorem check52 (s : ByteArray) (w : World) :
 Calls Tryz.prog 90 #[.string s] w fun e w' => e = .returned (.int .i64 (checkR s)) ∧ Below w.heap.size w w' := by
 by_cases hlen : 12 < s.size
 · have hlenI : (12 : Int) < s.size := by omega
   have hM : checkR s = 801 := by simp [checkR, hlen]
   rw [hM]
   go_enter Tryz.func90, Tryz.ntmps90
   go_wp2_with fail; exact bodyPost_ret (v := .int .i64 801) (by simp [results, Tryz.results90, go_sem]) rfl ⟨rfl, bel _ _⟩
 have hlenI : ¬ (12 : Int) < s.size := by omega
 rcases h1 : s.toList.isEmpty with _ | _
 rcases h2 : s.toList == [46] with _ | _
 rcases h3 : s.toList == [46, 46] with _ | _
 · have hM : checkR s = if checkRF s s.size 0 = true then 0 else 800 := by simp only [checkR, if_neg hlen, h1, h2, h3]; rfl
   rw [hM]; obtain ⟨V, hV⟩ : ∃ V : Int, (if checkRF s s.size 0 = true then 0 else 800) = V := ⟨_, rfl⟩
   rw [hV]; obtain ⟨T, hT⟩ : ∃ T, checkRF s s.size 0 = T := ⟨_, rfl⟩
   rw [hT] at hV; have HT := Lib.hid (And.intro hT hV); clear hM hT hV
   go_enter Tryz.func90, Tryz.ntmps90
   go_wp2_with fail
   go_loopw [3] (fun vi wr => ∃ (p b : Nat), vi = .int .i64 p ∧ checkRF s b p = T ∧ s.size ≤ p + b ∧ p ≤ s.size + 4 ∧ Below w.heap.size w wr) (fun vi _ => (s.size + 4 - intOf vi).toNat)
   case atStart => exact ⟨0, s.size, rfl, HT.out.1, by omega, by omega, bel _ _⟩
   case round =>
    obtain ⟨p, b, rfl, hre, hbp, hp4, hb⟩ := hrel; have iB : Bel w wr := ⟨hb⟩
    by_cases hp : p < s.size
    · have hpI : (p : Int) < s.size := by omega
      obtain ⟨b', rfl⟩ : ∃ b', b = b' + 1 := ⟨b - 1, by omega⟩
      have hru := fun ww => rune93 s p hp (by omega) ww
      have hrb := rune1R_bounds s p; rw [checkRF, if_pos hp] at hre; generalize hrk : rune1R s p = rk at hre hru hrb; clear hrk; obtain ⟨r, k⟩ := rk; simp only at hrb hre hru; by_cases hbad : k = 0 ∨ r = 47 ∨ r < 32 ∨ r = 127
      · rw [if_pos hbad] at hre; subst hre; obtain rfl : V = 800 := by have := HT.out.2; simpa using this.symm
        have hcase : k = 0 ∨ ((k == 0) = false ∧ (r == 47) = true) ∨ ((k == 0) = false ∧ (r == 47) = false ∧ r < 32) ∨ ((k == 0) = false ∧ (r == 47) = false ∧ ¬ r < 32 ∧ (r == 127) = true) := by
         by_cases a1 : k = 0
         · exact .inl a1
         by_cases a2 : r = 47
         · exact .inr (.inl ⟨by simpa using a1, by simpa using a2⟩)
         by_cases a3 : r < 32
         · exact .inr (.inr (.inl ⟨by simpa using a1, by simpa using a2, a3⟩))
         · exact .inr (.inr (.inr ⟨by simpa using a1, by simpa using a2, a3, by simp; omega⟩))
        clear hbad HT; rcases hcase with hc | ⟨c1, c2⟩ | ⟨c1, c2, c3⟩ | ⟨c1, c2, c3, c4⟩
        · have c1 : (k == 0) = true := by simpa using hc
          clear hc; go_wp2_with (go_at_call 120; refine (hru _).mono ?_; rintro e w' ⟨rfl, hb⟩; obtain ⟨pj, rfl⟩ := hb.rest; clear hb)
          exact bodyPost_ret (v := .int .i64 800) (by simp [results, Tryz.results90, go_sem]) rfl ⟨rfl, bel _ _⟩
        all_goals
         go_wp2_with (go_at_call 120; refine (hru _).mono ?_; rintro e w' ⟨rfl, hb⟩; obtain ⟨pj, rfl⟩ := hb.rest; clear hb)
         exact bodyPost_ret (v := .int .i64 800) (by simp [results, Tryz.results90, go_sem]) rfl ⟨rfl, bel _ _⟩
      · rw [if_neg hbad] at hre; have a1 : (k == 0) = false := by simp; omega
        have a2 : (r == 47) = false := by simp; omega
        have a3 : ¬ r < 32 := by omega
        have a4 : (r == 127) = false := by simp; omega
        have hk : ¬ k = 0 := by omega
        obtain ⟨m, rfl⟩ : ∃ m : Nat, k = m := ⟨k.toNat, by omega⟩
        have hm1 : 1 ≤ m ∧ m ≤ 4 := by omega
        rw [Int.toNat_natCast] at hre; have w3 : IntKind.i64.wrap ((p : Int) + m) = p + m := I64.wrap ⟨by omega, by omega⟩; have HRE := Lib.hid hre; clear hre hbad hk; go_wp2_with (go_at_call 120; refine (hru _).mono ?_; rintro e w' ⟨rfl, hb⟩; obtain ⟨pj, rfl⟩ := hb.rest; clear hb)
        go_roundw
        case rel => exact ⟨p + m, b', by rfl, HRE.out, by omega, by omega, bel _ _⟩
        case measure => simp [intOf]; omega
    · rw [checkRF_end s b p hp] at hre; subst hre; obtain rfl : V = 0 := by have := HT.out.2; simpa using this.symm
      have hpI : ¬ (p : Int) < s.size := by omega
      go_wp2_with fail; exact bodyPost_ret (v := .int .i64 0) (by simp [results, Tryz.results90, go_sem]) rfl ⟨rfl, bel _ _⟩
 all_goals
  have hM : checkR s = 800 := by simp only [checkR, if_neg hlen]; simp [*]
  rw [hM]
  go_enter Tryz.func90, Tryz.ntmps90
  go_wp2_with fail; exact bodyPost_ret (v := .int .i64 800) (by simp [results, Tryz.results90, go_sem]) rfl ⟨rfl, bel _ _⟩
def belowRF (x y : ByteArray) : Nat → Nat → Bool
 | 0, _ => decide (x.size < y.size)
 | n + 1, p => if p < x.size ∧ p < y.size then (if byteAt x p = byteAt y p then belowRF x y n (p + 1) else decide (byteAt x p < byteAt y p)) else decide (x.size < y.size)
def belowR (x y : ByteArray) : Bool := belowRF x y x.size 0
theorem belowRF_end (x y : ByteArray) (n p : Nat) (hp : ¬ (p < x.size ∧ p < y.size)) : belowRF x y n p = decide (x.size < y.size) := by
 cases n with
 | zero => rfl
 | succ n => rw [belowRF, if_neg hp]
set_option maxRecDepth 100000 in
theorem below53 (x y : ByteArray) (hs : x.size ≤ 1000000000000) (w : World) :
 Calls Tryz.prog 81 #[.string x, .string y] w fun e w' => e = .returned (.bool (belowR x y)) ∧ Below w.heap.size w w' := by
 obtain ⟨R, hR⟩ : ∃ R, belowR x y = R := ⟨_, rfl⟩
 rw [hR]
 unfold belowR at hR
 have HR := Lib.hid hR
 clear hR
 go_enter Tryz.func81, Tryz.ntmps81
 go_wp2_with fail
 go_loopw [5] (fun vi wr => ∃ (q b : Nat), vi = .int .i64 q ∧ belowRF x y b q = R ∧ x.size ≤ q + b ∧ q ≤ x.size ∧ Below w.heap.size w wr) (fun vi _ => (x.size - intOf vi).toNat)
 case atStart => exact ⟨0, x.size, rfl, HR.out, by omega, by omega, bel _ _⟩
 case round =>
  obtain ⟨q, b, rfl, hre, hbp, hp4, hb⟩ := hrel; have iB : Bel w wr := ⟨hb⟩
  have hcond : (q < x.size ∧ q < y.size) ∨ ¬ (q < x.size) ∨ (q < x.size ∧ ¬ q < y.size) := by omega
  have hend : ∀ ww, Bel w ww → ¬ (q < x.size ∧ q < y.size) → Ending.returned (.bool (decide ((x.size : Int) < y.size))) = Ending.returned (.bool R) ∧ Below w.heap.size w ww := fun ww hww hn => by
   rw [belowRF_end x y b q hn] at hre; rw [← hre]; exact ⟨by congr 2; by_cases h : x.size < y.size <;> simp [h] <;> omega, hww.below⟩
  rcases hcond with ⟨h1, h2⟩ | h1 | ⟨h1, h2⟩
  · obtain ⟨b', rfl⟩ : ∃ b', b = b' + 1 := ⟨b - 1, by omega⟩
    clear hend; rw [belowRF, if_pos ⟨h1, h2⟩, byteAt_in h1, byteAt_in h2] at hre; have h1I : (q : Int) < x.size := by omega
    have h2I : (q : Int) < y.size := by omega
    have w3 : IntKind.i64.wrap ((q : Int) + 1) = q + 1 := I64.wrap ⟨by omega, by omega⟩; by_cases he : (x[q].toNat : Int) = y[q].toNat
    · rw [if_pos he] at hre; have he1 : ((x[q].toNat : Int) != y[q].toNat) = false := by simpa using he
      have HRE := Lib.hid hre; clear hre he; go_wp2_with fail; refine wp_region_quiet_rest (by kernel_rfl) (by kernel_rfl) ?_
      repeat
       first
        | go_big_quiet_skip
        | (go_big_quiet_want; go_big_quiet_op; first | go_big_quiet_on | (apply Exists.intro; refine ⟨fun _ => ?_, ?_⟩; (focus (fail)); go_big_quiet_on))
      refine wpQuiet_nil ?_; intro w1 hw1; obtain ⟨p, hw1⟩ := hw1; subst hw1; go_wp2_with fail
      go_roundw
      case rel => exact ⟨q + 1, b', by rfl, HRE.out, by omega, by omega, bel _ _⟩
      case measure => simp [intOf]; omega
    · rw [if_neg he] at hre; have he1 : ((x[q].toNat : Int) != y[q].toNat) = true := by simpa using he
      subst hre; go_wp2_with fail; refine wp_region_quiet_rest (by kernel_rfl) (by kernel_rfl) ?_
      repeat
       first
        | go_big_quiet_skip
        | (go_big_quiet_want; go_big_quiet_op; first | go_big_quiet_on | (apply Exists.intro; refine ⟨fun _ => ?_, ?_⟩; (focus (fail)); go_big_quiet_on))
      refine wpQuiet_nil ?_; intro w1 hw1; obtain ⟨p, hw1⟩ := hw1; subst hw1; go_wp2_with fail; refine wp_region_quiet_rest (by kernel_rfl) (by kernel_rfl) ?_
      repeat
       first
        | go_big_quiet_skip
        | (go_big_quiet_want; go_big_quiet_op; first | go_big_quiet_on | (apply Exists.intro; refine ⟨fun _ => ?_, ?_⟩; (focus (fail)); go_big_quiet_on))
      refine wpQuiet_nil ?_; intro w1 hw1; obtain ⟨p, hw1⟩ := hw1; subst hw1; go_wp2_with fail; exact bodyPost_ret (v := .bool (decide ((x[q].toNat : Int) < y[q].toNat))) (by simp [results, Tryz.results81, go_sem]) rfl ⟨rfl, bel _ _⟩
  · have h1I : ¬ (q : Int) < x.size := by omega
    have HE := Lib.hid hend; clear hend hre; go_wp2_with fail; exact bodyPost_ret (v := .bool (decide ((x.size : Int) < y.size))) (by simp [results, Tryz.results81, go_sem]) rfl (HE.out _ ⟨bel _ _⟩ (by omega))
  · have h1I : (q : Int) < x.size := by omega
    have h2I : ¬ (q : Int) < y.size := by omega
    have HE := Lib.hid hend; clear hend hre; go_wp2_with fail; exact bodyPost_ret (v := .bool (decide ((x.size : Int) < y.size))) (by simp [results, Tryz.results81, go_sem]) rfl (HE.out _ ⟨bel _ _⟩ (by omega))
def bucketR (s : ByteArray) : Int := hashR s % 8
theorem bucket35 (s : ByteArray) (hs : s.size ≤ 1000000000) (w : World) :
 Calls Tryz.prog 87 #[.string s] w fun e w' => e = .returned (.int .i64 (bucketR s)) ∧ Below w.heap.size w w' := by
 have hb : 0 ≤ hashR s ∧ hashR s < 4294967296 := hashRF_lt s s.size 0 7 (by omega)
 unfold bucketR
 have h1 := fun ww => hash61 s hs ww
 generalize hashR s = h at *
 have w5 : h.tmod 8 = h % 8 := Int.tmod_eq_emod_of_nonneg (by omega)
 have w6 : IntKind.i64.wrap (h % 8) = h % 8 := I64.wrap ⟨by omega, by omega⟩
 go_enter Tryz.func87, Tryz.ntmps87
 go_wp2_with ((go_at_call 119; refine (h1 _).mono ?_; rintro e w' ⟨rfl, hb⟩; obtain ⟨p, rfl⟩ := hb.rest; clear hb))
 exact bodyPost_ret (v := .int .i64 (h % 8)) (by simp [results, Tryz.results87, go_sem]) rfl ⟨rfl, bel _ _⟩
end Go.Proofs.YtmkapobnfigedaaGreatDoor
