/- The reference's names: runes, Check, Hash, Bucket, Below, Code. Conditions: none. -/
import Derived.Test.YtmkapobnfigedaaGreatDoorEl31
import Derived.Test.YtmkapobnfigedaaGreatDoorEl30
set_option linter.unusedVariables false
set_option linter.unusedSimpArgs false
namespace Go.Proofs.YtmkapobnfigedaaGreatDoor
open Go.RowKit
def byteAt (s : ByteArray) (p : Nat) : Int := if h : p < s.size then ((s[p]'h).toNat : Int) else 0
theorem byteAt_in {s : ByteArray} {p : Nat} (h : p < s.size) : byteAt s p = ((s[p]'h).toNat : Int) := by simp [byteAt, h]
theorem byteAt_bounds (s : ByteArray) (p : Nat) : 0 ≤ byteAt s p ∧ byteAt s p < 256 := by
 unfold byteAt
 split
 · rename_i h
   have : (s[p]'h).toNat < 256 := UInt8.toNat_lt _; omega
 · omega
def nextR (s : ByteArray) (p : Nat) : Int := if p < s.size then (if byteAt s p < 128 then -1 else if 191 < byteAt s p then -1 else byteAt s p - 128) else -1
theorem next140 (s : ByteArray) (p : Nat) (w : World) :
 Calls Tryz.prog 166 #[.string s, .int .i64 p] w fun e w' => e = .returned (.int .i64 (nextR s p)) ∧ Below w.heap.size w w' := by
 generalize hR : nextR s p = R
 have HR := Lib.hid hR
 clear hR
 by_cases hp : p < s.size
 · have hpI : ¬ (s.size : Int) ≤ p := by omega
   have hw := byteAt_in hp; have hb : 0 ≤ byteAt s p ∧ byteAt s p < 256 := byteAt_bounds s p; have hre : (if byteAt s p < 128 then -1 else if 191 < byteAt s p then -1 else byteAt s p - 128) = R := by rw [← HR.out]; simp [nextR, hp]
   clear HR; rw [hw] at hre hb; clear hw; by_cases h1 : ((s[p].toNat : Nat) : Int) < 128
   · rw [if_pos h1] at hre; subst hre
     go_enter Tryz.func166, Tryz.ntmps166
     go_wp2_with fail; exact bodyPost_ret (v := .int .i64 (-1)) (by simp [results, Tryz.results166, go_sem]) rfl ⟨rfl, bel _ _⟩
   · rw [if_neg h1] at hre; by_cases h2 : (191 : Int) < ((s[p].toNat : Nat) : Int)
     · rw [if_pos h2] at hre; subst hre
       go_enter Tryz.func166, Tryz.ntmps166
       go_wp2_with fail; exact bodyPost_ret (v := .int .i64 (-1)) (by simp [results, Tryz.results166, go_sem]) rfl ⟨rfl, bel _ _⟩
     · rw [if_neg h2] at hre; subst hre
       go_enter Tryz.func166, Tryz.ntmps166
       go_wp2_with fail; refine bodyPost_ret (v := .int .i64 ((s[p].toNat : Nat) - 128)) (by simp [results, Tryz.results166, go_sem]) rfl ⟨rfl, bel _ _⟩
 · have hpI : (s.size : Int) ≤ p := by omega
   have hre : -1 = R := by rw [← HR.out]; simp [nextR, hp]
   subst hre
   go_enter Tryz.func166, Tryz.ntmps166
   go_wp2_with fail; exact bodyPost_ret (v := .int .i64 (-1)) (by simp [results, Tryz.results166, go_sem]) rfl ⟨rfl, bel _ _⟩
def rune1B (c a b d : Int) : Int × Int :=
 if c < 128 then (c, 1)
 else if 194 ≤ c ∧ c ≤ 223 ∧ 0 ≤ a then ((c - 192) * 64 + a, 2)
 else if 224 ≤ c ∧ c ≤ 239 ∧ 0 ≤ a ∧ 0 ≤ b then
  (if 2048 ≤ (c - 224) * 4096 + a * 64 + b ∧ ((c - 224) * 4096 + a * 64 + b < 55296 ∨ 57343 < (c - 224) * 4096 + a * 64 + b) then ((c - 224) * 4096 + a * 64 + b, 3) else (65533, 0))
 else if 240 ≤ c ∧ c ≤ 244 ∧ 0 ≤ a ∧ 0 ≤ b ∧ 0 ≤ d then
  (if 65536 ≤ (c - 240) * 262144 + a * 4096 + b * 64 + d ∧ (c - 240) * 262144 + a * 4096 + b * 64 + d ≤ 1114111 then ((c - 240) * 262144 + a * 4096 + b * 64 + d, 4) else (65533, 0))
 else (65533, 0)
def rune1R (s : ByteArray) (p : Nat) : Int × Int := rune1B (byteAt s p) (nextR s (p + 1)) (nextR s (p + 2)) (nextR s (p + 3))
theorem nextR_bounds (s : ByteArray) (p : Nat) : -1 ≤ nextR s p ∧ nextR s p ≤ 63 := by
 have := byteAt_bounds s p
 unfold nextR
 split
 · split
   · omega
   · split <;> omega
 · omega
set_option maxRecDepth 100000 in
set_option maxHeartbeats 4000000 in
theorem rune93 (s : ByteArray) (p : Nat) (hp : p < s.size) (hs : s.size ≤ 1000000000000) (w : World) :
 Calls Tryz.prog 120 #[.string s, .int .i64 p] w fun e w' => e = .returned (.tuple #[.int .i64 (rune1R s p).1, .int .i64 (rune1R s p).2]) ∧ Below w.heap.size w w' := by
 obtain ⟨R, hR⟩ : ∃ R, rune1R s p = R := ⟨_, rfl⟩
 rw [hR]
 unfold rune1R at hR
 rw [byteAt_in hp] at hR
 have hn1 : ∀ ww, Calls Tryz.prog 166 #[.string s, .int .i64 ((p : Int) + 1)] ww fun e w' => e = .returned (.int .i64 (nextR s (p + 1))) ∧ Below ww.heap.size ww w' := fun ww => by simpa using next140 s (p + 1) ww
 have hn2 : ∀ ww, Calls Tryz.prog 166 #[.string s, .int .i64 ((p : Int) + 2)] ww fun e w' => e = .returned (.int .i64 (nextR s (p + 2))) ∧ Below ww.heap.size ww w' := fun ww => by simpa using next140 s (p + 2) ww
 have hn3 : ∀ ww, Calls Tryz.prog 166 #[.string s, .int .i64 ((p : Int) + 3)] ww fun e w' => e = .returned (.int .i64 (nextR s (p + 3))) ∧ Below ww.heap.size ww w' := fun ww => by simpa using next140 s (p + 3) ww
 have ba := nextR_bounds s (p + 1)
 have bb := nextR_bounds s (p + 2)
 have bd := nextR_bounds s (p + 3)
 generalize nextR s (p + 1) = a at hR hn1 ba
 generalize nextR s (p + 2) = b at hR hn2 bb
 generalize nextR s (p + 3) = d at hR hn3 bd
 have w1 : IntKind.i64.wrap ((p : Int) + 1) = (p : Int) + 1 := I64.wrap ⟨by omega, by omega⟩
 have w2 : IntKind.i64.wrap ((p : Int) + 2) = (p : Int) + 2 := I64.wrap ⟨by omega, by omega⟩
 have w3 : IntKind.i64.wrap ((p : Int) + 3) = (p : Int) + 3 := I64.wrap ⟨by omega, by omega⟩
 have hc : (s[p].toNat : Int) < 256 := by have := UInt8.toNat_lt s[p]; omega
 obtain ⟨c, ec⟩ : ∃ c : Int, (s[p].toNat : Int) = c := ⟨_, rfl⟩
 have hc0 : 0 ≤ c := by omega
 rw [ec] at hR hc
 have HR := Lib.hid hR
 clear hR
 go_enter Tryz.func120, Tryz.ntmps120
 go_upto_region 3 with (first | (go_at_call 166; with_reducible refine (hn1 _).mono ?_; rintro e w' ⟨rfl, hb⟩; obtain ⟨p, rfl⟩ := hb.rest; clear hb) | (go_at_call 166; with_reducible refine (hn2 _).mono ?_; rintro e w' ⟨rfl, hb⟩; obtain ⟨p, rfl⟩ := hb.rest; clear hb) | (go_at_call 166; with_reducible refine (hn3 _).mono ?_; rintro e w' ⟨rfl, hb⟩; obtain ⟨p, rfl⟩ := hb.rest; clear hb))
 have hcs : c < 128 ∨ (128 ≤ c ∧ c < 194) ∨ (194 ≤ c ∧ c < 224) ∨ (224 ≤ c ∧ c < 240) ∨ (240 ≤ c ∧ c < 245) ∨ 245 ≤ c := by omega
 clear ec hn1 hn2 hn3 w1 w2 w3
 rcases hcs with hcs | hcs | hcs | hcs | hcs | hcs
 · have f0 : c < 128 := by omega
   have f1 : ¬ 194 ≤ c := by omega
   have f2 : c ≤ 223 := by omega
   have f3 : ¬ 224 ≤ c := by omega
   have f4 : c ≤ 239 := by omega
   have f5 : ¬ 240 ≤ c := by omega
   have f6 : c ≤ 244 := by omega
   have hre : (c, (1 : Int)) = R := by rw [← HR.out]; unfold rune1B; simp (config := { zeta := true }) only [*]; simp [*]
   subst hre; clear HR; go_wp2_with fail; exact bodyPost_ret (v := .tuple #[.int .i64 (c), .int .i64 1]) (by simp [results, Tryz.results120, go_sem]) rfl ⟨rfl, bel _ _⟩
 · have f0 : ¬ c < 128 := by omega
   have f1 : ¬ 194 ≤ c := by omega
   have f2 : c ≤ 223 := by omega
   have f3 : ¬ 224 ≤ c := by omega
   have f4 : c ≤ 239 := by omega
   have f5 : ¬ 240 ≤ c := by omega
   have f6 : c ≤ 244 := by omega
   have hre : (65533, (0 : Int)) = R := by rw [← HR.out]; unfold rune1B; simp (config := { zeta := true }) only [*]; simp [*]
   subst hre; clear HR; go_wp2_with fail; exact bodyPost_ret (v := .tuple #[.int .i64 (65533), .int .i64 0]) (by simp [results, Tryz.results120, go_sem]) rfl ⟨rfl, bel _ _⟩
 · by_cases ha : 0 ≤ a
   · have f0 : ¬ c < 128 := by omega
     have f1 : 194 ≤ c := by omega
     have f2 : c ≤ 223 := by omega
     have f3 : ¬ 224 ≤ c := by omega
     have f4 : c ≤ 239 := by omega
     have f5 : ¬ 240 ≤ c := by omega
     have f6 : c ≤ 244 := by omega
     have f7 : 0 ≤ a := by omega
     have g0 : IntKind.i64.wrap (c - 192) = c - 192 := I64.wrap ⟨by omega, by omega⟩; have g1 : IntKind.i64.wrap ((c - 192) * 64) = (c - 192) * 64 := I64.wrap ⟨by omega, by omega⟩; have g2 : IntKind.i64.wrap ((c - 192) * 64 + a) = (c - 192) * 64 + a := I64.wrap ⟨by omega, by omega⟩; have hre : ((c - 192) * 64 + a, (2 : Int)) = R := by rw [← HR.out]; unfold rune1B; simp (config := { zeta := true }) only [*]; simp [*]
     subst hre; clear HR; go_wp2_with fail; exact bodyPost_ret (v := .tuple #[.int .i64 ((c - 192) * 64 + a), .int .i64 2]) (by simp [results, Tryz.results120, go_sem]) rfl ⟨rfl, bel _ _⟩
   · have f0 : ¬ c < 128 := by omega
     have f1 : 194 ≤ c := by omega
     have f2 : c ≤ 223 := by omega
     have f3 : ¬ 224 ≤ c := by omega
     have f4 : c ≤ 239 := by omega
     have f5 : ¬ 240 ≤ c := by omega
     have f6 : c ≤ 244 := by omega
     have f7 : ¬ 0 ≤ a := by omega
     have hre : (65533, (0 : Int)) = R := by rw [← HR.out]; unfold rune1B; simp (config := { zeta := true }) only [*]; simp [*]
     subst hre; clear HR; go_wp2_with fail; exact bodyPost_ret (v := .tuple #[.int .i64 (65533), .int .i64 0]) (by simp [results, Tryz.results120, go_sem]) rfl ⟨rfl, bel _ _⟩
 · by_cases ha : 0 ≤ a
   · by_cases hb : 0 ≤ b
     · have hrs : (¬ 2048 ≤ (c - 224) * 4096 + a * 64 + b) ∨ (2048 ≤ (c - 224) * 4096 + a * 64 + b ∧ (c - 224) * 4096 + a * 64 + b < 55296) ∨ (55296 ≤ (c - 224) * 4096 + a * 64 + b ∧ (c - 224) * 4096 + a * 64 + b ≤ 57343) ∨ 57343 < (c - 224) * 4096 + a * 64 + b := by omega
       rcases hrs with hrs | hrs | hrs | hrs
       · have f0 : ¬ c < 128 := by omega
         have f1 : 194 ≤ c := by omega
         have f2 : ¬ c ≤ 223 := by omega
         have f3 : 224 ≤ c := by omega
         have f4 : c ≤ 239 := by omega
         have f5 : ¬ 240 ≤ c := by omega
         have f6 : c ≤ 244 := by omega
         have f7 : 0 ≤ a := by omega
         have f8 : 0 ≤ b := by omega
         have f9 : ¬ 2048 ≤ (c - 224) * 4096 + a * 64 + b := by omega
         have g0 : IntKind.i64.wrap (c - 224) = c - 224 := I64.wrap ⟨by omega, by omega⟩; have g1 : IntKind.i64.wrap ((c - 224) * 4096) = (c - 224) * 4096 := I64.wrap ⟨by omega, by omega⟩; have g2 : IntKind.i64.wrap (a * 64) = a * 64 := I64.wrap ⟨by omega, by omega⟩; have g3 : IntKind.i64.wrap ((c - 224) * 4096 + a * 64) = (c - 224) * 4096 + a * 64 := I64.wrap ⟨by omega, by omega⟩; have g4 : IntKind.i64.wrap ((c - 224) * 4096 + a * 64 + b) = (c - 224) * 4096 + a * 64 + b := I64.wrap ⟨by omega, by omega⟩; have hre : (65533, (0 : Int)) = R := by rw [← HR.out]; unfold rune1B; simp (config := { zeta := true }) only [*]; simp [*]
         subst hre; clear HR; go_wp2_with fail; exact bodyPost_ret (v := .tuple #[.int .i64 (65533), .int .i64 0]) (by simp [results, Tryz.results120, go_sem]) rfl ⟨rfl, bel _ _⟩
       · have f0 : ¬ c < 128 := by omega
         have f1 : 194 ≤ c := by omega
         have f2 : ¬ c ≤ 223 := by omega
         have f3 : 224 ≤ c := by omega
         have f4 : c ≤ 239 := by omega
         have f5 : ¬ 240 ≤ c := by omega
         have f6 : c ≤ 244 := by omega
         have f7 : 0 ≤ a := by omega
         have f8 : 0 ≤ b := by omega
         have f9 : 2048 ≤ (c - 224) * 4096 + a * 64 + b := by omega
         have f10 : (c - 224) * 4096 + a * 64 + b < 55296 := by omega
         have g0 : IntKind.i64.wrap (c - 224) = c - 224 := I64.wrap ⟨by omega, by omega⟩; have g1 : IntKind.i64.wrap ((c - 224) * 4096) = (c - 224) * 4096 := I64.wrap ⟨by omega, by omega⟩; have g2 : IntKind.i64.wrap (a * 64) = a * 64 := I64.wrap ⟨by omega, by omega⟩; have g3 : IntKind.i64.wrap ((c - 224) * 4096 + a * 64) = (c - 224) * 4096 + a * 64 := I64.wrap ⟨by omega, by omega⟩; have g4 : IntKind.i64.wrap ((c - 224) * 4096 + a * 64 + b) = (c - 224) * 4096 + a * 64 + b := I64.wrap ⟨by omega, by omega⟩; have hre : ((c - 224) * 4096 + a * 64 + b, (3 : Int)) = R := by rw [← HR.out]; unfold rune1B; simp (config := { zeta := true }) only [*]; simp [*]
         subst hre; clear HR; go_wp2_with fail; exact bodyPost_ret (v := .tuple #[.int .i64 ((c - 224) * 4096 + a * 64 + b), .int .i64 3]) (by simp [results, Tryz.results120, go_sem]) rfl ⟨rfl, bel _ _⟩
       · have f0 : ¬ c < 128 := by omega
         have f1 : 194 ≤ c := by omega
         have f2 : ¬ c ≤ 223 := by omega
         have f3 : 224 ≤ c := by omega
         have f4 : c ≤ 239 := by omega
         have f5 : ¬ 240 ≤ c := by omega
         have f6 : c ≤ 244 := by omega
         have f7 : 0 ≤ a := by omega
         have f8 : 0 ≤ b := by omega
         have f9 : 2048 ≤ (c - 224) * 4096 + a * 64 + b := by omega
         have f10 : ¬ (c - 224) * 4096 + a * 64 + b < 55296 := by omega
         have f11 : ¬ 57343 < (c - 224) * 4096 + a * 64 + b := by omega
         have g0 : IntKind.i64.wrap (c - 224) = c - 224 := I64.wrap ⟨by omega, by omega⟩; have g1 : IntKind.i64.wrap ((c - 224) * 4096) = (c - 224) * 4096 := I64.wrap ⟨by omega, by omega⟩; have g2 : IntKind.i64.wrap (a * 64) = a * 64 := I64.wrap ⟨by omega, by omega⟩; have g3 : IntKind.i64.wrap ((c - 224) * 4096 + a * 64) = (c - 224) * 4096 + a * 64 := I64.wrap ⟨by omega, by omega⟩; have g4 : IntKind.i64.wrap ((c - 224) * 4096 + a * 64 + b) = (c - 224) * 4096 + a * 64 + b := I64.wrap ⟨by omega, by omega⟩; have hre : (65533, (0 : Int)) = R := by rw [← HR.out]; unfold rune1B; simp (config := { zeta := true }) only [*]; simp [*]
         subst hre; clear HR; go_wp2_with fail; exact bodyPost_ret (v := .tuple #[.int .i64 (65533), .int .i64 0]) (by simp [results, Tryz.results120, go_sem]) rfl ⟨rfl, bel _ _⟩
       · have f0 : ¬ c < 128 := by omega
         have f1 : 194 ≤ c := by omega
         have f2 : ¬ c ≤ 223 := by omega
         have f3 : 224 ≤ c := by omega
         have f4 : c ≤ 239 := by omega
         have f5 : ¬ 240 ≤ c := by omega
         have f6 : c ≤ 244 := by omega
         have f7 : 0 ≤ a := by omega
         have f8 : 0 ≤ b := by omega
         have f9 : 2048 ≤ (c - 224) * 4096 + a * 64 + b := by omega
         have f10 : ¬ (c - 224) * 4096 + a * 64 + b < 55296 := by omega
         have f11 : 57343 < (c - 224) * 4096 + a * 64 + b := by omega
         have g0 : IntKind.i64.wrap (c - 224) = c - 224 := I64.wrap ⟨by omega, by omega⟩; have g1 : IntKind.i64.wrap ((c - 224) * 4096) = (c - 224) * 4096 := I64.wrap ⟨by omega, by omega⟩; have g2 : IntKind.i64.wrap (a * 64) = a * 64 := I64.wrap ⟨by omega, by omega⟩; have g3 : IntKind.i64.wrap ((c - 224) * 4096 + a * 64) = (c - 224) * 4096 + a * 64 := I64.wrap ⟨by omega, by omega⟩; have g4 : IntKind.i64.wrap ((c - 224) * 4096 + a * 64 + b) = (c - 224) * 4096 + a * 64 + b := I64.wrap ⟨by omega, by omega⟩; have hre : ((c - 224) * 4096 + a * 64 + b, (3 : Int)) = R := by rw [← HR.out]; unfold rune1B; simp (config := { zeta := true }) only [*]; simp [*]
         subst hre; clear HR; go_wp2_with fail; exact bodyPost_ret (v := .tuple #[.int .i64 ((c - 224) * 4096 + a * 64 + b), .int .i64 3]) (by simp [results, Tryz.results120, go_sem]) rfl ⟨rfl, bel _ _⟩
     · have f0 : ¬ c < 128 := by omega
       have f1 : 194 ≤ c := by omega
       have f2 : ¬ c ≤ 223 := by omega
       have f3 : 224 ≤ c := by omega
       have f4 : c ≤ 239 := by omega
       have f5 : ¬ 240 ≤ c := by omega
       have f6 : c ≤ 244 := by omega
       have f7 : 0 ≤ a := by omega
       have f8 : ¬ 0 ≤ b := by omega
       have hre : (65533, (0 : Int)) = R := by rw [← HR.out]; unfold rune1B; simp (config := { zeta := true }) only [*]; simp [*]
       subst hre; clear HR; go_wp2_with fail; exact bodyPost_ret (v := .tuple #[.int .i64 (65533), .int .i64 0]) (by simp [results, Tryz.results120, go_sem]) rfl ⟨rfl, bel _ _⟩
   · have f0 : ¬ c < 128 := by omega
     have f1 : 194 ≤ c := by omega
     have f2 : ¬ c ≤ 223 := by omega
     have f3 : 224 ≤ c := by omega
     have f4 : c ≤ 239 := by omega
     have f5 : ¬ 240 ≤ c := by omega
     have f6 : c ≤ 244 := by omega
     have f7 : ¬ 0 ≤ a := by omega
     have hre : (65533, (0 : Int)) = R := by rw [← HR.out]; unfold rune1B; simp (config := { zeta := true }) only [*]; simp [*]
     subst hre; clear HR; go_wp2_with fail; exact bodyPost_ret (v := .tuple #[.int .i64 (65533), .int .i64 0]) (by simp [results, Tryz.results120, go_sem]) rfl ⟨rfl, bel _ _⟩
 · by_cases ha : 0 ≤ a
   · by_cases hb : 0 ≤ b
     · by_cases hd : 0 ≤ d
       · have hrs : (¬ 65536 ≤ (c - 240) * 262144 + a * 4096 + b * 64 + d) ∨ (65536 ≤ (c - 240) * 262144 + a * 4096 + b * 64 + d ∧ (c - 240) * 262144 + a * 4096 + b * 64 + d ≤ 1114111) ∨ (65536 ≤ (c - 240) * 262144 + a * 4096 + b * 64 + d ∧ ¬ (c - 240) * 262144 + a * 4096 + b * 64 + d ≤ 1114111) := by omega
         rcases hrs with hrs | hrs | hrs
         · have f0 : ¬ c < 128 := by omega
           have f1 : 194 ≤ c := by omega
           have f2 : ¬ c ≤ 223 := by omega
           have f3 : 224 ≤ c := by omega
           have f4 : ¬ c ≤ 239 := by omega
           have f5 : 240 ≤ c := by omega
           have f6 : c ≤ 244 := by omega
           have f7 : 0 ≤ a := by omega
           have f8 : 0 ≤ b := by omega
           have f9 : 0 ≤ d := by omega
           have f10 : ¬ 65536 ≤ (c - 240) * 262144 + a * 4096 + b * 64 + d := by omega
           have g0 : IntKind.i64.wrap (c - 240) = c - 240 := I64.wrap ⟨by omega, by omega⟩; have g1 : IntKind.i64.wrap ((c - 240) * 262144) = (c - 240) * 262144 := I64.wrap ⟨by omega, by omega⟩; have g2 : IntKind.i64.wrap (a * 4096) = a * 4096 := I64.wrap ⟨by omega, by omega⟩; have g3 : IntKind.i64.wrap (b * 64) = b * 64 := I64.wrap ⟨by omega, by omega⟩; have g4 : IntKind.i64.wrap ((c - 240) * 262144 + a * 4096) = (c - 240) * 262144 + a * 4096 := I64.wrap ⟨by omega, by omega⟩; have g5 : IntKind.i64.wrap ((c - 240) * 262144 + a * 4096 + b * 64) = (c - 240) * 262144 + a * 4096 + b * 64 := I64.wrap ⟨by omega, by omega⟩; have g6 : IntKind.i64.wrap ((c - 240) * 262144 + a * 4096 + b * 64 + d) = (c - 240) * 262144 + a * 4096 + b * 64 + d := I64.wrap ⟨by omega, by omega⟩; have hre : (65533, (0 : Int)) = R := by rw [← HR.out]; unfold rune1B; simp (config := { zeta := true }) only [*]; simp [*]
           subst hre; clear HR; go_wp2_with fail; exact bodyPost_ret (v := .tuple #[.int .i64 (65533), .int .i64 0]) (by simp [results, Tryz.results120, go_sem]) rfl ⟨rfl, bel _ _⟩
         · have f0 : ¬ c < 128 := by omega
           have f1 : 194 ≤ c := by omega
           have f2 : ¬ c ≤ 223 := by omega
           have f3 : 224 ≤ c := by omega
           have f4 : ¬ c ≤ 239 := by omega
           have f5 : 240 ≤ c := by omega
           have f6 : c ≤ 244 := by omega
           have f7 : 0 ≤ a := by omega
           have f8 : 0 ≤ b := by omega
           have f9 : 0 ≤ d := by omega
           have f10 : 65536 ≤ (c - 240) * 262144 + a * 4096 + b * 64 + d := by omega
           have f11 : (c - 240) * 262144 + a * 4096 + b * 64 + d ≤ 1114111 := by omega
           have g0 : IntKind.i64.wrap (c - 240) = c - 240 := I64.wrap ⟨by omega, by omega⟩; have g1 : IntKind.i64.wrap ((c - 240) * 262144) = (c - 240) * 262144 := I64.wrap ⟨by omega, by omega⟩; have g2 : IntKind.i64.wrap (a * 4096) = a * 4096 := I64.wrap ⟨by omega, by omega⟩; have g3 : IntKind.i64.wrap (b * 64) = b * 64 := I64.wrap ⟨by omega, by omega⟩; have g4 : IntKind.i64.wrap ((c - 240) * 262144 + a * 4096) = (c - 240) * 262144 + a * 4096 := I64.wrap ⟨by omega, by omega⟩; have g5 : IntKind.i64.wrap ((c - 240) * 262144 + a * 4096 + b * 64) = (c - 240) * 262144 + a * 4096 + b * 64 := I64.wrap ⟨by omega, by omega⟩; have g6 : IntKind.i64.wrap ((c - 240) * 262144 + a * 4096 + b * 64 + d) = (c - 240) * 262144 + a * 4096 + b * 64 + d := I64.wrap ⟨by omega, by omega⟩; have hre : ((c - 240) * 262144 + a * 4096 + b * 64 + d, (4 : Int)) = R := by rw [← HR.out]; unfold rune1B; simp (config := { zeta := true }) only [*]; simp [*]
           subst hre; clear HR; go_wp2_with fail; exact bodyPost_ret (v := .tuple #[.int .i64 ((c - 240) * 262144 + a * 4096 + b * 64 + d), .int .i64 4]) (by simp [results, Tryz.results120, go_sem]) rfl ⟨rfl, bel _ _⟩
         · have f0 : ¬ c < 128 := by omega
           have f1 : 194 ≤ c := by omega
           have f2 : ¬ c ≤ 223 := by omega
           have f3 : 224 ≤ c := by omega
           have f4 : ¬ c ≤ 239 := by omega
           have f5 : 240 ≤ c := by omega
           have f6 : c ≤ 244 := by omega
           have f7 : 0 ≤ a := by omega
           have f8 : 0 ≤ b := by omega
           have f9 : 0 ≤ d := by omega
           have f10 : 65536 ≤ (c - 240) * 262144 + a * 4096 + b * 64 + d := by omega
           have f11 : ¬ (c - 240) * 262144 + a * 4096 + b * 64 + d ≤ 1114111 := by omega
           have g0 : IntKind.i64.wrap (c - 240) = c - 240 := I64.wrap ⟨by omega, by omega⟩; have g1 : IntKind.i64.wrap ((c - 240) * 262144) = (c - 240) * 262144 := I64.wrap ⟨by omega, by omega⟩; have g2 : IntKind.i64.wrap (a * 4096) = a * 4096 := I64.wrap ⟨by omega, by omega⟩; have g3 : IntKind.i64.wrap (b * 64) = b * 64 := I64.wrap ⟨by omega, by omega⟩; have g4 : IntKind.i64.wrap ((c - 240) * 262144 + a * 4096) = (c - 240) * 262144 + a * 4096 := I64.wrap ⟨by omega, by omega⟩; have g5 : IntKind.i64.wrap ((c - 240) * 262144 + a * 4096 + b * 64) = (c - 240) * 262144 + a * 4096 + b * 64 := I64.wrap ⟨by omega, by omega⟩; have g6 : IntKind.i64.wrap ((c - 240) * 262144 + a * 4096 + b * 64 + d) = (c - 240) * 262144 + a * 4096 + b * 64 + d := I64.wrap ⟨by omega, by omega⟩; have hre : (65533, (0 : Int)) = R := by rw [← HR.out]; unfold rune1B; simp (config := { zeta := true }) only [*]; simp [*]
           subst hre; clear HR; go_wp2_with fail; exact bodyPost_ret (v := .tuple #[.int .i64 (65533), .int .i64 0]) (by simp [results, Tryz.results120, go_sem]) rfl ⟨rfl, bel _ _⟩
       · have f0 : ¬ c < 128 := by omega
         have f1 : 194 ≤ c := by omega
         have f2 : ¬ c ≤ 223 := by omega
         have f3 : 224 ≤ c := by omega
         have f4 : ¬ c ≤ 239 := by omega
         have f5 : 240 ≤ c := by omega
         have f6 : c ≤ 244 := by omega
         have f7 : 0 ≤ a := by omega
         have f8 : 0 ≤ b := by omega
         have f9 : ¬ 0 ≤ d := by omega
         have hre : (65533, (0 : Int)) = R := by rw [← HR.out]; unfold rune1B; simp (config := { zeta := true }) only [*]; simp [*]
         subst hre; clear HR; go_wp2_with fail; exact bodyPost_ret (v := .tuple #[.int .i64 (65533), .int .i64 0]) (by simp [results, Tryz.results120, go_sem]) rfl ⟨rfl, bel _ _⟩
     · have f0 : ¬ c < 128 := by omega
       have f1 : 194 ≤ c := by omega
       have f2 : ¬ c ≤ 223 := by omega
       have f3 : 224 ≤ c := by omega
       have f4 : ¬ c ≤ 239 := by omega
       have f5 : 240 ≤ c := by omega
       have f6 : c ≤ 244 := by omega
       have f7 : 0 ≤ a := by omega
       have f8 : ¬ 0 ≤ b := by omega
       have hre : (65533, (0 : Int)) = R := by rw [← HR.out]; unfold rune1B; simp (config := { zeta := true }) only [*]; simp [*]
       subst hre; clear HR; go_wp2_with fail; exact bodyPost_ret (v := .tuple #[.int .i64 (65533), .int .i64 0]) (by simp [results, Tryz.results120, go_sem]) rfl ⟨rfl, bel _ _⟩
   · have f0 : ¬ c < 128 := by omega
     have f1 : 194 ≤ c := by omega
     have f2 : ¬ c ≤ 223 := by omega
     have f3 : 224 ≤ c := by omega
     have f4 : ¬ c ≤ 239 := by omega
     have f5 : 240 ≤ c := by omega
     have f6 : c ≤ 244 := by omega
     have f7 : ¬ 0 ≤ a := by omega
     have hre : (65533, (0 : Int)) = R := by rw [← HR.out]; unfold rune1B; simp (config := { zeta := true }) only [*]; simp [*]
     subst hre; clear HR; go_wp2_with fail; exact bodyPost_ret (v := .tuple #[.int .i64 (65533), .int .i64 0]) (by simp [results, Tryz.results120, go_sem]) rfl ⟨rfl, bel _ _⟩
 · have f0 : ¬ c < 128 := by omega
   have f1 : 194 ≤ c := by omega
   have f2 : ¬ c ≤ 223 := by omega
   have f3 : 224 ≤ c := by omega
   have f4 : ¬ c ≤ 239 := by omega
   have f5 : 240 ≤ c := by omega
   have f6 : ¬ c ≤ 244 := by omega
   have hre : (65533, (0 : Int)) = R := by rw [← HR.out]; unfold rune1B; simp (config := { zeta := true }) only [*]; simp [*]
   subst hre; clear HR; go_wp2_with fail; exact bodyPost_ret (v := .tuple #[.int .i64 (65533), .int .i64 0]) (by simp [results, Tryz.results120, go_sem]) rfl ⟨rfl, bel _ _⟩
end Go.Proofs.YtmkapobnfigedaaGreatDoor
