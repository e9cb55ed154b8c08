/- Part of the proof of a law of chapter 15. Conditions: none. -/
import Derived.Test.YtmkapobnfigedaaGreatDoorDp15
import Derived.Test.YtmkapobnfigedaaGreatDoorDp14
set_option linter.unusedVariables false
set_option linter.unusedSimpArgs false
set_option maxRecDepth 100000
set_option maxHeartbeats 8000000
namespace Go.Proofs.YtmkapobnfigedaaGreatDoor
open Go.RowKit
def byteAt (s : ByteArray) (p : Nat) : Int := if h : p < s.size then ((s[p]'h).toNat : Int) else 0
theorem byteAt_in {s : ByteArray} {p : Nat} (h : p < s.size) : byteAt s p = ((s[p]'h).toNat : Int) := by simp [byteAt, h]
theorem byteAt_bounds (s : ByteArray) (p : Nat) : 0 ≤ byteAt s p ∧ byteAt s p < 256 := by
 unfold byteAt
 split
 · rename_i h
   have : (s[p]'h).toNat < 256 := UInt8.toNat_lt _; omega
 · omega
def nextR (s : ByteArray) (p : Nat) : Int := if p < s.size then (if byteAt s p < 128 then -1 else if 191 < byteAt s p then -1 else byteAt s p - 128) else -1
theorem next140 (s : ByteArray) (p : Nat) (w : World) :
 Calls Tryz.prog 166 #[.string s, .int .i64 p] w fun e w' => e = .returned (.int .i64 (nextR s p)) ∧ Below w.heap.size w w' := by
 generalize hR : nextR s p = R
 have HR := Lib.hid hR
 clear hR
 by_cases hp : p < s.size
 · have hpI : ¬ (s.size : Int) ≤ p := by omega
   have hw := byteAt_in hp; have hb : 0 ≤ byteAt s p ∧ byteAt s p < 256 := byteAt_bounds s p; have hre : (if byteAt s p < 128 then -1 else if 191 < byteAt s p then -1 else byteAt s p - 128) = R := by rw [← HR.out]; simp [nextR, hp]
   clear HR; rw [hw] at hre hb; clear hw; by_cases h1 : ((s[p].toNat : Nat) : Int) < 128
   · rw [if_pos h1] at hre; subst hre
     go_enter Tryz.func166, Tryz.ntmps166
     go_wp2_with fail; exact bodyPost_ret (v := .int .i64 (-1)) (by simp [results, Tryz.results166, go_sem]) rfl ⟨rfl, bel _ _⟩
   · rw [if_neg h1] at hre; by_cases h2 : (191 : Int) < ((s[p].toNat : Nat) : Int)
     · rw [if_pos h2] at hre; subst hre
       go_enter Tryz.func166, Tryz.ntmps166
       go_wp2_with fail; exact bodyPost_ret (v := .int .i64 (-1)) (by simp [results, Tryz.results166, go_sem]) rfl ⟨rfl, bel _ _⟩
     · rw [if_neg h2] at hre; subst hre
       go_enter Tryz.func166, Tryz.ntmps166
       go_wp2_with fail; refine bodyPost_ret (v := .int .i64 ((s[p].toNat : Nat) - 128)) (by simp [results, Tryz.results166, go_sem]) rfl ⟨rfl, bel _ _⟩
 · have hpI : (s.size : Int) ≤ p := by omega
   have hre : -1 = R := by rw [← HR.out]; simp [nextR, hp]
   subst hre
   go_enter Tryz.func166, Tryz.ntmps166
   go_wp2_with fail; exact bodyPost_ret (v := .int .i64 (-1)) (by simp [results, Tryz.results166, go_sem]) rfl ⟨rfl, bel _ _⟩
def rune1B (c a b d : Int) : Int × Int :=
 if c < 128 then (c, 1)
 else if 194 ≤ c ∧ c ≤ 223 ∧ 0 ≤ a then ((c - 192) * 64 + a, 2)
 else if 224 ≤ c ∧ c ≤ 239 ∧ 0 ≤ a ∧ 0 ≤ b then
  (if 2048 ≤ (c - 224) * 4096 + a * 64 + b ∧ ((c - 224) * 4096 + a * 64 + b < 55296 ∨ 57343 < (c - 224) * 4096 + a * 64 + b) then ((c - 224) * 4096 + a * 64 + b, 3) else (65533, 0))
 else if 240 ≤ c ∧ c ≤ 244 ∧ 0 ≤ a ∧ 0 ≤ b ∧ 0 ≤ d then
  (if 65536 ≤ (c - 240) * 262144 + a * 4096 + b * 64 + d ∧ (c - 240) * 262144 + a * 4096 + b * 64 + d ≤ 1114111 then ((c - 240) * 262144 + a * 4096 + b * 64 + d, 4) else (65533, 0))
 else (65533, 0)
def rune1R (s : ByteArray) (p : Nat) : Int × Int := rune1B (byteAt s p) (nextR s (p + 1)) (nextR s (p + 2)) (nextR s (p + 3))
theorem nextR_bounds (s : ByteArray) (p : Nat) : -1 ≤ nextR s p ∧ nextR s p ≤ 63 := by
 have := byteAt_bounds s p
 unfold nextR
 split
 · split
   · omega
   · split <;> omega
 · omega
theorem rune93 (s : ByteArray) (p : Nat) (hp : p < s.size) (hs : s.size ≤ 1000000000000) (w : World) :
 Calls Tryz.prog 120 #[.string s, .int .i64 p] w fun e w' => e = .returned (.tuple #[.int .i64 (rune1R s p).1, .int .i64 (rune1R s p).2]) ∧ Below w.heap.size w w' := by
 obtain ⟨R, hR⟩ : ∃ R, rune1R s p = R := ⟨_, rfl⟩
 rw [hR]
 unfold rune1R at hR
 rw [byteAt_in hp] at hR
 have hn1 : ∀ ww, Calls Tryz.prog 166 #[.string s, .int .i64 ((p : Int) + 1)] ww fun e w' => e = .returned (.int .i64 (nextR s (p + 1))) ∧ Below ww.heap.size ww w' := fun ww => by simpa using next140 s (p + 1) ww
 have hn2 : ∀ ww, Calls Tryz.prog 166 #[.string s, .int .i64 ((p : Int) + 2)] ww fun e w' => e = .returned (.int .i64 (nextR s (p + 2))) ∧ Below ww.heap.size ww w' := fun ww => by simpa using next140 s (p + 2) ww
 have hn3 : ∀ ww, Calls Tryz.prog 166 #[.string s, .int .i64 ((p : Int) + 3)] ww fun e w' => e = .returned (.int .i64 (nextR s (p + 3))) ∧ Below ww.heap.size ww w' := fun ww => by simpa using next140 s (p + 3) ww
 have ba := nextR_bounds s (p + 1)
 have bb := nextR_bounds s (p + 2)
 have bd := nextR_bounds s (p + 3)
 generalize nextR s (p + 1) = a at hR hn1 ba
 generalize nextR s (p + 2) = b at hR hn2 bb
 generalize nextR s (p + 3) = d at hR hn3 bd
 have w1 : IntKind.i64.wrap ((p : Int) + 1) = (p : Int) + 1 := I64.wrap ⟨by omega, by omega⟩
 have w2 : IntKind.i64.wrap ((p : Int) + 2) = (p : Int) + 2 := I64.wrap ⟨by omega, by omega⟩
 have w3 : IntKind.i64.wrap ((p : Int) + 3) = (p : Int) + 3 := I64.wrap ⟨by omega, by omega⟩
 have hc : (s[p].toNat : Int) < 256 := by have := UInt8.toNat_lt s[p]; omega
 obtain ⟨c, ec⟩ : ∃ c : Int, (s[p].toNat : Int) = c := ⟨_, rfl⟩
 have hc0 : 0 ≤ c := by omega
 rw [ec] at hR hc
 have HR := Lib.hid hR
 clear hR
 go_enter Tryz.func120, Tryz.ntmps120
 go_upto_region 3 with (first | (go_at_call 166; with_reducible refine aT (hn1 _) fun p => ?_) | (go_at_call 166; with_reducible refine aT (hn2 _) fun p => ?_) | (go_at_call 166; with_reducible refine aT (hn3 _) fun p => ?_))
 have hcs : c < 128 ∨ (128 ≤ c ∧ c < 194) ∨ (194 ≤ c ∧ c < 224) ∨ (224 ≤ c ∧ c < 240) ∨ (240 ≤ c ∧ c < 245) ∨ 245 ≤ c := by omega
 clear ec hn1 hn2 hn3 w1 w2 w3
 rcases hcs with hcs | hcs | hcs | hcs | hcs | hcs
 · have f0 : c < 128 := by omega
   have f1 : ¬ 194 ≤ c := by omega
   have f2 : c ≤ 223 := by omega
   have f3 : ¬ 224 ≤ c := by omega
   have f4 : c ≤ 239 := by omega
   have f5 : ¬ 240 ≤ c := by omega
   have f6 : c ≤ 244 := by omega
   have hre : (c, (1 : Int)) = R := by rw [← HR.out]; unfold rune1B; simp (config := { zeta := true }) only [*]; simp [*]
   subst hre; clear HR; go_wp2_with fail; exact bodyPost_ret (v := .tuple #[.int .i64 (c), .int .i64 1]) (by simp [results, Tryz.results120, go_sem]) rfl ⟨rfl, bel _ _⟩
 · have f0 : ¬ c < 128 := by omega
   have f1 : ¬ 194 ≤ c := by omega
   have f2 : c ≤ 223 := by omega
   have f3 : ¬ 224 ≤ c := by omega
   have f4 : c ≤ 239 := by omega
   have f5 : ¬ 240 ≤ c := by omega
   have f6 : c ≤ 244 := by omega
   have hre : (65533, (0 : Int)) = R := by rw [← HR.out]; unfold rune1B; simp (config := { zeta := true }) only [*]; simp [*]
   subst hre; clear HR; go_wp2_with fail; exact bodyPost_ret (v := .tuple #[.int .i64 (65533), .int .i64 0]) (by simp [results, Tryz.results120, go_sem]) rfl ⟨rfl, bel _ _⟩
 · by_cases ha : 0 ≤ a
   · have f0 : ¬ c < 128 := by omega
     have f1 : 194 ≤ c := by omega
     have f2 : c ≤ 223 := by omega
     have f3 : ¬ 224 ≤ c := by omega
     have f4 : c ≤ 239 := by omega
     have f5 : ¬ 240 ≤ c := by omega
     have f6 : c ≤ 244 := by omega
     have f7 : 0 ≤ a := by omega
     have g0 : IntKind.i64.wrap (c - 192) = c - 192 := I64.wrap ⟨by omega, by omega⟩; have g1 : IntKind.i64.wrap ((c - 192) * 64) = (c - 192) * 64 := I64.wrap ⟨by omega, by omega⟩; have g2 : IntKind.i64.wrap ((c - 192) * 64 + a) = (c - 192) * 64 + a := I64.wrap ⟨by omega, by omega⟩; have hre : ((c - 192) * 64 + a, (2 : Int)) = R := by rw [← HR.out]; unfold rune1B; simp (config := { zeta := true }) only [*]; simp [*]
     subst hre; clear HR; go_wp2_with fail; exact bodyPost_ret (v := .tuple #[.int .i64 ((c - 192) * 64 + a), .int .i64 2]) (by simp [results, Tryz.results120, go_sem]) rfl ⟨rfl, bel _ _⟩
   · have f0 : ¬ c < 128 := by omega
     have f1 : 194 ≤ c := by omega
     have f2 : c ≤ 223 := by omega
     have f3 : ¬ 224 ≤ c := by omega
     have f4 : c ≤ 239 := by omega
     have f5 : ¬ 240 ≤ c := by omega
     have f6 : c ≤ 244 := by omega
     have f7 : ¬ 0 ≤ a := by omega
     have hre : (65533, (0 : Int)) = R := by rw [← HR.out]; unfold rune1B; simp (config := { zeta := true }) only [*]; simp [*]
     subst hre; clear HR; go_wp2_with fail; exact bodyPost_ret (v := .tuple #[.int .i64 (65533), .int .i64 0]) (by simp [results, Tryz.results120, go_sem]) rfl ⟨rfl, bel _ _⟩
 · by_cases ha : 0 ≤ a
   · by_cases hb : 0 ≤ b
     · have hrs : (¬ 2048 ≤ (c - 224) * 4096 + a * 64 + b) ∨ (2048 ≤ (c - 224) * 4096 + a * 64 + b ∧ (c - 224) * 4096 + a * 64 + b < 55296) ∨ (55296 ≤ (c - 224) * 4096 + a * 64 + b ∧ (c - 224) * 4096 + a * 64 + b ≤ 57343) ∨ 57343 < (c - 224) * 4096 + a * 64 + b := by omega
       rcases hrs with hrs | hrs | hrs | hrs
       · have f0 : ¬ c < 128 := by omega
         have f1 : 194 ≤ c := by omega
         have f2 : ¬ c ≤ 223 := by omega
         have f3 : 224 ≤ c := by omega
         have f4 : c ≤ 239 := by omega
         have f5 : ¬ 240 ≤ c := by omega
         have f6 : c ≤ 244 := by omega
         have f7 : 0 ≤ a := by omega
         have f8 : 0 ≤ b := by omega
         have f9 : ¬ 2048 ≤ (c - 224) * 4096 + a * 64 + b := by omega
         have g0 : IntKind.i64.wrap (c - 224) = c - 224 := I64.wrap ⟨by omega, by omega⟩; have g1 : IntKind.i64.wrap ((c - 224) * 4096) = (c - 224) * 4096 := I64.wrap ⟨by omega, by omega⟩; have g2 : IntKind.i64.wrap (a * 64) = a * 64 := I64.wrap ⟨by omega, by omega⟩; have g3 : IntKind.i64.wrap ((c - 224) * 4096 + a * 64) = (c - 224) * 4096 + a * 64 := I64.wrap ⟨by omega, by omega⟩; have g4 : IntKind.i64.wrap ((c - 224) * 4096 + a * 64 + b) = (c - 224) * 4096 + a * 64 + b := I64.wrap ⟨by omega, by omega⟩; have hre : (65533, (0 : Int)) = R := by rw [← HR.out]; unfold rune1B; simp (config := { zeta := true }) only [*]; simp [*]
         subst hre; clear HR; go_wp2_with fail; exact bodyPost_ret (v := .tuple #[.int .i64 (65533), .int .i64 0]) (by simp [results, Tryz.results120, go_sem]) rfl ⟨rfl, bel _ _⟩
       · have f0 : ¬ c < 128 := by omega
         have f1 : 194 ≤ c := by omega
         have f2 : ¬ c ≤ 223 := by omega
         have f3 : 224 ≤ c := by omega
         have f4 : c ≤ 239 := by omega
         have f5 : ¬ 240 ≤ c := by omega
         have f6 : c ≤ 244 := by omega
         have f7 : 0 ≤ a := by omega
         have f8 : 0 ≤ b := by omega
         have f9 : 2048 ≤ (c - 224) * 4096 + a * 64 + b := by omega
         have f10 : (c - 224) * 4096 + a * 64 + b < 55296 := by omega
         have g0 : IntKind.i64.wrap (c - 224) = c - 224 := I64.wrap ⟨by omega, by omega⟩; have g1 : IntKind.i64.wrap ((c - 224) * 4096) = (c - 224) * 4096 := I64.wrap ⟨by omega, by omega⟩; have g2 : IntKind.i64.wrap (a * 64) = a * 64 := I64.wrap ⟨by omega, by omega⟩; have g3 : IntKind.i64.wrap ((c - 224) * 4096 + a * 64) = (c - 224) * 4096 + a * 64 := I64.wrap ⟨by omega, by omega⟩; have g4 : IntKind.i64.wrap ((c - 224) * 4096 + a * 64 + b) = (c - 224) * 4096 + a * 64 + b := I64.wrap ⟨by omega, by omega⟩; have hre : ((c - 224) * 4096 + a * 64 + b, (3 : Int)) = R := by rw [← HR.out]; unfold rune1B; simp (config := { zeta := true }) only [*]; simp [*]
         subst hre; clear HR; go_wp2_with fail; exact bodyPost_ret (v := .tuple #[.int .i64 ((c - 224) * 4096 + a * 64 + b), .int .i64 3]) (by simp [results, Tryz.results120, go_sem]) rfl ⟨rfl, bel _ _⟩
       · have f0 : ¬ c < 128 := by omega
         have f1 : 194 ≤ c := by omega
         have f2 : ¬ c ≤ 223 := by omega
         have f3 : 224 ≤ c := by omega
         have f4 : c ≤ 239 := by omega
         have f5 : ¬ 240 ≤ c := by omega
         have f6 : c ≤ 244 := by omega
         have f7 : 0 ≤ a := by omega
         have f8 : 0 ≤ b := by omega
         have f9 : 2048 ≤ (c - 224) * 4096 + a * 64 + b := by omega
         have f10 : ¬ (c - 224) * 4096 + a * 64 + b < 55296 := by omega
         have f11 : ¬ 57343 < (c - 224) * 4096 + a * 64 + b := by omega
         have g0 : IntKind.i64.wrap (c - 224) = c - 224 := I64.wrap ⟨by omega, by omega⟩; have g1 : IntKind.i64.wrap ((c - 224) * 4096) = (c - 224) * 4096 := I64.wrap ⟨by omega, by omega⟩; have g2 : IntKind.i64.wrap (a * 64) = a * 64 := I64.wrap ⟨by omega, by omega⟩; have g3 : IntKind.i64.wrap ((c - 224) * 4096 + a * 64) = (c - 224) * 4096 + a * 64 := I64.wrap ⟨by omega, by omega⟩; have g4 : IntKind.i64.wrap ((c - 224) * 4096 + a * 64 + b) = (c - 224) * 4096 + a * 64 + b := I64.wrap ⟨by omega, by omega⟩; have hre : (65533, (0 : Int)) = R := by rw [← HR.out]; unfold rune1B; simp (config := { zeta := true }) only [*]; simp [*]
         subst hre; clear HR; go_wp2_with fail; exact bodyPost_ret (v := .tuple #[.int .i64 (65533), .int .i64 0]) (by simp [results, Tryz.results120, go_sem]) rfl ⟨rfl, bel _ _⟩
       · have f0 : ¬ c < 128 := by omega
         have f1 : 194 ≤ c := by omega
         have f2 : ¬ c ≤ 223 := by omega
         have f3 : 224 ≤ c := by omega
         have f4 : c ≤ 239 := by omega
         have f5 : ¬ 240 ≤ c := by omega
         have f6 : c ≤ 244 := by omega
         have f7 : 0 ≤ a := by omega
         have f8 : 0 ≤ b := by omega
         have f9 : 2048 ≤ (c - 224) * 4096 + a * 64 + b := by omega
         have f10 : ¬ (c - 224) * 4096 + a * 64 + b < 55296 := by omega
         have f11 : 57343 < (c - 224) * 4096 + a * 64 + b := by omega
         have g0 : IntKind.i64.wrap (c - 224) = c - 224 := I64.wrap ⟨by omega, by omega⟩; have g1 : IntKind.i64.wrap ((c - 224) * 4096) = (c - 224) * 4096 := I64.wrap ⟨by omega, by omega⟩; have g2 : IntKind.i64.wrap (a * 64) = a * 64 := I64.wrap ⟨by omega, by omega⟩; have g3 : IntKind.i64.wrap ((c - 224) * 4096 + a * 64) = (c - 224) * 4096 + a * 64 := I64.wrap ⟨by omega, by omega⟩; have g4 : IntKind.i64.wrap ((c - 224) * 4096 + a * 64 + b) = (c - 224) * 4096 + a * 64 + b := I64.wrap ⟨by omega, by omega⟩; have hre : ((c - 224) * 4096 + a * 64 + b, (3 : Int)) = R := by rw [← HR.out]; unfold rune1B; simp (config := { zeta := true }) only [*]; simp [*]
         subst hre; clear HR; go_wp2_with fail; exact bodyPost_ret (v := .tuple #[.int .i64 ((c - 224) * 4096 + a * 64 + b), .int .i64 3]) (by simp [results, Tryz.results120, go_sem]) rfl ⟨rfl, bel _ _⟩
     · have f0 : ¬ c < 128 := by omega
       have f1 : 194 ≤ c := by omega
       have f2 : ¬ c ≤ 223 := by omega
       have f3 : 224 ≤ c := by omega
       have f4 : c ≤ 239 := by omega
       have f5 : ¬ 240 ≤ c := by omega
       have f6 : c ≤ 244 := by omega
       have f7 : 0 ≤ a := by omega
       have f8 : ¬ 0 ≤ b := by omega
       have hre : (65533, (0 : Int)) = R := by rw [← HR.out]; unfold rune1B; simp (config := { zeta := true }) only [*]; simp [*]
       subst hre; clear HR; go_wp2_with fail; exact bodyPost_ret (v := .tuple #[.int .i64 (65533), .int .i64 0]) (by simp [results, Tryz.results120, go_sem]) rfl ⟨rfl, bel _ _⟩
   · have f0 : ¬ c < 128 := by omega
     have f1 : 194 ≤ c := by omega
     have f2 : ¬ c ≤ 223 := by omega
     have f3 : 224 ≤ c := by omega
     have f4 : c ≤ 239 := by omega
     have f5 : ¬ 240 ≤ c := by omega
     have f6 : c ≤ 244 := by omega
     have f7 : ¬ 0 ≤ a := by omega
     have hre : (65533, (0 : Int)) = R := by rw [← HR.out]; unfold rune1B; simp (config := { zeta := true }) only [*]; simp [*]
     subst hre; clear HR; go_wp2_with fail; exact bodyPost_ret (v := .tuple #[.int .i64 (65533), .int .i64 0]) (by simp [results, Tryz.results120, go_sem]) rfl ⟨rfl, bel _ _⟩
 · by_cases ha : 0 ≤ a
   · by_cases hb : 0 ≤ b
     · by_cases hd : 0 ≤ d
       · have hrs : (¬ 65536 ≤ (c - 240) * 262144 + a * 4096 + b * 64 + d) ∨ (65536 ≤ (c - 240) * 262144 + a * 4096 + b * 64 + d ∧ (c - 240) * 262144 + a * 4096 + b * 64 + d ≤ 1114111) ∨ (65536 ≤ (c - 240) * 262144 + a * 4096 + b * 64 + d ∧ ¬ (c - 240) * 262144 + a * 4096 + b * 64 + d ≤ 1114111) := by omega
         rcases hrs with hrs | hrs | hrs
         · have f0 : ¬ c < 128 := by omega
           have f1 : 194 ≤ c := by omega
           have f2 : ¬ c ≤ 223 := by omega
           have f3 : 224 ≤ c := by omega
           have f4 : ¬ c ≤ 239 := by omega
           have f5 : 240 ≤ c := by omega
           have f6 : c ≤ 244 := by omega
           have f7 : 0 ≤ a := by omega
           have f8 : 0 ≤ b := by omega
           have f9 : 0 ≤ d := by omega
           have f10 : ¬ 65536 ≤ (c - 240) * 262144 + a * 4096 + b * 64 + d := by omega
           have g0 : IntKind.i64.wrap (c - 240) = c - 240 := I64.wrap ⟨by omega, by omega⟩; have g1 : IntKind.i64.wrap ((c - 240) * 262144) = (c - 240) * 262144 := I64.wrap ⟨by omega, by omega⟩; have g2 : IntKind.i64.wrap (a * 4096) = a * 4096 := I64.wrap ⟨by omega, by omega⟩; have g3 : IntKind.i64.wrap (b * 64) = b * 64 := I64.wrap ⟨by omega, by omega⟩; have g4 : IntKind.i64.wrap ((c - 240) * 262144 + a * 4096) = (c - 240) * 262144 + a * 4096 := I64.wrap ⟨by omega, by omega⟩; have g5 : IntKind.i64.wrap ((c - 240) * 262144 + a * 4096 + b * 64) = (c - 240) * 262144 + a * 4096 + b * 64 := I64.wrap ⟨by omega, by omega⟩; have g6 : IntKind.i64.wrap ((c - 240) * 262144 + a * 4096 + b * 64 + d) = (c - 240) * 262144 + a * 4096 + b * 64 + d := I64.wrap ⟨by omega, by omega⟩; have hre : (65533, (0 : Int)) = R := by rw [← HR.out]; unfold rune1B; simp (config := { zeta := true }) only [*]; simp [*]
           subst hre; clear HR; go_wp2_with fail; exact bodyPost_ret (v := .tuple #[.int .i64 (65533), .int .i64 0]) (by simp [results, Tryz.results120, go_sem]) rfl ⟨rfl, bel _ _⟩
         · have f0 : ¬ c < 128 := by omega
           have f1 : 194 ≤ c := by omega
           have f2 : ¬ c ≤ 223 := by omega
           have f3 : 224 ≤ c := by omega
           have f4 : ¬ c ≤ 239 := by omega
           have f5 : 240 ≤ c := by omega
           have f6 : c ≤ 244 := by omega
           have f7 : 0 ≤ a := by omega
           have f8 : 0 ≤ b := by omega
           have f9 : 0 ≤ d := by omega
           have f10 : 65536 ≤ (c - 240) * 262144 + a * 4096 + b * 64 + d := by omega
           have f11 : (c - 240) * 262144 + a * 4096 + b * 64 + d ≤ 1114111 := by omega
           have g0 : IntKind.i64.wrap (c - 240) = c - 240 := I64.wrap ⟨by omega, by omega⟩; have g1 : IntKind.i64.wrap ((c - 240) * 262144) = (c - 240) * 262144 := I64.wrap ⟨by omega, by omega⟩; have g2 : IntKind.i64.wrap (a * 4096) = a * 4096 := I64.wrap ⟨by omega, by omega⟩; have g3 : IntKind.i64.wrap (b * 64) = b * 64 := I64.wrap ⟨by omega, by omega⟩; have g4 : IntKind.i64.wrap ((c - 240) * 262144 + a * 4096) = (c - 240) * 262144 + a * 4096 := I64.wrap ⟨by omega, by omega⟩; have g5 : IntKind.i64.wrap ((c - 240) * 262144 + a * 4096 + b * 64) = (c - 240) * 262144 + a * 4096 + b * 64 := I64.wrap ⟨by omega, by omega⟩; have g6 : IntKind.i64.wrap ((c - 240) * 262144 + a * 4096 + b * 64 + d) = (c - 240) * 262144 + a * 4096 + b * 64 + d := I64.wrap ⟨by omega, by omega⟩; have hre : ((c - 240) * 262144 + a * 4096 + b * 64 + d, (4 : Int)) = R := by rw [← HR.out]; unfold rune1B; simp (config := { zeta := true }) only [*]; simp [*]
           subst hre; clear HR; go_wp2_with fail; exact bodyPost_ret (v := .tuple #[.int .i64 ((c - 240) * 262144 + a * 4096 + b * 64 + d), .int .i64 4]) (by simp [results, Tryz.results120, go_sem]) rfl ⟨rfl, bel _ _⟩
         · have f0 : ¬ c < 128 := by omega
           have f1 : 194 ≤ c := by omega
           have f2 : ¬ c ≤ 223 := by omega
           have f3 : 224 ≤ c := by omega
           have f4 : ¬ c ≤ 239 := by omega
           have f5 : 240 ≤ c := by omega
           have f6 : c ≤ 244 := by omega
           have f7 : 0 ≤ a := by omega
           have f8 : 0 ≤ b := by omega
           have f9 : 0 ≤ d := by omega
           have f10 : 65536 ≤ (c - 240) * 262144 + a * 4096 + b * 64 + d := by omega
           have f11 : ¬ (c - 240) * 262144 + a * 4096 + b * 64 + d ≤ 1114111 := by omega
           have g0 : IntKind.i64.wrap (c - 240) = c - 240 := I64.wrap ⟨by omega, by omega⟩; have g1 : IntKind.i64.wrap ((c - 240) * 262144) = (c - 240) * 262144 := I64.wrap ⟨by omega, by omega⟩; have g2 : IntKind.i64.wrap (a * 4096) = a * 4096 := I64.wrap ⟨by omega, by omega⟩; have g3 : IntKind.i64.wrap (b * 64) = b * 64 := I64.wrap ⟨by omega, by omega⟩; have g4 : IntKind.i64.wrap ((c - 240) * 262144 + a * 4096) = (c - 240) * 262144 + a * 4096 := I64.wrap ⟨by omega, by omega⟩; have g5 : IntKind.i64.wrap ((c - 240) * 262144 + a * 4096 + b * 64) = (c - 240) * 262144 + a * 4096 + b * 64 := I64.wrap ⟨by omega, by omega⟩; have g6 : IntKind.i64.wrap ((c - 240) * 262144 + a * 4096 + b * 64 + d) = (c - 240) * 262144 + a * 4096 + b * 64 + d := I64.wrap ⟨by omega, by omega⟩; have hre : (65533, (0 : Int)) = R := by rw [← HR.out]; unfold rune1B; simp (config := { zeta := true }) only [*]; simp [*]
           subst hre; clear HR; go_wp2_with fail; exact bodyPost_ret (v := .tuple #[.int .i64 (65533), .int .i64 0]) (by simp [results, Tryz.results120, go_sem]) rfl ⟨rfl, bel _ _⟩
       · have f0 : ¬ c < 128 := by omega
         have f1 : 194 ≤ c := by omega
         have f2 : ¬ c ≤ 223 := by omega
         have f3 : 224 ≤ c := by omega
         have f4 : ¬ c ≤ 239 := by omega
         have f5 : 240 ≤ c := by omega
         have f6 : c ≤ 244 := by omega
         have f7 : 0 ≤ a := by omega
         have f8 : 0 ≤ b := by omega
         have f9 : ¬ 0 ≤ d := by omega
         have hre : (65533, (0 : Int)) = R := by rw [← HR.out]; unfold rune1B; simp (config := { zeta := true }) only [*]; simp [*]
         subst hre; clear HR; go_wp2_with fail; exact bodyPost_ret (v := .tuple #[.int .i64 (65533), .int .i64 0]) (by simp [results, Tryz.results120, go_sem]) rfl ⟨rfl, bel _ _⟩
     · have f0 : ¬ c < 128 := by omega
       have f1 : 194 ≤ c := by omega
       have f2 : ¬ c ≤ 223 := by omega
       have f3 : 224 ≤ c := by omega
       have f4 : ¬ c ≤ 239 := by omega
       have f5 : 240 ≤ c := by omega
       have f6 : c ≤ 244 := by omega
       have f7 : 0 ≤ a := by omega
       have f8 : ¬ 0 ≤ b := by omega
       have hre : (65533, (0 : Int)) = R := by rw [← HR.out]; unfold rune1B; simp (config := { zeta := true }) only [*]; simp [*]
       subst hre; clear HR; go_wp2_with fail; exact bodyPost_ret (v := .tuple #[.int .i64 (65533), .int .i64 0]) (by simp [results, Tryz.results120, go_sem]) rfl ⟨rfl, bel _ _⟩
   · have f0 : ¬ c < 128 := by omega
     have f1 : 194 ≤ c := by omega
     have f2 : ¬ c ≤ 223 := by omega
     have f3 : 224 ≤ c := by omega
     have f4 : ¬ c ≤ 239 := by omega
     have f5 : 240 ≤ c := by omega
     have f6 : c ≤ 244 := by omega
     have f7 : ¬ 0 ≤ a := by omega
     have hre : (65533, (0 : Int)) = R := by rw [← HR.out]; unfold rune1B; simp (config := { zeta := true }) only [*]; simp [*]
     subst hre; clear HR; go_wp2_with fail; exact bodyPost_ret (v := .tuple #[.int .i64 (65533), .int .i64 0]) (by simp [results, Tryz.results120, go_sem]) rfl ⟨rfl, bel _ _⟩
 · have f0 : ¬ c < 128 := by omega
   have f1 : 194 ≤ c := by omega
   have f2 : ¬ c ≤ 223 := by omega
   have f3 : 224 ≤ c := by omega
   have f4 : ¬ c ≤ 239 := by omega
   have f5 : 240 ≤ c := by omega
   have f6 : ¬ c ≤ 244 := by omega
   have hre : (65533, (0 : Int)) = R := by rw [← HR.out]; unfold rune1B; simp (config := { zeta := true }) only [*]; simp [*]
   subst hre; clear HR; go_wp2_with fail; exact bodyPost_ret (v := .tuple #[.int .i64 (65533), .int .i64 0]) (by simp [results, Tryz.results120, go_sem]) rfl ⟨rfl, bel _ _⟩
theorem rune1R_bounds (s : ByteArray) (p : Nat) : 0 ≤ (rune1R s p).1 ∧ (rune1R s p).1 ≤ 1114111 ∧ 0 ≤ (rune1R s p).2 ∧ (rune1R s p).2 ≤ 4 := by
 have h0 := byteAt_bounds s p
 have h1 := nextR_bounds s (p + 1)
 have h2 := nextR_bounds s (p + 2)
 have h3 := nextR_bounds s (p + 3)
 unfold rune1R
 generalize byteAt s p = c at *
 generalize nextR s (p + 1) = a at *
 generalize nextR s (p + 2) = b at *
 generalize nextR s (p + 3) = d at *
 unfold rune1B
 repeat' split
 all_goals (simp only; omega)
def hashRF (s : ByteArray) : Nat → Nat → Int → Int
 | 0, _, h => h
 | b + 1, p, h => if p < s.size then hashRF s b (p + (max (rune1R s p).2 1).toNat) ((31 * h + (rune1R s p).1) % 4294967296) else h
def hashR (s : ByteArray) : Int := hashRF s s.size 0 7
theorem hashRF_end (s : ByteArray) (b p : Nat) (h : Int) (hp : ¬ p < s.size) : hashRF s b p h = h := by
 cases b with
 | zero => rfl
 | succ b => simp [hashRF, hp]
theorem hashRF_lt (s : ByteArray) : ∀ b p h, 0 ≤ h ∧ h < 4294967296 → 0 ≤ hashRF s b p h ∧ hashRF s b p h < 4294967296
 | 0, _, h, hh => hh
 | b + 1, p, h, hh => by
   unfold hashRF
   split
   · have := rune1R_bounds s p; exact hashRF_lt s b _ _ (by omega)
   · exact hh
theorem hash61 (s : ByteArray) (hs : s.size ≤ 1000000000) (w : World) :
 Calls Tryz.prog 119 #[.string s] w fun e w' => e = .returned (.int .i64 (hashR s)) ∧ Below w.heap.size w w' := by
 obtain ⟨R, hR⟩ : ∃ R, hashR s = R := ⟨_, rfl⟩
 rw [hR]
 unfold hashR at hR
 have HR := Lib.hid hR
 clear hR
 go_enter Tryz.func119, Tryz.ntmps119
 go_wp2_with fail
 go_loopw [3, 4] (fun vh vi wr => ∃ (p b : Nat) (acc : Int), vi = .int .i64 p ∧ vh = .int .i64 acc ∧ 0 ≤ acc ∧ acc < 4294967296 ∧ hashRF s b p acc = R ∧ s.size ≤ p + b ∧ p ≤ s.size + 4 ∧ Below w.heap.size w wr) (fun _ vi _ => (s.size + 4 - intOf vi).toNat)
 case atStart => exact ⟨0, s.size, 7, rfl, rfl, by omega, by omega, HR.out, by omega, by omega, bel _ _⟩
 case round =>
  obtain ⟨p, b, acc, rfl, rfl, ha0, ha1, hre, hbp, hp4, hb⟩ := hrel; have iB : Bel w wr := ⟨hb⟩
  by_cases hp : p < s.size
  · have hpI : (p : Int) < s.size := by omega
    obtain ⟨b', rfl⟩ : ∃ b', b = b' + 1 := ⟨b - 1, by omega⟩
    have hru := fun ww => rune93 s p hp (by omega) ww
    have hrb := rune1R_bounds s p; rw [hashRF, if_pos hp] at hre; generalize hrk : rune1R s p = rk at hre hru hrb; clear hrk; obtain ⟨r, k⟩ := rk; simp only at hrb hre hru; obtain ⟨m, hm⟩ : ∃ m : Nat, max k 1 = m := ⟨(max k 1).toNat, by omega⟩
    have hm1 : 1 ≤ m ∧ m ≤ 4 := by omega
    rw [hm, Int.toNat_natCast] at hre; have w1 : IntKind.i64.wrap (31 * acc) = 31 * acc := I64.wrap ⟨by omega, by omega⟩; have w2 : IntKind.i64.wrap (31 * acc + r) = 31 * acc + r := I64.wrap ⟨by omega, by omega⟩; have w3 : IntKind.i64.wrap ((p : Int) + m) = p + m := I64.wrap ⟨by omega, by omega⟩; have w4 : IntKind.i64.wrap ((31 * acc + r) % 4294967296) = (31 * acc + r) % 4294967296 := I64.wrap ⟨by omega, by omega⟩; have w5 : (31 * acc + r).tmod 4294967296 = (31 * acc + r) % 4294967296 := Int.tmod_eq_emod_of_nonneg (by omega); have HRE := Lib.hid hre; clear hre; go_wp2_with (go_at_call 120; refine aT (hru _) fun pj => ?_)
    go_roundw
    case rel => exact ⟨p + m, b', _, by rfl, rfl, by omega, by omega, HRE.out, by omega, by omega, bel _ _⟩
    case measure => simp [intOf]; omega
  · rw [hashRF_end s b p acc hp] at hre; subst hre; have hpI : ¬ (p : Int) < s.size := by omega
    go_wp2_with fail; exact bodyPost_ret (v := .int .i64 acc) (by simp [results, Tryz.results119, go_sem]) rfl ⟨rfl, bel _ _⟩
def checkRF (s : ByteArray) : Nat → Nat → Bool
 | 0, _ => true
 | b + 1, p => if p < s.size then (if (rune1R s p).2 = 0 ∨ (rune1R s p).1 = 47 ∨ (rune1R s p).1 < 32 ∨ (rune1R s p).1 = 127 then false else checkRF s b (p + (rune1R s p).2.toNat)) else true
def checkR (s : ByteArray) : Int := if 12 < s.size then 801 else if (s.toList.isEmpty || s.toList == [46] || s.toList == [46, 46]) = true then 800 else if checkRF s s.size 0 = true then 0 else 800
theorem checkRF_end (s : ByteArray) (b p : Nat) (hp : ¬ p < s.size) : checkRF s b p = true := by
 cases b with
 | zero => rfl
 | succ b => simp [checkRF, hp]
theorem check52 (s : ByteArray) (w : World) :
 Calls Tryz.prog 90 #[.string s] w fun e w' => e = .returned (.int .i64 (checkR s)) ∧ Below w.heap.size w w' := by
 by_cases hlen : 12 < s.size
 · have hlenI : (12 : Int) < s.size := by omega
   have hM : checkR s = 801 := by simp [checkR, hlen]
   rw [hM]
   go_enter Tryz.func90, Tryz.ntmps90
   go_wp2_with fail; exact bodyPost_ret (v := .int .i64 801) (by simp [results, Tryz.results90, go_sem]) rfl ⟨rfl, bel _ _⟩
 have hlenI : ¬ (12 : Int) < s.size := by omega
 rcases h1 : s.toList.isEmpty with _ | _
 rcases h2 : s.toList == [46] with _ | _
 rcases h3 : s.toList == [46, 46] with _ | _
 · have hM : checkR s = if checkRF s s.size 0 = true then 0 else 800 := by simp only [checkR, if_neg hlen, h1, h2, h3]; rfl
   rw [hM]; obtain ⟨V, hV⟩ : ∃ V : Int, (if checkRF s s.size 0 = true then 0 else 800) = V := ⟨_, rfl⟩
   rw [hV]; obtain ⟨T, hT⟩ : ∃ T, checkRF s s.size 0 = T := ⟨_, rfl⟩
   rw [hT] at hV; have HT := Lib.hid (And.intro hT hV); clear hM hT hV
   go_enter Tryz.func90, Tryz.ntmps90
   go_wp2_with fail
   go_loopw [3] (fun vi wr => ∃ (p b : Nat), vi = .int .i64 p ∧ checkRF s b p = T ∧ s.size ≤ p + b ∧ p ≤ s.size + 4 ∧ Below w.heap.size w wr) (fun vi _ => (s.size + 4 - intOf vi).toNat)
   case atStart => exact ⟨0, s.size, rfl, HT.out.1, by omega, by omega, bel _ _⟩
   case round =>
    obtain ⟨p, b, rfl, hre, hbp, hp4, hb⟩ := hrel; have iB : Bel w wr := ⟨hb⟩
    by_cases hp : p < s.size
    · have hpI : (p : Int) < s.size := by omega
      obtain ⟨b', rfl⟩ : ∃ b', b = b' + 1 := ⟨b - 1, by omega⟩
      have hru := fun ww => rune93 s p hp (by omega) ww
      have hrb := rune1R_bounds s p; rw [checkRF, if_pos hp] at hre; generalize hrk : rune1R s p = rk at hre hru hrb; clear hrk; obtain ⟨r, k⟩ := rk; simp only at hrb hre hru; by_cases hbad : k = 0 ∨ r = 47 ∨ r < 32 ∨ r = 127
      · rw [if_pos hbad] at hre; subst hre; obtain rfl : V = 800 := by have := HT.out.2; simpa using this.symm
        have hcase : k = 0 ∨ ((k == 0) = false ∧ (r == 47) = true) ∨ ((k == 0) = false ∧ (r == 47) = false ∧ r < 32) ∨ ((k == 0) = false ∧ (r == 47) = false ∧ ¬ r < 32 ∧ (r == 127) = true) := by
         by_cases a1 : k = 0
         · exact .inl a1
         by_cases a2 : r = 47
         · exact .inr (.inl ⟨by simpa using a1, by simpa using a2⟩)
         by_cases a3 : r < 32
         · exact .inr (.inr (.inl ⟨by simpa using a1, by simpa using a2, a3⟩))
         · exact .inr (.inr (.inr ⟨by simpa using a1, by simpa using a2, a3, by simp; omega⟩))
        clear hbad HT; rcases hcase with hc | ⟨c1, c2⟩ | ⟨c1, c2, c3⟩ | ⟨c1, c2, c3, c4⟩
        · have c1 : (k == 0) = true := by simpa using hc
          clear hc; go_wp2_with (go_at_call 120; refine aT (hru _) fun pj => ?_)
          exact bodyPost_ret (v := .int .i64 800) (by simp [results, Tryz.results90, go_sem]) rfl ⟨rfl, bel _ _⟩
        all_goals
         go_wp2_with (go_at_call 120; refine aT (hru _) fun pj => ?_)
         exact bodyPost_ret (v := .int .i64 800) (by simp [results, Tryz.results90, go_sem]) rfl ⟨rfl, bel _ _⟩
      · rw [if_neg hbad] at hre; have a1 : (k == 0) = false := by simp; omega
        have a2 : (r == 47) = false := by simp; omega
        have a3 : ¬ r < 32 := by omega
        have a4 : (r == 127) = false := by simp; omega
        have hk : ¬ k = 0 := by omega
        obtain ⟨m, rfl⟩ : ∃ m : Nat, k = m := ⟨k.toNat, by omega⟩
        have hm1 : 1 ≤ m ∧ m ≤ 4 := by omega
        rw [Int.toNat_natCast] at hre; have w3 : IntKind.i64.wrap ((p : Int) + m) = p + m := I64.wrap ⟨by omega, by omega⟩; have HRE := Lib.hid hre; clear hre hbad hk; go_wp2_with (go_at_call 120; refine aT (hru _) fun pj => ?_)
        go_roundw
        case rel => exact ⟨p + m, b', by rfl, HRE.out, by omega, by omega, bel _ _⟩
        case measure => simp [intOf]; omega
    · rw [checkRF_end s b p hp] at hre; subst hre; obtain rfl : V = 0 := by have := HT.out.2; simpa using this.symm
      have hpI : ¬ (p : Int) < s.size := by omega
      go_wp2_with fail; exact bodyPost_ret (v := .int .i64 0) (by simp [results, Tryz.results90, go_sem]) rfl ⟨rfl, bel _ _⟩
 all_goals
  have hM : checkR s = 800 := by simp only [checkR, if_neg hlen]; simp [*]
  rw [hM]
  go_enter Tryz.func90, Tryz.ntmps90
  go_wp2_with fail; exact bodyPost_ret (v := .int .i64 800) (by simp [results, Tryz.results90, go_sem]) rfl ⟨rfl, bel _ _⟩
def belowRF (x y : ByteArray) : Nat → Nat → Bool
 | 0, _ => decide (x.size < y.size)
 | n + 1, p => if p < x.size ∧ p < y.size then (if byteAt x p = byteAt y p then belowRF x y n (p + 1) else decide (byteAt x p < byteAt y p)) else decide (x.size < y.size)
def belowR (x y : ByteArray) : Bool := belowRF x y x.size 0
theorem belowRF_end (x y : ByteArray) (n p : Nat) (hp : ¬ (p < x.size ∧ p < y.size)) : belowRF x y n p = decide (x.size < y.size) := by
 cases n with
 | zero => rfl
 | succ n => rw [belowRF, if_neg hp]
theorem below53 (x y : ByteArray) (hs : x.size ≤ 1000000000000) (w : World) :
 Calls Tryz.prog 81 #[.string x, .string y] w fun e w' => e = .returned (.bool (belowR x y)) ∧ Below w.heap.size w w' := by
 obtain ⟨R, hR⟩ : ∃ R, belowR x y = R := ⟨_, rfl⟩
 rw [hR]
 unfold belowR at hR
 have HR := Lib.hid hR
 clear hR
 go_enter Tryz.func81, Tryz.ntmps81
 go_wp2_with fail
 go_loopw [5] (fun vi wr => ∃ (q b : Nat), vi = .int .i64 q ∧ belowRF x y b q = R ∧ x.size ≤ q + b ∧ q ≤ x.size ∧ Below w.heap.size w wr) (fun vi _ => (x.size - intOf vi).toNat)
 case atStart => exact ⟨0, x.size, rfl, HR.out, by omega, by omega, bel _ _⟩
 case round =>
  obtain ⟨q, b, rfl, hre, hbp, hp4, hb⟩ := hrel; have iB : Bel w wr := ⟨hb⟩
  have hcond : (q < x.size ∧ q < y.size) ∨ ¬ (q < x.size) ∨ (q < x.size ∧ ¬ q < y.size) := by omega
  have hend : ∀ ww, Bel w ww → ¬ (q < x.size ∧ q < y.size) → Ending.returned (.bool (decide ((x.size : Int) < y.size))) = Ending.returned (.bool R) ∧ Below w.heap.size w ww := fun ww hww hn => by
   rw [belowRF_end x y b q hn] at hre; rw [← hre]; exact ⟨by congr 2; by_cases h : x.size < y.size <;> simp [h] <;> omega, hww.below⟩
  rcases hcond with ⟨h1, h2⟩ | h1 | ⟨h1, h2⟩
  · obtain ⟨b', rfl⟩ : ∃ b', b = b' + 1 := ⟨b - 1, by omega⟩
    clear hend; rw [belowRF, if_pos ⟨h1, h2⟩, byteAt_in h1, byteAt_in h2] at hre; have h1I : (q : Int) < x.size := by omega
    have h2I : (q : Int) < y.size := by omega
    have w3 : IntKind.i64.wrap ((q : Int) + 1) = q + 1 := I64.wrap ⟨by omega, by omega⟩; by_cases he : (x[q].toNat : Int) = y[q].toNat
    · rw [if_pos he] at hre; have he1 : ((x[q].toNat : Int) != y[q].toNat) = false := by simpa using he
      have HRE := Lib.hid hre; clear hre he; go_wp2_with fail; refine wp_region_quiet_rest (by kernel_rfl) (by kernel_rfl) ?_
      repeat
       first
        | go_big_quiet_skip
        | (go_big_quiet_want; go_big_quiet_op; first | go_big_quiet_on | (apply Exists.intro; refine ⟨fun _ => ?_, ?_⟩; (focus (fail)); go_big_quiet_on))
      refine QN fun p => ?_; go_wp2_with fail
      go_roundw
      case rel => exact ⟨q + 1, b', by rfl, HRE.out, by omega, by omega, bel _ _⟩
      case measure => simp [intOf]; omega
    · rw [if_neg he] at hre; have he1 : ((x[q].toNat : Int) != y[q].toNat) = true := by simpa using he
      subst hre; go_wp2_with fail; refine wp_region_quiet_rest (by kernel_rfl) (by kernel_rfl) ?_
      repeat
       first
        | go_big_quiet_skip
        | (go_big_quiet_want; go_big_quiet_op; first | go_big_quiet_on | (apply Exists.intro; refine ⟨fun _ => ?_, ?_⟩; (focus (fail)); go_big_quiet_on))
      refine QN fun p => ?_; go_wp2_with fail; refine wp_region_quiet_rest (by kernel_rfl) (by kernel_rfl) ?_
      repeat
       first
        | go_big_quiet_skip
        | (go_big_quiet_want; go_big_quiet_op; first | go_big_quiet_on | (apply Exists.intro; refine ⟨fun _ => ?_, ?_⟩; (focus (fail)); go_big_quiet_on))
      refine QN fun p => ?_; go_wp2_with fail; exact bodyPost_ret (v := .bool (decide ((x[q].toNat : Int) < y[q].toNat))) (by simp [results, Tryz.results81, go_sem]) rfl ⟨rfl, bel _ _⟩
  · have h1I : ¬ (q : Int) < x.size := by omega
    have HE := Lib.hid hend; clear hend hre; go_wp2_with fail; exact bodyPost_ret (v := .bool (decide ((x.size : Int) < y.size))) (by simp [results, Tryz.results81, go_sem]) rfl (HE.out _ ⟨bel _ _⟩ (by omega))
  · have h1I : (q : Int) < x.size := by omega
    have h2I : ¬ (q : Int) < y.size := by omega
    have HE := Lib.hid hend; clear hend hre; go_wp2_with fail; exact bodyPost_ret (v := .bool (decide ((x.size : Int) < y.size))) (by simp [results, Tryz.results81, go_sem]) rfl (HE.out _ ⟨bel _ _⟩ (by omega))
def bucketR (s : ByteArray) : Int := hashR s % 8
theorem bucket35 (s : ByteArray) (hs : s.size ≤ 1000000000) (w : World) :
 Calls Tryz.prog 87 #[.string s] w fun e w' => e = .returned (.int .i64 (bucketR s)) ∧ Below w.heap.size w w' := by
 have hb : 0 ≤ hashR s ∧ hashR s < 4294967296 := hashRF_lt s s.size 0 7 (by omega)
 unfold bucketR
 have h1 := fun ww => hash61 s hs ww
 generalize hashR s = h at *
 have w5 : h.tmod 8 = h % 8 := Int.tmod_eq_emod_of_nonneg (by omega)
 have w6 : IntKind.i64.wrap (h % 8) = h % 8 := I64.wrap ⟨by omega, by omega⟩
 go_enter Tryz.func87, Tryz.ntmps87
 go_wp2_with ((go_at_call 119; refine aT (h1 _) fun p => ?_))
 exact bodyPost_ret (v := .int .i64 (h % 8)) (by simp [results, Tryz.results87, go_sem]) rfl ⟨rfl, bel _ _⟩
def codeR (e : Int) : Int := if e = 0 then 0 else if e = 1101 then 6 else if e = 1102 then 6 else 9
theorem code142 (e : Int) (w : World) :
 Calls Tryz.prog 84 #[.int .i64 e] w fun x w' => x = .returned (.int .i64 (codeR e)) ∧ Below w.heap.size w w' := by
 by_cases h0 : e = 0
 · subst h0
   go_enter Tryz.func84, Tryz.ntmps84
   go_wp2_with fail; exact bodyPost_ret (v := .int .i64 0) (by simp [results, Tryz.results84, go_sem]) rfl ⟨rfl, bel _ _⟩
 have b0 : (e == 0) = false := by simpa using h0
 by_cases h1 : e = 1101
 · subst h1
   go_enter Tryz.func84, Tryz.ntmps84
   go_wp2_with fail; exact bodyPost_ret (v := .int .i64 6) (by simp [results, Tryz.results84, go_sem]) rfl ⟨rfl, bel _ _⟩
 have b1 : (e == 1101) = false := by simpa using h1
 by_cases h2 : e = 1102
 · subst h2
   go_enter Tryz.func84, Tryz.ntmps84
   go_wp2_with fail; exact bodyPost_ret (v := .int .i64 6) (by simp [results, Tryz.results84, go_sem]) rfl ⟨rfl, bel _ _⟩
 have b2 : (e == 1102) = false := by simpa using h2
 have hv : codeR e = 9 := by simp [codeR, h0, h1, h2]
 rw [hv]
 clear h0 h1 h2 hv
 go_enter Tryz.func84, Tryz.ntmps84
 go_wp2_with fail
 exact bodyPost_ret (v := .int .i64 9) (by simp [results, Tryz.results84, go_sem]) rfl ⟨rfl, bel _ _⟩
def atR (S : PSt) (n : Int) : Int := idxM (isNum n) S.ins
theorem atR_bounds (S : PSt) (n : Int) : atR S n = -1 ∨ (0 ≤ atR S n ∧ atR S n < S.ins.length) := idxM_bounds _ _
theorem at51 (S : PSt) (iv ov mv : Value) (n : Int) (w : World) (h : StRead w iv ov mv S) (hlen : S.ins.length ≤ 1000000000) :
 Calls Tryz.prog 85 #[.agg #[iv, ov, mv], .int .i64 n] w fun e w' => e = .returned (.int .i64 (atR S n)) ∧ Below w.heap.size w w' := by
 obtain ⟨ai, ni, ci, ao, no, co, am, nm, cm, rfl, rfl, rfl⟩ := h.slices
 obtain ⟨a, cap, e1, hat⟩ := h.ins_at
 cases e1
 have HA := Lib.hid hat
 clear hat h
 obtain ⟨R, hR⟩ : ∃ R, atR S n = R := ⟨_, rfl⟩
 rw [hR]
 unfold atR idxM at hR
 have HR := Lib.hid hR
 clear hR
 go_enter Tryz.func85, Tryz.ntmps85
 go_wp2_with fail
 go_loopw [5] (fun i wr => ∃ (q : Nat), i = .int .i64 q ∧ q ≤ S.ins.length ∧ idxFrom (isNum n) (S.ins.drop q) q = R ∧ Below w.heap.size w wr ∧ Blk wr w.heap.size #[.slice ai S.ins.length ci, .slice ao no co, .slice am nm cm] 26) (fun i _ => (S.ins.length - intOf i).toNat)
 case atStart => exact ⟨0, rfl, by omega, HR.out, bel _ _, Blk.new w _ 26⟩
 case round =>
  obtain ⟨q, rfl, hq, hre, hb, hblk⟩ := hrel; have iB : Bel w wr := ⟨hb⟩
  have iL := hblk.lt; have s0 := hblk.cell 0; simp at s0; have HB := Lib.hid hblk; clear hblk; by_cases hlt : q < S.ins.length
  · obtain ⟨z, hz⟩ : ∃ z, S.ins[q]? = some z := ⟨_, gE hlt⟩
    obtain ⟨b, off, ev, rfl, iG0, iG, -, -, c0, -, -, -⟩ := HA.out wr hb q z hz; rw [idxFrom_drop _ S.ins q z hz] at hre; have HZ := Lib.hid hre; clear hz hre; rcases hpz : (z.num == n) with _ | _
    · go_wp2_with fail
      go_roundw
      case rel => exact ⟨q + 1, by go_num, by omega, by have := HZ.out; simpa [isNum, hpz] using this, bel _ _, by first | exact HB.out | exact HB.out.alloc _ | exact HB.out.junk _⟩
      case measure => simp [intOf]; omega
    · have hv : R = q := by have := HZ.out; simpa [isNum, hpz] using this.symm
      subst hv; go_wp2_with fail; exact bodyPost_ret (v := .int .i64 q) (by simp [results, Tryz.results85, go_sem]) rfl ⟨rfl, bel _ _⟩
  · rw [idxFrom_end _ S.ins q hlt] at hre; subst hre; go_wp2_with fail; exact bodyPost_ret (v := .int .i64 (-1)) (by simp [results, Tryz.results85, go_sem]) rfl ⟨rfl, bel _ _⟩
def fdL (c f : Int) : List PDesc → Int
 | [] => 0
 | d :: r => if (d.core == c && d.fd == f) = true then d.num else fdL c f r
def fdR (S : PSt) (c f : Int) : Int := fdL c f S.op
theorem fd99 (S : PSt) (iv ov mv : Value) (c f : Int) (w : World) (h : StRead w iv ov mv S) (hlen : S.op.length ≤ 1000000000) :
 Calls Tryz.prog 43 #[.agg #[iv, ov, mv], .int .i64 c, .int .i64 f] w fun e w' => e = .returned (.int .i64 (fdR S c f)) ∧ Below w.heap.size w w' := by
 obtain ⟨ai, ni, ci, ao, no, co, am, nm, cm, rfl, rfl, rfl⟩ := h.slices
 obtain ⟨a, cap, e1, hat⟩ := h.1.at_
 rw [lM] at e1
 cases e1
 have HA := Lib.hid hat
 clear hat h
 obtain ⟨R, hR⟩ : ∃ R, fdR S c f = R := ⟨_, rfl⟩
 rw [hR]
 unfold fdR at hR
 have HR := Lib.hid hR
 clear hR
 go_enter Tryz.func43, Tryz.ntmps43
 go_wp2_with fail
 go_loopw [7] (fun i wr => ∃ (q : Nat), i = .int .i64 q ∧ q ≤ S.op.length ∧ fdL c f (S.op.drop q) = R ∧ Below w.heap.size w wr ∧ Blk wr w.heap.size #[.slice ai ni ci, .slice ao S.op.length co, .slice am nm cm] 26) (fun i _ => (S.op.length - intOf i).toNat)
 case atStart => exact ⟨0, rfl, by omega, HR.out, bel _ _, Blk.new w _ 26⟩
 case round =>
  obtain ⟨q, rfl, hq, hre, hb, hblk⟩ := hrel; have iB : Bel w wr := ⟨hb⟩
  have iL := hblk.lt; have s1 := hblk.cell 1; simp at s1; have HB := Lib.hid hblk; clear hblk; by_cases hlt : q < S.op.length
  · obtain ⟨z, hz⟩ : ∃ z, S.op[q]? = some z := ⟨_, gE hlt⟩
    obtain ⟨b, off, rfl, iG0, iG, hc⟩ := HA.out wr hb q z.cells (by rw [gM, hz]; rfl); have c0 := hc 0 _ rfl; have c1 := hc 1 _ rfl; have c2 := hc 2 _ rfl; rw [Nat.add_zero] at c0; rw [drop_at hz, fdL] at hre; clear hz hc; rcases hpz : (z.core == c) with _ | _
    · rw [hpz, Bool.false_and, if_neg (by decide)] at hre; have HZ := Lib.hid hre; clear hre; go_wp2_with fail
      go_roundw
      case rel => exact ⟨q + 1, by go_num, by omega, HZ.out, bel _ _, HB.out⟩
      case measure => simp [intOf]; omega
    · rcases hpf : (z.fd == f) with _ | _
      · rw [hpf, Bool.and_false, if_neg (by decide)] at hre; have HZ := Lib.hid hre; clear hre; go_wp2_with fail
        go_roundw
        case rel => exact ⟨q + 1, by go_num, by omega, HZ.out, bel _ _, HB.out⟩
        case measure => simp [intOf]; omega
      · rw [hpz, hpf, if_pos (by decide)] at hre; subst hre; go_wp2_with fail; exact bodyPost_ret (v := .int .i64 z.num) (by simp [results, Tryz.results43, go_sem]) rfl ⟨rfl, bel _ _⟩
  · rw [List.drop_of_length_le (by omega)] at hre; obtain rfl : R = 0 := by rw [← hre]; rfl
    go_wp2_with fail; exact bodyPost_ret (v := .int .i64 0) (by simp [results, Tryz.results43, go_sem]) rfl ⟨rfl, bel _ _⟩
def entL (name : ByteArray) : List PEnt → Int
 | [] => 0
 | e :: r => if (e.name.toList == name.toList) = true then e.num else entL name r
def entryR (S : PSt) (dir : Int) (name : ByteArray) : Int := if atR S dir < 0 then 0 else match S.ins[(atR S dir).toNat]? with | some x => entL name x.ents | none => 0
theorem entry95 (S : PSt) (iv ov mv : Value) (dir : Int) (name : ByteArray) (w : World) (h : StRead w iv ov mv S) (hwf : S.wf) :
 Calls Tryz.prog 118 #[.agg #[iv, ov, mv], .int .i64 dir, .string name] w fun e w' => e = .returned (.int .i64 (entryR S dir name)) ∧ Below w.heap.size w w' := by
 have hA : ∀ ww, Below w.heap.size w ww → Calls Tryz.prog 85 #[.agg #[iv, ov, mv], .int .i64 dir] ww fun e w' => e = .returned (.int .i64 (atR S dir)) ∧ Below ww.heap.size ww w' := fun ww hb => at51 S iv ov mv dir ww (h.below hb (Nat.le_refl _)) hwf.1
 obtain ⟨ai, ni, ci, ao, no, co, am, nm, cm, rfl, rfl, rfl⟩ := h.slices
 obtain ⟨a, cap, e1, hat⟩ := h.ins_at2
 cases e1
 have hbd := atR_bounds S dir
 obtain ⟨R, hR⟩ : ∃ R, entryR S dir name = R := ⟨_, rfl⟩
 rw [hR]
 unfold entryR at hR
 generalize atR S dir = K at hA hbd hR
 by_cases hK : K < 0
 · rw [if_pos hK] at hR; subst hR; clear hat h hbd hwf
   go_enter Tryz.func118, Tryz.ntmps118
   go_wp2_with ((go_at_call 85; refine aT (hA _ (bel _ _)) fun p => ?_))
   exact bodyPost_ret (v := .int .i64 0) (by simp [results, Tryz.results118, go_sem]) rfl ⟨rfl, bel _ _⟩
 · rw [if_neg hK] at hR; obtain ⟨k, rfl⟩ : ∃ k : Nat, K = k := ⟨K.toNat, by omega⟩
   have hk : k < S.ins.length := by omega
   obtain ⟨x, hx⟩ : ∃ x, S.ins[k]? = some x := ⟨_, gE hk⟩
   rw [Int.toNat_natCast, hx] at hR; simp only at hR; obtain ⟨b, off, ev, rfl, iG0, ho, her, hc⟩ := hat k x hx; obtain ⟨ae, ce, rfl, hae⟩ := her.at_; rw [lM] at hc; have hel := (hwf.2.2.2.1 x (mG hx)).2.1; have HA := Lib.hid (And.intro hae hc); have HR := Lib.hid hR; clear hat h hbd hwf her hae hc ho hR hx
   go_enter Tryz.func118, Tryz.ntmps118
   go_wp2_with ((go_at_call 85; refine aT (hA _ (bel _ _)) fun p => ?_))
   go_loopw [8] (fun i wr => ∃ (q : Nat), i = .int .i64 q ∧ q ≤ x.ents.length ∧ entL name (x.ents.drop q) = R ∧ Below w.heap.size w wr ∧ Blk wr w.heap.size #[.slice (some ⟨b, off, none⟩) S.ins.length ci, .slice ao no co, .slice am nm cm] 26) (fun i _ => (x.ents.length - intOf i).toNat)
   case atStart => exact ⟨0, rfl, by omega, HR.out, bel _ _, (Blk.new w _ 26).junk _⟩
   case round =>
    obtain ⟨q, rfl, hq, hre, hb, hblk⟩ := hrel; have iB : Bel w wr := ⟨hb⟩
    have iL := hblk.lt; have s0 := hblk.cell 0; simp at s0; obtain ⟨iG, c0, c1, c2, c3⟩ := HA.out.2 wr hb; clear c0 c1 c3; have HB := Lib.hid hblk; clear hblk; by_cases hlt : q < x.ents.length
    · obtain ⟨z, hz⟩ : ∃ z, x.ents[q]? = some z := ⟨_, gE hlt⟩
      obtain ⟨be, oe, rfl, iE0, iE, hce⟩ := HA.out.1 wr hb q z.cells (by rw [gM, hz]; rfl); have e0 := hce 0 _ rfl; have e1 := hce 1 _ rfl; rw [Nat.add_zero] at e0; rw [drop_at hz, entL] at hre; clear hz hce; rcases hpz : (z.name.toList == name.toList) with _ | _
      · rw [hpz, if_neg (by decide)] at hre; have HZ := Lib.hid hre; clear hre; go_wp2_with fail
        go_roundw
        case rel => exact ⟨q + 1, by go_num, by omega, HZ.out, bel _ _, HB.out⟩
        case measure => simp [intOf]; omega
      · rw [hpz, if_pos (by decide)] at hre; subst hre; go_wp2_with fail; exact bodyPost_ret (v := .int .i64 z.num) (by simp [results, Tryz.results118, go_sem]) rfl ⟨rfl, bel _ _⟩
    · rw [List.drop_of_length_le (by omega)] at hre; obtain rfl : R = 0 := by rw [← hre]; rfl
      go_wp2_with fail; exact bodyPost_ret (v := .int .i64 0) (by simp [results, Tryz.results118, go_sem]) rfl ⟨rfl, bel _ _⟩
def givenR (S : PSt) (n : Int) : Bool := if n < 2 then false else match S.made[((n - 2) % 8).toNat]? with | some m => decide ((n - 2) / 8 < m) | none => false
theorem given29 (S : PSt) (iv ov mv : Value) (n : Int) (hn : I64 n) (w : World) (h : StRead w iv ov mv S) (hwf : S.wf) :
 Calls Tryz.prog 60 #[.agg #[iv, ov, mv], .int .i64 n] w fun e w' => e = .returned (.bool (givenR S n)) ∧ Below w.heap.size w w' := by
 obtain ⟨ai, ni, ci, ao, no, co, am, nm, cm, rfl, rfl, rfl⟩ := h.slices
 obtain ⟨a, cap, e1, hat⟩ := h.2.1.at_
 rw [lM] at e1
 cases e1
 have hml := hwf.2.2.1
 obtain ⟨R, hR⟩ : ∃ R, givenR S n = R := ⟨_, rfl⟩
 rw [hR]
 unfold givenR at hR
 clear h hwf
 by_cases h2 : n < 2
 · rw [if_pos h2] at hR; subst hR; clear hat
   go_enter Tryz.func60, Tryz.ntmps60
   go_wp2_with fail; exact bodyPost_ret (v := .bool false) (by simp [results, Tryz.results60, go_sem]) rfl ⟨rfl, bel _ _⟩
 · rw [if_neg h2] at hR; have hn2 := hn.2; have w1 : IntKind.i64.wrap (n - 2) = n - 2 := I64.wrap ⟨by omega, by omega⟩; have w2 : (n - 2).tmod 8 = (n - 2) % 8 := Int.tmod_eq_emod_of_nonneg (by omega); have w3 : (n - 2).tdiv 8 = (n - 2) / 8 := Int.tdiv_eq_ediv_of_nonneg (by omega); obtain ⟨k, hk⟩ : ∃ k : Nat, (n - 2) % 8 = k := ⟨((n - 2) % 8).toNat, by omega⟩
   obtain ⟨d, hd⟩ : ∃ d : Int, (n - 2) / 8 = d := ⟨_, rfl⟩
   have hd64 : IntKind.i64.wrap d = d := I64.wrap ⟨by omega, by omega⟩; have hk8 : k < 8 := by omega
   have hk64 : IntKind.i64.wrap (k : Int) = k := I64.wrap ⟨by omega, by omega⟩; rw [hk, hd, Int.toNat_natCast] at hR; rw [hk] at w2; rw [hd] at w3; clear hk hd; by_cases hlt : k < S.made.length
   · obtain ⟨m, hm⟩ : ∃ m, S.made[k]? = some m := ⟨_, gE hlt⟩
     rw [hm] at hR; simp only at hR; obtain ⟨b, off, rfl, iG0, -, hc⟩ := hat w (bel _ _) k (intCells m) (by rw [gM, hm]; rfl); have c0 := hc 0 _ rfl; rw [Nat.mul_one, Nat.add_zero] at c0; subst hR; clear hc hat hm hn; have hltI : (k : Int) < S.made.length := by omega
     go_enter Tryz.func60, Tryz.ntmps60
     go_wp2_with fail; exact bodyPost_ret (v := .bool (decide (d < m))) (by simp [results, Tryz.results60, go_sem]) rfl ⟨rfl, bel _ _⟩
   · rw [List.getElem?_eq_none (by omega)] at hR; simp only at hR; subst hR; clear hat hn; have hltI : ¬ (k : Int) < S.made.length := by omega
     go_enter Tryz.func60, Tryz.ntmps60
     go_wp2_with fail; exact bodyPost_ret (v := .bool false) (by simp [results, Tryz.results60, go_sem]) rfl ⟨rfl, bel _ _⟩
def lkE (n : Int) : List PEnt → Int → Int
 | [], a => a
 | e :: r, a => lkE n r (if (e.num == n) = true then a + 1 else a)
def lkI (n : Int) : List PIn → Int → Int
 | [], a => a
 | x :: r, a => lkI n r (if x.dir = true then lkE n x.ents a else a)
def linksR (S : PSt) (n : Int) : Int := lkI n S.ins 0
theorem links31 (S : PSt) (iv ov mv : Value) (n : Int) (w : World) (h : StRead w iv ov mv S) (hwf : S.wf) :
 Calls Tryz.prog 62 #[.agg #[iv, ov, mv], .int .i64 n] w fun e w' => e = .returned (.int .i64 (linksR S n)) ∧ Below w.heap.size w w' := by
 obtain ⟨ai, ni, ci, ao, no, co, am, nm, cm, rfl, rfl, rfl⟩ := h.slices
 obtain ⟨a, cap, e1, hat⟩ := h.ins_at2
 cases e1
 have hlen := hwf.1
 have HWF := Lib.hid hwf
 have HAt := Lib.hid hat
 clear hat h hwf
 obtain ⟨R, hR⟩ : ∃ R, linksR S n = R := ⟨_, rfl⟩
 rw [hR]
 unfold linksR at hR
 have HR := Lib.hid hR
 clear hR
 go_enter Tryz.func62, Tryz.ntmps62
 go_wp2_with fail
 go_loopw [5, 6] (fun v i wr => ∃ (q : Nat) (m : Int), i = .int .i64 q ∧ v = .int .i64 m ∧ 0 ≤ m ∧ m ≤ 1000000000 * q ∧ q ≤ S.ins.length ∧ lkI n (S.ins.drop q) m = R ∧ Below w.heap.size w wr ∧ Blk wr w.heap.size #[.slice ai S.ins.length ci, .slice ao no co, .slice am nm cm] 26) (fun _ i _ => (S.ins.length - intOf i).toNat)
 case atStart => exact ⟨0, 0, rfl, rfl, by omega, by omega, by omega, HR.out, bel _ _, Blk.new w _ 26⟩
 case round =>
  obtain ⟨q, m, rfl, rfl, hm0, hm1, hq, hre, hb, hblk⟩ := hrel; have iB : Bel w wr := ⟨hb⟩
  have iL := hblk.lt; have s0 := hblk.cell 0; simp at s0; by_cases hlt : q < S.ins.length
  · obtain ⟨x, hx⟩ : ∃ x, S.ins[q]? = some x := ⟨_, gE hlt⟩
    obtain ⟨b, off, ev, rfl, iG0, ho, her, hc⟩ := HAt.out q x hx; obtain ⟨ae, ce, rfl, hae⟩ := her.at_; rw [lM] at hc; have hel := (HWF.out.2.2.2.1 x (mG hx)).2.1; have HA := Lib.hid (And.intro hae hc); obtain ⟨iG, c0, c1, c2, c3⟩ := hc wr hb; have HB := Lib.hid hblk; rw [drop_at hx, lkI] at hre; clear her hae hc ho hblk c0 c3 c1 c2 hx; obtain ⟨xn, xd, xe, xs⟩ := x; simp only at hre HA hel; rcases xd with _ | _
    · rw [if_neg (by decide)] at hre; obtain ⟨_, _, c1, c2, _⟩ := HA.out.2 wr hb; have HRE := Lib.hid hre; clear hre; by_cases h0 : 0 < xe.length
      · have h0I : (0 : Int) < xe.length := by omega
        go_wp2_with fail
        go_loopw [5, 7] (fun v i wr' => v = .int .i64 m ∧ i = .int .i64 0 ∧ wr' = wr) (fun _ i _ => 0)
        case atStart => exact ⟨rfl, rfl, rfl⟩
        case round =>
         obtain ⟨rfl, rfl, rfl⟩ := hrel; go_wp2_with fail
         go_roundw
         case rel => exact ⟨q + 1, m, by rfl, rfl, hm0, by omega, by omega, HRE.out, bel _ _, HB.out⟩
         case measure => simp [intOf]; omega
      · have h0I : ¬ (0 : Int) < xe.length := by omega
        go_wp2_with fail
        go_loopw [5, 7] (fun v i wr' => v = .int .i64 m ∧ i = .int .i64 0 ∧ wr' = wr) (fun _ i _ => 0)
        case atStart => exact ⟨rfl, rfl, rfl⟩
        case round =>
         obtain ⟨rfl, rfl, rfl⟩ := hrel; go_wp2_with fail
         go_roundw
         case rel => exact ⟨q + 1, m, by rfl, rfl, hm0, by omega, by omega, HRE.out, bel _ _, HB.out⟩
         case measure => simp [intOf]; omega
    · rw [if_pos rfl] at hre; have HRE := Lib.hid hre; clear hre; go_wp2_with fail
      go_loopw [5, 7] (fun v i wr' => ∃ (j : Nat) (m' : Int), i = .int .i64 j ∧ v = .int .i64 m' ∧ 0 ≤ m' ∧ m' ≤ 1000000000 * q + j ∧ j ≤ xe.length ∧ lkI n (S.ins.drop (q + 1)) (lkE n (xe.drop j) m') = R ∧ Below w.heap.size w wr' ∧ Blk wr' w.heap.size #[.slice (some ⟨b, off, none⟩) S.ins.length ci, .slice ao no co, .slice am nm cm] 26) (fun _ i _ => (xe.length - intOf i).toNat)
      case atStart => exact ⟨0, m, rfl, rfl, by omega, by omega, by omega, HRE.out, bel _ _, HB.out⟩
      case round =>
       clear HRE HB iB iL s0 hb iG; obtain ⟨j, m', rfl, rfl, hm2, hm3, hj, hre, hb, hblk⟩ := hrel; have iB : Bel w wr := ⟨hb⟩
       have iL := hblk.lt; have s0 := hblk.cell 0; simp at s0; obtain ⟨iG, c0, c1, c2, c3⟩ := HA.out.2 wr hb; have HB := Lib.hid hblk; clear hblk c0 c3; by_cases hlj : j < xe.length
       · obtain ⟨z, hz⟩ : ∃ z, xe[j]? = some z := ⟨_, gE hlj⟩
         obtain ⟨be, oe, rfl, iE0, iE, hce⟩ := HA.out.1 wr hb j z.cells (by rw [gM, hz]; rfl); have e1 := hce 1 _ rfl; rw [drop_at hz, lkE] at hre; clear hz hce; have hljI : (j : Int) < xe.length := by omega
         have w1 : IntKind.i64.wrap (m' + 1) = m' + 1 := I64.wrap ⟨by omega, by omega⟩; rcases hpz : (z.num == n) with _ | _
         · rw [hpz, if_neg (by decide)] at hre; have HZ := Lib.hid hre; clear hre; go_wp2_with fail
           go_roundw
           case rel => exact ⟨j + 1, m', by rfl, rfl, by omega, by omega, by omega, HZ.out, bel _ _, HB.out⟩
           case measure => simp [intOf]; omega
         · rw [hpz, if_pos (by decide)] at hre; have HZ := Lib.hid hre; clear hre; go_wp2_with fail
           go_roundw
           case rel => exact ⟨j + 1, m' + 1, by rfl, rfl, by omega, by omega, by omega, HZ.out, bel _ _, HB.out⟩
           case measure => simp [intOf]; omega
       · rw [show xe.drop j = [] from List.drop_of_length_le (by omega), lkE] at hre; have hljI : ¬ (j : Int) < xe.length := by omega
         have HZ := Lib.hid hre; clear hre; go_wp2_with fail
         go_roundw
         case rel => exact ⟨q + 1, m', by rfl, rfl, hm2, by omega, by omega, HZ.out, bel _ _, HB.out⟩
         case measure => simp [intOf]; omega
  · rw [List.drop_of_length_le (by omega), lkI] at hre; subst hre; go_wp2_with fail; exact bodyPost_ret (v := .int .i64 m) (by simp [results, Tryz.results62, go_sem]) rfl ⟨rfl, bel _ _⟩
theorem Blk.apart {w : World} {b b' o : Nat} {c : Array Value} {t : TypeId} {v : Value} (h : Blk w b c t) (hne : b ≠ b') : Blk (w.setCell ⟨b', o, none⟩ v) b c t := by
 unfold Blk
 rw [Below.heap_setCell _ _ _ _ (by show b ≠ b'; exact hne)]
 exact h
theorem bucketR_lt (s : ByteArray) : 0 ≤ bucketR s ∧ bucketR s < 8 := by unfold bucketR; omega
def prevBadR (prev : Option ByteArray) (s : ByteArray) : Bool := match prev with | some p => !belowR p s | none => false
def entsRB (S : PSt) : Option ByteArray → List Int → List PEnt → Bool
 | _, _, [] => true
 | prev, sl, e :: r =>
   if (checkR e.name != 0) = true then false else if prevBadR prev e.name = true then false else if e.num = 1 then false else if atR S e.num < 0 then false else
   match sl[(bucketR e.name).toNat]? with
   | some x => if 4 < x + 1 then false else entsRB S (some e.name) (sl.set (bucketR e.name).toNat (x + 1)) r
   | none => false
def entsR (S : PSt) (es : List PEnt) : Bool := entsRB S none [0, 0, 0, 0, 0, 0, 0, 0] es
theorem checkR_small (s : ByteArray) (h : (checkR s != 0) = false) : s.size ≤ 12 := by
 unfold checkR at h
 by_cases hl : 12 < s.size
 · rw [if_pos hl] at h; simp at h
 · omega
theorem mk8 (u : World) : (Instr.makeSlice 24 (.int .i64 8) (.int .i64 8)).run Tryz.prog u = .ok (.slice (some ⟨u.heap.size, 0, none⟩) 8 8) (u.alloc (.cells (([0, 0, 0, 0, 0, 0, 0, 0] : List Int).map fun x => Value.int .i64 x).toArray 3)) := by
 obtain ⟨i0, hi, hz0, hz1, hz2⟩ := info_parts info3
 have := run_makeSlice (P := Tryz.prog) u 24 3 i0 _ Tryz.underlying24 hi hz0 .i64 .i64 8 8 (by omega) (Int.le_refl _) (by rw [hz1]; omega) (by rw [hz2]; omega) (by omega)
 have e : (([0, 0, 0, 0, 0, 0, 0, 0] : List Int).map fun x => Value.int .i64 x) = (List.replicate 8 (0 : Int)).map fun x => Value.int .i64 x := rfl
 rw [e, ← made_map' (fun x => Value.int .i64 x)]
 simpa [hz1, Value.cells] using this
theorem entries30 (S : PSt) (iv ov mv : Value) (xn : Int) (xd : Bool) (xs : ByteArray) (ev : Value) (es : List PEnt) (w : World) (h : StRead w iv ov mv S) (hwf : S.wf) (he : RowAt w 2 ev (es.map PEnt.cells)) (hlen : es.length ≤ 1000000000) :
 Calls Tryz.prog 61 #[.agg #[iv, ov, mv], .agg #[.int .i64 xn, .bool xd, ev, .string xs]] w fun e w' => e = .returned (.bool (entsR S es)) ∧ Below w.heap.size w w' := by
 have h51' : ∀ n ww, Below w.heap.size w ww → Calls Tryz.prog 85 #[.agg #[iv, ov, mv], .int .i64 n] ww fun e w' => e = .returned (.int .i64 (atR S n)) ∧ Below ww.heap.size ww w' := fun n ww hb => at51 S iv ov mv n ww (h.below hb (Nat.le_refl _)) hwf.1
 obtain ⟨ai, ni, ci, ao, no, co, am, nm, cm, rfl, rfl, rfl⟩ := h.slices
 obtain ⟨a, cap, rfl, hat⟩ := he.at_
 have HA := Lib.hid hat
 clear h hwf he hat
 rw [lM]
 have hmk := mk8
 unfold entsR
 obtain ⟨R, hR⟩ : ∃ R, entsRB S none [0, 0, 0, 0, 0, 0, 0, 0] es = R := ⟨_, rfl⟩
 rw [hR]
 have HR := Lib.hid hR
 clear hR
 go_enter Tryz.func61, Tryz.ntmps61
 go_wp2_with fail
 go_loopw [6] (fun i wr => ∃ (q : Nat) (sl : List Int), i = .int .i64 q ∧ q ≤ es.length ∧ sl.length = 8 ∧ (∀ (k : Nat) (x : Int), sl[k]? = some x → 0 ≤ x ∧ x ≤ 4) ∧ (∀ p, prevOf es q = some p → p.size ≤ 12) ∧ entsRB S (prevOf es q) sl (es.drop q) = R ∧ Below w.heap.size w wr ∧ Blk wr (w.heap.size + 1 + 1) (sl.map fun x => .int .i64 x).toArray 3 ∧ Blk wr w.heap.size #[.slice ai ni ci, .slice ao no co, .slice am nm cm] 26 ∧ Blk wr (w.heap.size + 1) #[.int .i64 xn, .bool xd, .slice a es.length cap, .string xs] 68) (fun i _ => (es.length - intOf i).toNat)
 case atStart =>
  refine ⟨0, [0, 0, 0, 0, 0, 0, 0, 0], rfl, by omega, rfl, ?_, fun p hp => by simp [prevOf] at hp, HR.out, bel _ _, ?_, ?_, ?_⟩
  · intro k x hk; have := mG hk; simp at this; omega
  · exact Blk.new_i _ _ _ _
  · exact ((Blk.new w _ 26).alloc _).alloc _
  · exact (Blk.new_i _ _ _ _ : Blk ((w.alloc _).alloc _) (w.heap.size + 1) _ _).alloc _
 case round =>
  obtain ⟨q, sl, rfl, hq, hsl, hsb, hpz, hre, hb, hblk, hbs, hbx⟩ := hrel; have iB : Bel w wr := ⟨hb⟩
  have iL := hblk.lt; have iL1 := hbs.lt; have iL2 := hbx.lt; have s0 := hbs.cell 0; have s1 := hbs.cell 1; have s2 := hbs.cell 2; have x2 := hbx.cell 2; simp at s0 s1 s2 x2; have HB := Lib.hid (And.intro hblk (And.intro hbs hbx)); clear hblk hbs hbx; by_cases hlt : q < es.length
  · obtain ⟨z, hz⟩ : ∃ z, es[q]? = some z := ⟨_, gE hlt⟩
    obtain ⟨b1, off, rfl, iG0, iG, hc⟩ := HA.out wr hb q z.cells (by rw [gM, hz]; rfl); have c0 := hc 0 _ rfl; have c1 := hc 1 _ rfl; rw [Nat.add_zero] at c0; rw [drop_at hz] at hre; unfold entsRB at hre; have h52 := fun ww => check52 z.name ww
    have h51 := fun ww hww => h51' z.num ww hww
    have HZ := Lib.hid hz; have HS := Lib.hid (And.intro hsl hsb); have hsm := checkR_small z.name; clear hc hz h51' hsl hsb; generalize hck : checkR z.name = ck at h52 hre hsm; rcases hn : (ck != 0) with _ | _
    · have hsm := hsm hn; rw [hn, if_neg (by decide)] at hre; have h35 := fun ww => bucket35 z.name (by omega) ww
      have hpv : (q = 0 ∧ prevOf es q = none) ∨ ∃ (k : Nat) (y : PEnt), (q : Int) - 1 = k ∧ k < es.length ∧ 0 < (q : Int) ∧ prevOf es q = some y.name ∧ wr.cell? ⟨b1, off + k * 2, none⟩ = some (.string y.name) := by
       by_cases hq0 : q = 0
       · exact .inl ⟨hq0, by simp [prevOf, hq0]⟩
       · obtain ⟨y, hy⟩ : ∃ y, es[q - 1]? = some y := ⟨_, gE (by omega)⟩
         refine .inr ⟨q - 1, y, by omega, by omega, by omega, by simp [prevOf, hq0, hy], ?_⟩; obtain ⟨b2, off2, he2, _, _, hc2⟩ := HA.out wr hb (q - 1) y.cells (by rw [gM, hy]; rfl); cases he2; exact hc2 0 _ rfl
      obtain ⟨bk, hbkv⟩ : ∃ bk : Nat, bucketR z.name = bk := ⟨(bucketR z.name).toNat, by have := bucketR_lt z.name; omega⟩
      have hbk8 : bk < 8 := by have := bucketR_lt z.name; omega
      have hbk8I : (bk : Int) < 8 := by omega
      obtain ⟨x, hx⟩ : ∃ x, sl[bk]? = some x := ⟨_, gE (by have := HS.out.1; omega)⟩
      obtain ⟨hx0, hx4⟩ := HS.out.2 bk x hx; have c3 : wr.cell? ⟨w.heap.size + 1 + 1, bk, none⟩ = some (.int .i64 x) := by rw [HB.out.1.cell bk]; simp [hx]
      have fz : wr.frozen? ⟨w.heap.size + 1 + 1, bk, none⟩ = false := HB.out.1.frozen bk; rw [hbkv, Int.toNat_natCast, hx] at hre; simp only at hre; rw [hbkv] at h35; have ew : IntKind.i64.wrap (x + 1) = x + 1 := I64.wrap ⟨by omega, by omega⟩; have hnx : ∀ (wz : World), Bel w wz → Blk wz (w.heap.size + 1 + 1) ((sl.map fun x => Value.int .i64 x).toArray.setIfInBounds bk (.int .i64 (x + 1))) 3 → Blk wz w.heap.size #[.slice ai ni ci, .slice ao no co, .slice am nm cm] 26 → Blk wz (w.heap.size + 1) #[.int .i64 xn, .bool xd, .slice (some ⟨b1, off, none⟩) es.length cap, .string xs] 68 → ¬ 4 < x + 1 → entsRB S (some z.name) (sl.set bk (x + 1)) (es.drop (q + 1)) = R →
       ∃ (q' : Nat) (sl : List Int), Value.int .i64 ((q : Int) + 1) = .int .i64 q' ∧ q' ≤ es.length ∧ sl.length = 8 ∧ (∀ (k : Nat) (x : Int), sl[k]? = some x → 0 ≤ x ∧ x ≤ 4) ∧ (∀ p, prevOf es q' = some p → p.size ≤ 12) ∧ entsRB S (prevOf es q') sl (es.drop q') = R ∧ Below w.heap.size w wz ∧ Blk wz (w.heap.size + 1 + 1) (sl.map fun x => .int .i64 x).toArray 3 ∧ Blk wz w.heap.size #[.slice ai ni ci, .slice ao no co, .slice am nm cm] 26 ∧ Blk wz (w.heap.size + 1) #[.int .i64 xn, .bool xd, .slice (some ⟨b1, off, none⟩) es.length cap, .string xs] 68 := by
       intro wz hwz hbz hbz1 hbz2 hx5 hr; have hp : prevOf es (q + 1) = some z.name := by
        unfold prevOf; rw [if_neg (by omega), Nat.add_sub_cancel, HZ.out]; rfl
       refine ⟨q + 1, sl.set bk (x + 1), by rfl, by omega, by rw [List.length_set]; exact HS.out.1, ?_, ?_, ?_, hwz.below, ?_, hbz1, hbz2⟩
       · intro k u hu; by_cases hkb : bk = k
         · subst hkb; have hl8 : bk < sl.length := by have := HS.out.1; omega
           rw [List.getElem?_set_self hl8] at hu; cases hu; omega
         · rw [List.getElem?_set_ne hkb] at hu; exact HS.out.2 k u hu
       · intro p hp2; rw [hp] at hp2; cases hp2; exact hsm
       · rw [hp]; exact hr
       · rw [sA, ← List.map_set] at hbz; exact hbz
      have HNX := Lib.hid hnx; have HP := Lib.hid hpz; clear hnx hbkv hx hpz; rcases hpv with ⟨rfl, hp⟩ | ⟨k, y, hk1, hkl, hq1, hp, c2⟩
      · rw [hp] at hre; simp only [Nat.zero_mul, Nat.add_zero] at c0 c1; have hpb : prevBadR none z.name = false := rfl; rw [hpb, if_neg (by decide)] at hre; clear hp hpb; by_cases h1 : z.num = 1
        · rw [if_pos h1] at hre; have h1b : (z.num == 1) = true := by simpa using h1
          subst hre; clear h1; go_wp2_with fail; refine wp_region_quiet_rest (by kernel_rfl) (by kernel_rfl) (WQ.out ?_)
          repeat
           refine WQ_step (fun K hK => ?_); go_simp
           first
            | (refine hK _ ?_; clear hK K)
            | (apply Exists.intro
               refine ⟨fun _ => ?_, hK _ ?_⟩
               focus (first | (with_reducible first | refine cI (h52 _) | refine cJ (h52 _)) | (with_reducible first | refine cI (h51 _ (bel _ _)) | refine cJ (h51 _ (bel _ _))))
               clear hK K)
          refine WN fun p => ?_; go_wp2_with fail; exact bodyPost_ret (v := .bool false) (by simp [results, Tryz.results61, go_sem]) rfl ⟨rfl, bel _ _⟩
        · rw [if_neg h1] at hre; have h1b : (z.num == 1) = false := by simpa using h1
          generalize atR S z.num = fv at h51 hre; by_cases h2 : fv < 0
          · rw [if_pos h2] at hre; subst hre; go_wp2_with fail; refine wp_region_quiet_rest (by kernel_rfl) (by kernel_rfl) (WQ.out ?_)
            repeat
             refine WQ_step (fun K hK => ?_); go_simp
             first
              | (refine hK _ ?_; clear hK K)
              | (apply Exists.intro
                 refine ⟨fun _ => ?_, hK _ ?_⟩
                 focus (first | (with_reducible first | refine cI (h52 _) | refine cJ (h52 _)) | (with_reducible first | refine cI (h51 _ (bel _ _)) | refine cJ (h51 _ (bel _ _))))
                 clear hK K)
            refine WN fun p => ?_; go_wp2_with fail; exact bodyPost_ret (v := .bool false) (by simp [results, Tryz.results61, go_sem]) rfl ⟨rfl, bel _ _⟩
          · rw [if_neg h2] at hre; by_cases h3 : 4 < x + 1
            · rw [if_pos h3] at hre; subst hre; go_wp2_with fail; refine wp_region_quiet_rest (by kernel_rfl) (by kernel_rfl) (WQ.out ?_)
              repeat
               refine WQ_step (fun K hK => ?_); go_simp
               first
                | (refine hK _ ?_; clear hK K)
                | (apply Exists.intro
                   refine ⟨fun _ => ?_, hK _ ?_⟩
                   focus (first | (with_reducible first | refine cI (h52 _) | refine cJ (h52 _)) | (with_reducible first | refine cI (h51 _ (bel _ _)) | refine cJ (h51 _ (bel _ _))))
                   clear hK K)
              refine WN fun p => ?_; go_wp2_with ((go_at_call 87; refine aT (h35 _) fun p => ?_))
              exact bodyPost_ret (v := .bool false) (by simp [results, Tryz.results61, go_sem]) rfl ⟨rfl, bel _ _⟩
            · rw [if_neg h3] at hre; have HRE := Lib.hid hre; clear hre; go_wp2_with fail; refine wp_region_quiet_rest (by kernel_rfl) (by kernel_rfl) (WQ.out ?_)
              repeat
               refine WQ_step (fun K hK => ?_); go_simp
               first
                | (refine hK _ ?_; clear hK K)
                | (apply Exists.intro
                   refine ⟨fun _ => ?_, hK _ ?_⟩
                   focus (first | (with_reducible first | refine cI (h52 _) | refine cJ (h52 _)) | (with_reducible first | refine cI (h51 _ (bel _ _)) | refine cJ (h51 _ (bel _ _))))
                   clear hK K)
              refine WN fun p => ?_; go_wp2_with ((go_at_call 87; refine aT (h35 _) fun p => ?_))
              go_roundw
              case rel => exact HNX.out _ ⟨bel _ _⟩ (((HB.out.1.set_ _ _).alloc _).junk _) (((Blk.apart HB.out.2.1 (by omega)).alloc _).junk _) (((Blk.apart HB.out.2.2 (by omega)).alloc _).junk _) h3 HRE.out
              case measure => simp [intOf]; omega
      · have hy12 := HP.out y.name hp; rw [hp] at hre; have hpb : prevBadR (some y.name) z.name = !belowR y.name z.name := rfl; rw [hpb] at hre; clear hp hpb; have hq1N : 0 < q := by omega
        have hwk : IntKind.i64.wrap (k : Int) = k := I64.wrap ⟨by omega, by omega⟩; have h53 := fun ww => below53 y.name z.name (by omega) ww
        generalize belowR y.name z.name = bl at h53 hre; rcases bl with _ | _
        · rw [Bool.not_false, if_pos rfl] at hre; subst hre; go_wp2_with fail; refine wp_region_quiet_rest (by kernel_rfl) (by kernel_rfl) (WQ.out ?_)
          repeat
           refine WQ_step (fun K hK => ?_); go_simp
           first
            | (refine hK _ ?_; clear hK K)
            | (apply Exists.intro
               refine ⟨fun _ => ?_, hK _ ?_⟩
               focus (first | (with_reducible first | refine cI (h52 _) | refine cJ (h52 _)) | (with_reducible first | refine cI (h53 _) | refine cJ (h53 _)) | (with_reducible first | refine cI (h51 _ (bel _ _)) | refine cJ (h51 _ (bel _ _))))
               clear hK K)
          refine WN fun p => ?_; go_wp2_with fail; exact bodyPost_ret (v := .bool false) (by simp [results, Tryz.results61, go_sem]) rfl ⟨rfl, bel _ _⟩
        · rw [Bool.not_true, if_neg (by decide)] at hre; by_cases h1 : z.num = 1
          · rw [if_pos h1] at hre; have h1b : (z.num == 1) = true := by simpa using h1
            subst hre; clear h1; go_wp2_with fail; refine wp_region_quiet_rest (by kernel_rfl) (by kernel_rfl) (WQ.out ?_)
            repeat
             refine WQ_step (fun K hK => ?_); go_simp
             first
              | (refine hK _ ?_; clear hK K)
              | (apply Exists.intro
                 refine ⟨fun _ => ?_, hK _ ?_⟩
                 focus (first | (with_reducible first | refine cI (h52 _) | refine cJ (h52 _)) | (with_reducible first | refine cI (h53 _) | refine cJ (h53 _)) | (with_reducible first | refine cI (h51 _ (bel _ _)) | refine cJ (h51 _ (bel _ _))))
                 clear hK K)
            refine WN fun p => ?_; go_wp2_with fail; exact bodyPost_ret (v := .bool false) (by simp [results, Tryz.results61, go_sem]) rfl ⟨rfl, bel _ _⟩
          · rw [if_neg h1] at hre; have h1b : (z.num == 1) = false := by simpa using h1
            generalize atR S z.num = fv at h51 hre; by_cases h2 : fv < 0
            · rw [if_pos h2] at hre; subst hre; go_wp2_with fail; refine wp_region_quiet_rest (by kernel_rfl) (by kernel_rfl) (WQ.out ?_)
              repeat
               refine WQ_step (fun K hK => ?_); go_simp
               first
                | (refine hK _ ?_; clear hK K)
                | (apply Exists.intro
                   refine ⟨fun _ => ?_, hK _ ?_⟩
                   focus (first | (with_reducible first | refine cI (h52 _) | refine cJ (h52 _)) | (with_reducible first | refine cI (h53 _) | refine cJ (h53 _)) | (with_reducible first | refine cI (h51 _ (bel _ _)) | refine cJ (h51 _ (bel _ _))))
                   clear hK K)
              refine WN fun p => ?_; go_wp2_with fail; exact bodyPost_ret (v := .bool false) (by simp [results, Tryz.results61, go_sem]) rfl ⟨rfl, bel _ _⟩
            · rw [if_neg h2] at hre; by_cases h3 : 4 < x + 1
              · rw [if_pos h3] at hre; subst hre; go_wp2_with fail; refine wp_region_quiet_rest (by kernel_rfl) (by kernel_rfl) (WQ.out ?_)
                repeat
                 refine WQ_step (fun K hK => ?_); go_simp
                 first
                  | (refine hK _ ?_; clear hK K)
                  | (apply Exists.intro
                     refine ⟨fun _ => ?_, hK _ ?_⟩
                     focus (first | (with_reducible first | refine cI (h52 _) | refine cJ (h52 _)) | (with_reducible first | refine cI (h53 _) | refine cJ (h53 _)) | (with_reducible first | refine cI (h51 _ (bel _ _)) | refine cJ (h51 _ (bel _ _))))
                     clear hK K)
                refine WN fun p => ?_; go_wp2_with ((go_at_call 87; refine aT (h35 _) fun p => ?_))
                exact bodyPost_ret (v := .bool false) (by simp [results, Tryz.results61, go_sem]) rfl ⟨rfl, bel _ _⟩
              · rw [if_neg h3] at hre; have HRE := Lib.hid hre; clear hre; go_wp2_with fail; refine wp_region_quiet_rest (by kernel_rfl) (by kernel_rfl) (WQ.out ?_)
                repeat
                 refine WQ_step (fun K hK => ?_); go_simp
                 first
                  | (refine hK _ ?_; clear hK K)
                  | (apply Exists.intro
                     refine ⟨fun _ => ?_, hK _ ?_⟩
                     focus (first | (with_reducible first | refine cI (h52 _) | refine cJ (h52 _)) | (with_reducible first | refine cI (h53 _) | refine cJ (h53 _)) | (with_reducible first | refine cI (h51 _ (bel _ _)) | refine cJ (h51 _ (bel _ _))))
                     clear hK K)
                refine WN fun p => ?_; go_wp2_with ((go_at_call 87; refine aT (h35 _) fun p => ?_))
                go_roundw
                case rel => exact HNX.out _ ⟨bel _ _⟩ (((HB.out.1.set_ _ _).alloc _).junk _) (((Blk.apart HB.out.2.1 (by omega)).alloc _).junk _) (((Blk.apart HB.out.2.2 (by omega)).alloc _).junk _) h3 HRE.out
                case measure => simp [intOf]; omega
    · rw [hn, if_pos rfl] at hre; subst hre; go_wp2_with fail; refine wp_region_quiet_rest (by kernel_rfl) (by kernel_rfl) (WQ.out ?_)
      repeat
       refine WQ_step (fun K hK => ?_); go_simp
       first
        | (refine hK _ ?_; clear hK K)
        | (apply Exists.intro
           refine ⟨fun _ => ?_, hK _ ?_⟩
           focus (first | (with_reducible first | refine cI (h52 _) | refine cJ (h52 _)) | (with_reducible first | refine cI (h51 _ (bel _ _)) | refine cJ (h51 _ (bel _ _))))
           clear hK K)
      refine WN fun p => ?_; go_wp2_with fail; exact bodyPost_ret (v := .bool false) (by simp [results, Tryz.results61, go_sem]) rfl ⟨rfl, bel _ _⟩
  · rw [List.drop_of_length_le (by omega)] at hre; obtain rfl : R = true := by rw [← hre]; rfl
    go_wp2_with fail; exact bodyPost_ret (v := .bool true) (by simp [results, Tryz.results61, go_sem]) rfl ⟨rfl, bel _ _⟩
def TodoI (X : Nat → Prop) (w : World) (v : Value) (xs : List Int) : Prop :=
 ∃ g off cap arr, v = .slice (some ⟨g, off, none⟩) xs.length cap ∧ ¬ X g ∧ Blk w g arr 3 ∧ xs.length ≤ cap ∧ off + cap ≤ arr.size ∧ ∀ (i : Nat) (x : Int), xs[i]? = some x → arr[off + i]? = some (.int .i64 x)
theorem TodoI.alloc {X : Nat → Prop} {w : World} {v : Value} {xs : List Int} (h : TodoI X w v xs) (o : Obj) : TodoI X (w.alloc o) v xs := by
 obtain ⟨g, off, cap, arr, e, hx, hb, r⟩ := h
 exact ⟨g, off, cap, arr, e, hx, hb.alloc o, r⟩
theorem TodoI.junk {X : Nat → Prop} {w : World} {v : Value} {xs : List Int} (h : TodoI X w v xs) (o : Behind) : TodoI X (w.junk o) v xs := by
 obtain ⟨g, off, cap, arr, e, hx, hb, r⟩ := h
 exact ⟨g, off, cap, arr, e, hx, hb.junk o, r⟩
theorem TodoI.far {X : Nat → Prop} {w : World} {v : Value} {xs : List Int} (h : TodoI X w v xs) {a : Addr} (ha : X a.block) (u : Value) : TodoI X (w.setCell a u) v xs := by
 obtain ⟨g, off, cap, arr, e, hx, hb, r⟩ := h
 exact ⟨g, off, cap, arr, e, hx, hb.far (fun e => hx (by rw [e]; exact ha)) u, r⟩
theorem wpList_append_todoI {P : Program} (hP : P.underlying 24 = some (.slice 3)) (hI : (P.info? 3).map (fun i => (i.zero, i.size, i.bytes)) = some (some (.int .i64 0), 1, 8))
 (w : World) {ops : Array Oper} {rest : List Oper} {o : Oper} {a : Act} {Q : Exit → Act → World → Prop} (hg : o.guard = none) (s x : Operand)
 (hop : o.op = Op.call { callee := Callee.builtin Builtin.append, args := #[s, x], argTypes := #[24, 24] }) (X : Nat → Prop) (v : Value) (xs : List Int) (hs : a.eval s = v) (ht : TodoI X w v xs) (hX : ∀ g, w.heap.size ≤ g → ¬ X g)
 (ad : Addr) (c : Nat) (k : Int) (hx : a.eval x = .slice (some ad) 1 c) (hc : w.cell? ad = some (.int .i64 k)) (hlen : xs.length ≤ 1000000000000)
 (hK : ∀ v' w', TodoI X w' v' (xs ++ [k]) → Keep (fun g => ¬ X g) w w' → wpList P ops Q rest (a.put o.dst v') w') :
 wpList P ops Q (o :: rest) a w := by
 obtain ⟨i0, hi, hz0, hz1, hz2⟩ := info_parts hI
 obtain ⟨g, off, cap, arr, rfl, hnx, hb, hle, har, hel⟩ := ht
 refine wpList_append_arg w hg s x 24 hop 3 i0 (.int .i64 0) 1 8 hP hi hz0 hz1 hz2 rfl (by decide) g off xs.length cap (xs.map fun y : Int => .int .i64 y) hs (by simp) ?_ ad 1 c [.int .i64 k] hx rfl ?_ ?_ ?_ (by unfold maxLen; omega) (by omega) ?_ ?_
 · intro j u hj; rw [gM] at hj; obtain ⟨y, hy, rfl⟩ := Option.map_eq_some_iff.1 hj; rw [hb.cell]; exact hel j y hy
 · intro j u hj; have : j = 0 := by
    rcases j with _ | j
    · rfl
    · simp at hj
   subst this; simp only [List.getElem?_cons_zero, Option.some.injEq] at hj; subst hj; have e : ad.add 0 = ad := by unfold Addr.add; split <;> simp_all
   rw [e]; exact hc
 · intro u hu; simp only [List.mem_singleton] at hu; subst hu; rfl
 · intro hr j hj; simp only [List.length_cons, List.length_nil] at hj; obtain rfl : j = 0 := by omega
   rw [hb.cell, hb.frozen, Nat.add_zero, Nat.mul_one]; refine ⟨?_, rfl⟩; rw [Array.getElem?_eq_getElem (by omega)]; rfl
 · intro hr; refine hK _ _ ⟨g, off, cap, arr.setIfInBounds (off + xs.length) (.int .i64 k), by simp, hnx, ?_, by simp; omega, by simp; omega, ?_⟩ ?_
   · simp only [Nat.mul_one, World.setCells]; exact hb.set_ _ _
   · intro i y hy; rw [Array.getElem?_setIfInBounds]; by_cases hi : i < xs.length
     · rw [List.getElem?_append_left hi] at hy; rw [if_neg (by omega)]; exact hel i y hy
     · rw [List.getElem?_append_right (by omega)] at hy; have h0 : i - xs.length = 0 := by
        rcases hq : i - xs.length with _ | j
        · rfl
        · rw [hq] at hy; simp at hy
       rw [h0] at hy; simp only [List.getElem?_cons_zero, Option.some.injEq] at hy; subst hy; obtain rfl : i = xs.length := by omega
       rw [if_pos rfl, if_pos (by omega)]
   · simp only [Nat.mul_one, World.setCells]; exact (Keep.refl _ w).setCell (p := ⟨g, _, none⟩) (.inl hnx) _
 · intro hr v' w' hown hgr; refine hK _ _ ?_ ((Keep.refl _ w).grown hgr (by simp)); obtain ⟨hl, h0 | ⟨g', cap', cur, rfl, hge, hcur, hnc, hcm, hsz, htk⟩⟩ := hown
   · omega
   · refine ⟨g', 0, cap', cur, by simp, hX g' hge, hcur, by simp; omega, by omega, ?_⟩; intro i y hy; have hil : i < xs.length + 1 := by
      obtain ⟨h, _⟩ := gI.1 hy; simpa using h
     have h2 : (cur.toList.take ((xs.length + 1) * 1))[i]? = some (.int .i64 y) := by
      rw [htk]; have : (xs.map (fun y : Int => Value.int .i64 y) ++ [.int .i64 k]) = (xs ++ [k]).map (fun y : Int => Value.int .i64 y) := by simp
      rw [this, gM, hy]; rfl
     rw [List.getElem?_take, if_pos (by omega)] at h2; rw [Nat.zero_add]; simpa using h2
def potF : List PIn → List Bool → Nat
 | x :: r, b :: fd => (if b = true then 0 else x.ents.length) + potF r fd
 | _, _ => 0
theorem potF_set : ∀ (xs : List PIn) (fd : List Bool) (k : Nat) (x : PIn), xs[k]? = some x → fd[k]? = some false → potF xs (fd.set k true) + x.ents.length = potF xs fd
 | [], _, _, _, h, _ => by simp at h
 | _ :: _, [], _, _, _, h => by simp at h
 | y :: r, b :: fd, 0, x, h1, h2 => by
   simp at h1 h2; subst h1; subst h2; simp [potF]; omega
 | y :: r, b :: fd, k + 1, x, h1, h2 => by
   have := potF_set r fd k x (by simpa using h1) (by simpa using h2); simp only [sS, potF]; omega
def numsIf (x : PIn) : List Int := if x.dir = true then x.ents.map PEnt.num else []
def reachF (S : PSt) : Nat → List Int → List Bool → List Bool
 | 0, _, fd => fd
 | _ + 1, [], fd => fd
 | g + 1, n :: st, fd =>
   if atR S n < 0 then reachF S g st fd
   else if fd.getD (atR S n).toNat true = true then reachF S g st fd
   else match S.ins[(atR S n).toNat]? with
    | some x => reachF S g ((numsIf x).reverse ++ st) (fd.set (atR S n).toNat true)
    | none => fd
def reachR (S : PSt) : List Bool := reachF S (1 + potF S.ins (List.replicate S.ins.length false)) [1] (List.replicate S.ins.length false)
theorem potF_le (B : Nat) : ∀ (xs : List PIn) (fd : List Bool), (∀ x ∈ xs, x.ents.length ≤ B) → potF xs fd ≤ B * xs.length
 | [], _, _ => by simp [potF]
 | _ :: _, [], _ => by simp [potF]
 | x :: r, b :: fd, h => by
   have h1 := potF_le B r fd (fun y hy => h y (List.mem_cons_of_mem _ hy)); have h2 := h x (by simp); have h3 : B * (r.length + 1) = B * r.length + B := by rw [Nat.mul_add, Nat.mul_one]
   simp only [potF, List.length_cons]; rw [h3]
   split <;> omega
theorem reached28 (S : PSt) (iv ov mv : Value) (w : World) (h : StRead w iv ov mv S) (hwf : S.wf) (hsm : S.ins.length ≤ 300) :
 Calls Tryz.prog 59 #[.agg #[iv, ov, mv]] w fun e w' => ∃ F : Nat, e = .returned (.slice (some ⟨F, 0, none⟩) S.ins.length S.ins.length) ∧ Below w.heap.size w w' ∧ RowAt w' 1 (.slice (some ⟨F, 0, none⟩) S.ins.length S.ins.length) ((reachR S).map boolCells) := by
 have h51 : ∀ n ww, Below w.heap.size w ww → Calls Tryz.prog 85 #[.agg #[iv, ov, mv], .int .i64 n] ww fun e w' => e = .returned (.int .i64 (atR S n)) ∧ Below ww.heap.size ww w' := fun n ww hb => at51 S iv ov mv n ww (h.below hb (Nat.le_refl _)) hwf.1
 obtain ⟨ai, ni, ci, ao, no, co, am, nm, cm, rfl, rfl, rfl⟩ := h.slices
 obtain ⟨a, cap, e1, hai⟩ := h.ins_at2
 cases e1
 have HI := Lib.hid hai
 have HWF := Lib.hid hwf.2.2.2.1
 have hp12 : potF S.ins (List.replicate S.ins.length false) ≤ 300000000000 := by
  have h1 := potF_le 1000000000 S.ins (List.replicate S.ins.length false) (fun x hx => (hwf.2.2.2.1 x hx).2.1); have h2 : 1000000000 * S.ins.length ≤ 1000000000 * 300 := Nat.mul_le_mul_left _ hsm; omega
 clear h hai hwf
 obtain ⟨j0, ji, jz0, jz1, jz2⟩ := info_parts info4
 have hmk2 : ∀ u : World, (Instr.makeSlice 39 (.int .i64 S.ins.length) (.int .i64 S.ins.length)).run Tryz.prog u = .ok (.slice (some ⟨u.heap.size, 0, none⟩) S.ins.length S.ins.length) (u.alloc (.cells ((List.replicate S.ins.length false).map fun x => Value.bool x).toArray 4)) := fun u => by
  have := run_makeSlice (P := Tryz.prog) u 39 4 j0 _ Tryz.underlying39 ji jz0 .i64 .i64 S.ins.length S.ins.length (by omega) (Int.le_refl _) (by rw [jz1]; omega) (by rw [jz2]; omega) (by omega); rw [← made_map (fun x => Value.bool x)]; simpa [jz1, Value.cells] using this
 clear ji jz0 jz1 jz2
 obtain ⟨FF, hFF⟩ : ∃ FF, reachR S = FF := ⟨_, rfl⟩
 rw [hFF]
 unfold reachR at hFF
 obtain ⟨N, hN⟩ : ∃ N, 1 + potF S.ins (List.replicate S.ins.length false) = N := ⟨_, rfl⟩
 rw [hN] at hFF
 have hN12 : N ≤ 400000000000 := by omega
 have HFF := Lib.hid (And.intro hFF hN)
 clear hFF hN hp12
 obtain ⟨X, hX⟩ : ∃ X : Nat → Prop, X = fun g => g < w.heap.size + 1 + 1 := ⟨_, rfl⟩
 have hXX : ∀ g, X g ↔ g < w.heap.size + 1 + 1 := fun g => by rw [hX]
 have HX := Lib.hid hXX
 clear hXX
 clear hX
 go_enter Tryz.func59, Tryz.ntmps59
 go_wp2_with fail
 go_loopg [4] N (fun gk td wr => ∃ (st : List Int) (fd : List Bool), TodoI X wr td st.reverse ∧ fd.length = S.ins.length ∧ potF S.ins fd + st.length ≤ gk ∧ reachF S gk st fd = FF ∧ Below w.heap.size w wr ∧ Blk wr w.heap.size #[.slice ai S.ins.length ci, .slice ao no co, .slice am nm cm] 26 ∧ Blk wr (w.heap.size + 1) (fd.map fun x => Value.bool x).toArray 4 ∧ gk ≤ N)
 case atStart =>
  refine ⟨[1], List.replicate S.ins.length false, ?_, by simp, ?_, HFF.out.1, bel _ _, ((Blk.new w _ 26).alloc _).alloc _, ?_, Nat.le_refl _⟩
  · exact ⟨w.heap.size + 1 + 1, 0, 1, #[.int .i64 1], rfl, fun e => by have := (HX.out _).1 e; omega, Blk.new_i _ _ _ _, by simp, by simp, fun i x hx => by
     rcases i with _ | i
     · simp at hx; subst hx; rfl
     · simp at hx⟩
  · have := HFF.out.2; simp only [List.length_cons, List.length_nil]; omega
  · have := (Blk.new_i (w.alloc (.cells #[.slice ai S.ins.length ci, .slice ao no co, .slice am nm cm] 26)) (Array.replicate S.ins.length (.bool false)) 4 (w.heap.size + 1)).alloc (.cells #[.int .i64 1] 3); simpa using this
 case round =>
  obtain ⟨st, fd, hT, hfl, hpot, hre, hb, hbs, hbf, hgk⟩ := hrel
  rename World => wq
  have iB : Bel w wq := ⟨hb⟩
  have iL := hbs.lt; have iF := hbf.lt; have s0 := hbs.cell 0; have s1 := hbs.cell 1; have s2 := hbs.cell 2; simp at s0 s1 s2; obtain ⟨g, off, cap, arr, rfl, hng, hbk, hle, har, hel⟩ := hT; rcases st with _ | ⟨n, st⟩
  · have hff : fd = FF := by rw [← hre]; rcases gk with _ | gk <;> rfl
    subst hff; have HP := Lib.hid (And.intro hbf (And.intro hfl hb)); clear hbs hbf hre hpot hel; simp only [List.reverse_nil, List.length_nil] at *; go_wp2_with fail; refine bodyPost_ret (v := .slice (some ⟨w.heap.size + 1, 0, none⟩) S.ins.length S.ins.length) (by simp [results, Tryz.results59, go_sem]) rfl ⟨_, rfl, bel _ _, ?_⟩; have := RowAt.of_blk (cap := S.ins.length) (fun x => Value.bool x) fd HP.out.1 (by unfold maxLen; have := HP.out.2.1; omega); rw [HP.out.2.1] at this; exact this
  · rcases gk with _ | gk
    · simp at hpot
    obtain ⟨L, hL⟩ : ∃ L, st.length + 1 = L := ⟨_, rfl⟩
    have hlr : (n :: st).reverse.length = L := by simp [hL]
    have hn : arr[off + st.length]? = some (.int .i64 n) := hel st.length n (by simp); have hel' : ∀ (i : Nat) (x : Int), st.reverse[i]? = some x → arr[off + i]? = some (.int .i64 x) := fun i x hx => hel i x (by
     rw [List.reverse_cons, List.getElem?_append_left (by obtain ⟨h, _⟩ := gI.1 hx; exact h)]; exact hx)
    rw [hlr] at hle ⊢; have cg : wq.cell? ⟨g, off + st.length, none⟩ = some (.int .i64 n) := by rw [hbk.cell]; exact hn
    have iG := hbk.lt; have hTn : ∀ wr, Blk wr g arr 3 → TodoI X wr (.slice (some ⟨g, off, none⟩) st.length cap) st.reverse := fun wr hbk => ⟨g, off, cap, arr, by simp, hng, hbk, by simp; omega, har, hel'⟩
    have hb1 : (L : Int) - 1 = st.length := by omega
    have hmL : st.length < L := by omega
    have hLp : 0 < L := by omega
    have hsl : (st.length : Int) ≤ 400000000000 := by simp only [List.length_cons] at hpot; omega
    have w1 : IntKind.i64.wrap (st.length : Int) = st.length := I64.wrap ⟨by omega, by omega⟩; have hcap : (st.length : Int) ≤ cap := by omega
    have hcapN : st.length ≤ cap := by omega
    have h51n := fun ww hww => h51 n ww hww
    have hKb := atR_bounds S n; rw [reachF] at hre; have hc0 : ¬ cap = 0 := by omega
    have HB := Lib.hid (And.intro hbk (And.intro hbs (And.intro hbf (And.intro hfl (And.intro hTn hng))))); have hpot' : potF S.ins fd + st.length ≤ gk := by simp only [List.length_cons] at hpot; omega
    clear hL hel hel' hn hlr har hle hbk hbs hbf hTn hng hpot h51; generalize atR S n = K at hre h51n hKb
    go_upto_region 4 with fail
    refine wp_region_quiet_rest (by kernel_rfl) (by kernel_rfl) (WQ.out ?_)
    repeat
     refine WQ_step (fun K hK => ?_); go_simp
     first
      | (refine hK _ ?_; clear hK K)
      | (apply Exists.intro
         refine ⟨fun _ => ?_, hK _ ?_⟩
         focus ((with_reducible first | refine cI (h51n _ (bel _ _)) | refine cJ (h51n _ (bel _ _))))
         clear hK K)
    refine WN fun p => ?_; by_cases hK : K < 0
    · rw [if_pos hK] at hre; have HRE := Lib.hid hre; clear hre hKb; go_wp2_with fail
      go_roundg gk
      case rel => exact ⟨st, fd, HB.out.2.2.2.2.1 _ (HB.out.1.junk _), HB.out.2.2.2.1, by omega, HRE.out, bel _ _, HB.out.2.1.junk _, HB.out.2.2.1.junk _, by omega⟩
      case measure => omega
    · rw [if_neg hK] at hre; obtain ⟨k, rfl⟩ : ∃ k : Nat, K = k := ⟨K.toNat, by omega⟩
      have hk : k < S.ins.length := by omega
      obtain ⟨x, hx⟩ : ∃ x, S.ins[k]? = some x := ⟨_, gE hk⟩
      obtain ⟨y, hy⟩ : ∃ y, fd[k]? = some y := ⟨_, gE (by have := HB.out.2.2.2.1; omega)⟩
      have c3 : wq.cell? ⟨w.heap.size + 1, k, none⟩ = some (.bool y) := by rw [HB.out.2.2.1.cell k]; simp [hy]
      have f3 : wq.frozen? ⟨w.heap.size + 1, k, none⟩ = false := HB.out.2.2.1.frozen k; rw [Int.toNat_natCast, List.getD_eq_getElem?_getD, hy, Option.getD_some, hx] at hre; simp only at hre; have hkI : (k : Int) < S.ins.length := by omega
      clear hKb hK; rcases y with _ | _
      · rw [if_neg (by decide)] at hre; have hps := potF_set S.ins fd k x hx hy; obtain ⟨bi, oi, ev, rfl, iI0, hoi, her, hci⟩ := HI.out k x hx; obtain ⟨iI, x0, x1, x2, x3⟩ := hci wq hb; have hel := (HWF.out x (mG hx)).2.1; obtain ⟨ae, ce, rfl, hae⟩ := her.at_; rw [lM] at hci x2; obtain ⟨xn, xd, xe, xs⟩ := x; simp only at x1 x2 hae hci hel hps; have HC := Lib.hid (And.intro hae hci); have HRE := Lib.hid (And.intro hre hps); clear her hoi hae hci x0 x1 x2 x3 hx hy hre hps
        go_upto_region 9 with fail
        have hs0 : w.heap.size ≤ wq.heap.size := hb.size; have hTi : TodoI X (((wq.setCell ⟨w.heap.size + 1, k, none⟩ (.bool true)).junk p)) (.slice (some ⟨g, off, none⟩) st.length cap) st.reverse := HB.out.2.2.2.2.1 _ ((HB.out.1.far (fun e => HB.out.2.2.2.2.2 ((HX.out g).2 (by simp at e; omega))) _).junk _); have iFg : BlockGe (w.heap.size + 1) w := ⟨by omega⟩
        have hF2 : Blk ((wq.setCell ⟨w.heap.size + 1, k, none⟩ (.bool true)).junk p) (w.heap.size + 1) ((fd.set k true).map fun x => Value.bool x).toArray 4 := by
         have := (HB.out.2.2.1.set_ k (.bool true)).junk p; rw [sA, ← List.map_set (f := fun x => Value.bool x)] at this; exact this
        have hS2 : Blk ((wq.setCell ⟨w.heap.size + 1, k, none⟩ (.bool true)).junk p) w.heap.size #[.slice (some ⟨bi, oi, none⟩) S.ins.length ci, .slice ao no co, .slice am nm cm] 26 := (HB.out.2.1.far (by show _ ≠ _; simp) _).junk p; have hb2 : Below w.heap.size w ((wq.setCell ⟨w.heap.size + 1, k, none⟩ (.bool true)).junk p) := bel _ _; have H2 := Lib.hid (And.intro hTi (And.intro hb2 (And.intro hS2 hF2))); clear hTi hF2 hS2 hb2 hs0
        go_loopw [4, 6] (fun v4 i wr => ∃ (j : Nat), i = .int .i64 j ∧ j ≤ xe.length ∧ (xd = false → j = 0) ∧ TodoI X wr v4 (st.reverse ++ (xe.take j).map PEnt.num) ∧ Below w.heap.size w wr ∧ Blk wr w.heap.size #[.slice (some ⟨bi, oi, none⟩) S.ins.length ci, .slice ao no co, .slice am nm cm] 26 ∧ Blk wr (w.heap.size + 1) ((fd.set k true).map fun x => Value.bool x).toArray 4) (fun _ i _ => (xe.length - intOf i).toNat)
        case atStart => exact ⟨0, rfl, by omega, fun _ => rfl, by simpa using H2.out.1, H2.out.2.1, H2.out.2.2.1, H2.out.2.2.2⟩
        case round =>
         clear s0 s1 s2 iB iL iF iI cg c3 f3 iG; obtain ⟨j, rfl, hj, hjd, hT, hb2, hS2, hF2⟩ := hrel; have iB : Bel w wr := ⟨hb2⟩
         have iL := hS2.lt; have iF := hF2.lt; have s0 := hS2.cell 0; simp at s0; obtain ⟨iI, x0, x1, x2, x3⟩ := HC.out.2 wr hb2; clear x0 x3; obtain ⟨g2, off2, cap2, arr2, rfl, -⟩ := id hT; have htl : (st.reverse ++ (xe.take j).map PEnt.num).length ≤ 1000000000000 := by
          rw [lP, lM, List.length_take, List.length_reverse]; omega
         generalize hxl : (st.reverse ++ (xe.take j).map PEnt.num).length = xl at hT htl ⊢; have hend : ∀ (wz : World), Bel w wz → (xd = false ∨ j = xe.length) → TodoI X wz (.slice (some ⟨g2, off2, none⟩) xl cap2) (st.reverse ++ (xe.take j).map PEnt.num) → Blk wz w.heap.size #[.slice (some ⟨bi, oi, none⟩) S.ins.length ci, .slice ao no co, .slice am nm cm] 26 → Blk wz (w.heap.size + 1) ((fd.set k true).map fun x => Value.bool x).toArray 4 →
          ∃ (st' : List Int) (fd' : List Bool), TodoI X wz (.slice (some ⟨g2, off2, none⟩) xl cap2) st'.reverse ∧ fd'.length = S.ins.length ∧ potF S.ins fd' + st'.length ≤ gk ∧ reachF S gk st' fd' = FF ∧ Below w.heap.size w wz ∧ Blk wz w.heap.size #[.slice (some ⟨bi, oi, none⟩) S.ins.length ci, .slice ao no co, .slice am nm cm] 26 ∧ Blk wz (w.heap.size + 1) (fd'.map fun x => Value.bool x).toArray 4 ∧ gk ≤ N := by
          intro wz i1 hc h1 h2 h3; have hL2 : (xe.take j).map PEnt.num = numsIf ⟨xn, xd, xe, xs⟩ := by
           rcases hc with rfl | rfl
           · rw [hjd rfl]; rfl
           · rcases xd with _ | _
             · rw [hjd rfl]; rfl
             · simp [numsIf]
          have hl3 : (numsIf ⟨xn, xd, xe, xs⟩).length ≤ xe.length := by rw [← hL2]; simp; omega
          refine ⟨(numsIf ⟨xn, xd, xe, xs⟩).reverse ++ st, fd.set k true, ?_, by rw [List.length_set]; exact HB.out.2.2.2.1, ?_, HRE.out.1, i1.below, h2, h3, by omega⟩
          · have e : ((numsIf ⟨xn, xd, xe, xs⟩).reverse ++ st).reverse = st.reverse ++ (xe.take j).map PEnt.num := by rw [hL2]; simp
            rw [e]; exact h1
          · have := HRE.out.2; rw [lP, List.length_reverse]; omega
         have HE := Lib.hid hend; have HT := Lib.hid (And.intro hT (And.intro hS2 hF2)); have hXX : ∀ (wz : World), Bel w wz → BlockLt (w.heap.size + 1) wz → ∀ g, wz.heap.size ≤ g → ¬ X g := by
          intro wz i1 i2 g hg hx; have := (HX.out g).1 hx; have := i2.lt; omega
         have HXX := Lib.hid hXX; have HXL := Lib.hid hxl; clear hend hT hS2 hF2 hXX hxl; rcases xd with _ | _
         · obtain rfl := hjd rfl; by_cases h0 : 0 < xe.length
           · go_wp2_with fail
             go_roundg gk
             case rel => exact HE.out _ ⟨bel _ _⟩ (by simp) HT.out.1 HT.out.2.1 HT.out.2.2
             case measure => omega
           · go_wp2_with fail
             go_roundg gk
             case rel => exact HE.out _ ⟨bel _ _⟩ (by simp) HT.out.1 HT.out.2.1 HT.out.2.2
             case measure => omega
         · by_cases hlj : j < xe.length
           · obtain ⟨z, hz⟩ : ∃ z, xe[j]? = some z := ⟨_, gE hlj⟩
             obtain ⟨be, oe, rfl, iE0, iE, hce⟩ := HC.out.1 wr hb2 j z.cells (by rw [gM, hz]; rfl); have e1 := hce 1 _ rfl; have htk : (xe.take (j + 1)).map PEnt.num = (xe.take j).map PEnt.num ++ [z.num] := by
              rw [List.take_add_one, hz]; simp
             have HK := Lib.hid htk; clear hce hz htk; have hljI : (j : Int) < xe.length := by omega
             go_wp2_with (at_builtin; refine wpList_append_todoI (by kernel_rfl) info3 _ rfl (.tmp 58) (.tmp 69) rfl X _ (st.reverse ++ (xe.take j).map PEnt.num) rfl (HT.out.1.alloc _) (HXX.out _ ⟨bel _ _⟩ inferInstance) _ _ z.num rfl (by go_simp) (by rw [HXL.out]; exact htl) ?_)
             intro v' w' hT3 hkp3; have HT3 := Lib.hid (And.intro hT3 hkp3); obtain ⟨g3, off3, cap3, arr3, rfl, -⟩ := id hT3; clear hT3 hkp3; go_wp2_with fail
             go_roundw
             case rel =>
              refine ⟨j + 1, by rfl, by omega, (fun h => by cases h), ?_, (bel w _).trans (HT3.out.2.below (bel w _).size (fun i hi hn => hn ((HX.out i).2 (by omega)))), ?_, ?_⟩
              · rw [HK.out]; simpa using HT3.out.1
              · exact HT3.out.2.blk (HT.out.2.1.alloc _) (fun hn => hn ((HX.out _).2 (by omega)))
              · exact HT3.out.2.blk (HT.out.2.2.alloc _) (fun hn => hn ((HX.out _).2 (by omega)))
             case measure => simp [intOf]; omega
           · have hje : j = xe.length := by omega
             have hljI : ¬ (j : Int) < xe.length := by omega
             go_wp2_with fail
             go_roundg gk
             case rel => have hz := HE.out _ ⟨bel _ _⟩ (.inr hje) HT.out.1 HT.out.2.1 HT.out.2.2; first | exact hz | simpa using hz
             case measure => omega
      · rw [if_pos rfl] at hre; have HRE := Lib.hid hre; clear hre hx hy; go_wp2_with fail
        go_roundg gk
        case rel => exact ⟨st, fd, HB.out.2.2.2.2.1 _ (HB.out.1.junk _), HB.out.2.2.2.1, by omega, HRE.out, bel _ _, HB.out.2.1.junk _, HB.out.2.2.1.junk _, by omega⟩
        case measure => omega
end Go.Proofs.YtmkapobnfigedaaGreatDoor
