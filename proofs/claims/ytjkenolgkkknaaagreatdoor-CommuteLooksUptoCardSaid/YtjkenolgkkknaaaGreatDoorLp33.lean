/- Part of the proof that the calls that look alone commute. Conditions: none. -/
import Derived.Test.YtjkenolgkkknaaaGreatDoorLp32
set_option linter.unusedVariables false
set_option linter.unusedSimpArgs false
set_option maxRecDepth 100000
set_option maxHeartbeats 8000000
/- doer.link. Conditions: none. -/
set_option linter.unusedVariables false
set_option linter.unusedSimpArgs false
namespace Go.Proofs.YtjkenolgkkknaaaGreatDoor
open Go.RowKit
/-- An inode's cells, in an opened doer; what 'entry' and 'full' say of its entries. -/
structure InoAt (w : World) (bi K : Nat) (x : PIn) (ea : Option Addr) (ec : Nat) : Prop where
  iB : BlockLt bi w
  y0 : w.cell? ⟨bi, K * 4, none⟩ = some (.int .i64 x.num)
  y1 : w.cell? ⟨bi, K * 4 + 1, none⟩ = some (.bool x.dir)
  y2 : w.cell? ⟨bi, K * 4 + 2, none⟩ = some (.slice ea x.ents.length ec)
  y3 : w.cell? ⟨bi, K * 4 + 3, none⟩ = some (.string x.data)
  row : RowAt w 2 (.slice ea x.ents.length ec) (x.ents.map PEnt.cells)
  ent : ∀ ww l, Below w.heap.size w ww → Calls Tryz.prog 114 #[.slice ea x.ents.length ec, .string l] ww fun e w' => e = .returned (.tuple #[.int .i64 (bsE x.ents l), .bool (hitE x.ents l)]) ∧ Below ww.heap.size ww w'
  ful : ∀ ww l but, Below w.heap.size w ww → Calls Tryz.prog 116 #[.pointer (some ⟨bi, K * 4, none⟩), .string l, .string but] ww fun e w' => e = .returned (.bool (fullM x.ents l but)) ∧ Below ww.heap.size ww w'
end Go.Proofs.YtjkenolgkkknaaaGreatDoor
/- The reference's names: runes, Check, Hash, Bucket, Below, Code. Conditions: none. -/
set_option linter.unusedVariables false
set_option linter.unusedSimpArgs false
namespace Go.Proofs.YtjkenolgkkknaaaGreatDoor
open Go.RowKit
def byteAt (s : ByteArray) (p : Nat) : Int := if h : p < s.size then ((s[p]'h).toNat : Int) else 0
theorem byteAt_in {s : ByteArray} {p : Nat} (h : p < s.size) : byteAt s p = ((s[p]'h).toNat : Int) := by simp [byteAt, h]
theorem byteAt_bounds (s : ByteArray) (p : Nat) : 0 ≤ byteAt s p ∧ byteAt s p < 256 := by
  unfold byteAt
  split
  · rename_i h
    have : (s[p]'h).toNat < 256 := UInt8.toNat_lt _
    omega
  · omega
/-- A byte that goes on. -/
def nextR (s : ByteArray) (p : Nat) : Int := if p < s.size then (if byteAt s p < 128 then -1 else if 191 < byteAt s p then -1 else byteAt s p - 128) else -1
theorem next140 (s : ByteArray) (p : Nat) (w : World) :
    Calls Tryz.prog 140 #[.string s, .int .i64 p] w fun e w' => e = .returned (.int .i64 (nextR s p)) ∧ Below w.heap.size w w' := by
  generalize hR : nextR s p = R
  have HR := Lib.hid hR
  clear hR
  by_cases hp : p < s.size
  · have hpI : ¬ (s.size : Int) ≤ p := by omega
    have hw := byteAt_in hp
    have hb : 0 ≤ byteAt s p ∧ byteAt s p < 256 := byteAt_bounds s p
    have hre : (if byteAt s p < 128 then -1 else if 191 < byteAt s p then -1 else byteAt s p - 128) = R := by rw [← HR.out]; simp [nextR, hp]
    clear HR
    rw [hw] at hre hb
    clear hw
    by_cases h1 : ((s[p].toNat : Nat) : Int) < 128
    · rw [if_pos h1] at hre
      subst hre
      go_enter Tryz.func140, Tryz.ntmps140
      go_wp2_with fail
      exact bodyPost_ret (v := .int .i64 (-1)) (by simp [results, Tryz.results140, go_sem]) rfl ⟨rfl, bel _ _⟩
    · rw [if_neg h1] at hre
      by_cases h2 : (191 : Int) < ((s[p].toNat : Nat) : Int)
      · rw [if_pos h2] at hre
        subst hre
        go_enter Tryz.func140, Tryz.ntmps140
        go_wp2_with fail
        exact bodyPost_ret (v := .int .i64 (-1)) (by simp [results, Tryz.results140, go_sem]) rfl ⟨rfl, bel _ _⟩
      · rw [if_neg h2] at hre
        subst hre
        go_enter Tryz.func140, Tryz.ntmps140
        go_wp2_with fail
        refine bodyPost_ret (v := .int .i64 ((s[p].toNat : Nat) - 128)) (by simp [results, Tryz.results140, go_sem]) rfl ⟨rfl, bel _ _⟩
  · have hpI : (s.size : Int) ≤ p := by omega
    have hre : -1 = R := by rw [← HR.out]; simp [nextR, hp]
    subst hre
    go_enter Tryz.func140, Tryz.ntmps140
    go_wp2_with fail
    exact bodyPost_ret (v := .int .i64 (-1)) (by simp [results, Tryz.results140, go_sem]) rfl ⟨rfl, bel _ _⟩
/-- The rune at a place, and its bytes; 0: none. -/
def rune1B (c a b d : Int) : Int × Int :=
  if c < 128 then (c, 1)
  else if 194 ≤ c ∧ c ≤ 223 ∧ 0 ≤ a then ((c - 192) * 64 + a, 2)
  else if 224 ≤ c ∧ c ≤ 239 ∧ 0 ≤ a ∧ 0 ≤ b then
    (if 2048 ≤ (c - 224) * 4096 + a * 64 + b ∧ ((c - 224) * 4096 + a * 64 + b < 55296 ∨ 57343 < (c - 224) * 4096 + a * 64 + b) then ((c - 224) * 4096 + a * 64 + b, 3) else (65533, 0))
  else if 240 ≤ c ∧ c ≤ 244 ∧ 0 ≤ a ∧ 0 ≤ b ∧ 0 ≤ d then
    (if 65536 ≤ (c - 240) * 262144 + a * 4096 + b * 64 + d ∧ (c - 240) * 262144 + a * 4096 + b * 64 + d ≤ 1114111 then ((c - 240) * 262144 + a * 4096 + b * 64 + d, 4) else (65533, 0))
  else (65533, 0)
def rune1R (s : ByteArray) (p : Nat) : Int × Int := rune1B (byteAt s p) (nextR s (p + 1)) (nextR s (p + 2)) (nextR s (p + 3))
theorem nextR_bounds (s : ByteArray) (p : Nat) : -1 ≤ nextR s p ∧ nextR s p ≤ 63 := by
  have := byteAt_bounds s p
  unfold nextR
  split
  · split
    · omega
    · split <;> omega
  · omega
set_option maxRecDepth 100000 in
set_option maxHeartbeats 4000000 in
theorem rune93 (s : ByteArray) (p : Nat) (hp : p < s.size) (hs : s.size ≤ 1000000000000) (w : World) :
    Calls Tryz.prog 93 #[.string s, .int .i64 p] w fun e w' => e = .returned (.tuple #[.int .i64 (rune1R s p).1, .int .i64 (rune1R s p).2]) ∧ Below w.heap.size w w' := by
  obtain ⟨R, hR⟩ : ∃ R, rune1R s p = R := ⟨_, rfl⟩
  rw [hR]
  unfold rune1R at hR
  rw [byteAt_in hp] at hR
  have hn1 : ∀ ww, Calls Tryz.prog 140 #[.string s, .int .i64 ((p : Int) + 1)] ww fun e w' => e = .returned (.int .i64 (nextR s (p + 1))) ∧ Below ww.heap.size ww w' := fun ww => by simpa using next140 s (p + 1) ww
  have hn2 : ∀ ww, Calls Tryz.prog 140 #[.string s, .int .i64 ((p : Int) + 2)] ww fun e w' => e = .returned (.int .i64 (nextR s (p + 2))) ∧ Below ww.heap.size ww w' := fun ww => by simpa using next140 s (p + 2) ww
  have hn3 : ∀ ww, Calls Tryz.prog 140 #[.string s, .int .i64 ((p : Int) + 3)] ww fun e w' => e = .returned (.int .i64 (nextR s (p + 3))) ∧ Below ww.heap.size ww w' := fun ww => by simpa using next140 s (p + 3) ww
  have ba := nextR_bounds s (p + 1)
  have bb := nextR_bounds s (p + 2)
  have bd := nextR_bounds s (p + 3)
  generalize nextR s (p + 1) = a at hR hn1 ba
  generalize nextR s (p + 2) = b at hR hn2 bb
  generalize nextR s (p + 3) = d at hR hn3 bd
  have w1 : IntKind.i64.wrap ((p : Int) + 1) = (p : Int) + 1 := I64.wrap ⟨by omega, by omega⟩
  have w2 : IntKind.i64.wrap ((p : Int) + 2) = (p : Int) + 2 := I64.wrap ⟨by omega, by omega⟩
  have w3 : IntKind.i64.wrap ((p : Int) + 3) = (p : Int) + 3 := I64.wrap ⟨by omega, by omega⟩
  have hc : (s[p].toNat : Int) < 256 := by have := UInt8.toNat_lt s[p]; omega
  obtain ⟨c, ec⟩ : ∃ c : Int, (s[p].toNat : Int) = c := ⟨_, rfl⟩
  have hc0 : 0 ≤ c := by omega
  rw [ec] at hR hc
  have HR := Lib.hid hR
  clear hR
  go_enter Tryz.func93, Tryz.ntmps93
  go_upto_region 3 with (first | (go_at_call 140; with_reducible refine (hn1 _).mono ?_; rintro e w' ⟨rfl, hb⟩; obtain ⟨p, rfl⟩ := hb.rest; clear hb) | (go_at_call 140; with_reducible refine (hn2 _).mono ?_; rintro e w' ⟨rfl, hb⟩; obtain ⟨p, rfl⟩ := hb.rest; clear hb) | (go_at_call 140; with_reducible refine (hn3 _).mono ?_; rintro e w' ⟨rfl, hb⟩; obtain ⟨p, rfl⟩ := hb.rest; clear hb))
  have hcs : c < 128 ∨ (128 ≤ c ∧ c < 194) ∨ (194 ≤ c ∧ c < 224) ∨ (224 ≤ c ∧ c < 240) ∨ (240 ≤ c ∧ c < 245) ∨ 245 ≤ c := by omega
  clear ec hn1 hn2 hn3 w1 w2 w3
  rcases hcs with hcs | hcs | hcs | hcs | hcs | hcs
  · have f0 : c < 128 := by omega
    have f1 : ¬ 194 ≤ c := by omega
    have f2 : c ≤ 223 := by omega
    have f3 : ¬ 224 ≤ c := by omega
    have f4 : c ≤ 239 := by omega
    have f5 : ¬ 240 ≤ c := by omega
    have f6 : c ≤ 244 := by omega
    have hre : (c, (1 : Int)) = R := by rw [← HR.out]; unfold rune1B; simp (config := { zeta := true }) only [*]; simp [*]
    subst hre
    clear HR
    go_wp2_with fail
    exact bodyPost_ret (v := .tuple #[.int .i64 (c), .int .i64 1]) (by simp [results, Tryz.results93, go_sem]) rfl ⟨rfl, bel _ _⟩
  · have f0 : ¬ c < 128 := by omega
    have f1 : ¬ 194 ≤ c := by omega
    have f2 : c ≤ 223 := by omega
    have f3 : ¬ 224 ≤ c := by omega
    have f4 : c ≤ 239 := by omega
    have f5 : ¬ 240 ≤ c := by omega
    have f6 : c ≤ 244 := by omega
    have hre : (65533, (0 : Int)) = R := by rw [← HR.out]; unfold rune1B; simp (config := { zeta := true }) only [*]; simp [*]
    subst hre
    clear HR
    go_wp2_with fail
    exact bodyPost_ret (v := .tuple #[.int .i64 (65533), .int .i64 0]) (by simp [results, Tryz.results93, go_sem]) rfl ⟨rfl, bel _ _⟩
  · by_cases ha : 0 ≤ a
    · have f0 : ¬ c < 128 := by omega
      have f1 : 194 ≤ c := by omega
      have f2 : c ≤ 223 := by omega
      have f3 : ¬ 224 ≤ c := by omega
      have f4 : c ≤ 239 := by omega
      have f5 : ¬ 240 ≤ c := by omega
      have f6 : c ≤ 244 := by omega
      have f7 : 0 ≤ a := by omega
      have g0 : IntKind.i64.wrap (c - 192) = c - 192 := I64.wrap ⟨by omega, by omega⟩
      have g1 : IntKind.i64.wrap ((c - 192) * 64) = (c - 192) * 64 := I64.wrap ⟨by omega, by omega⟩
      have g2 : IntKind.i64.wrap ((c - 192) * 64 + a) = (c - 192) * 64 + a := I64.wrap ⟨by omega, by omega⟩
      have hre : ((c - 192) * 64 + a, (2 : Int)) = R := by rw [← HR.out]; unfold rune1B; simp (config := { zeta := true }) only [*]; simp [*]
      subst hre
      clear HR
      go_wp2_with fail
      exact bodyPost_ret (v := .tuple #[.int .i64 ((c - 192) * 64 + a), .int .i64 2]) (by simp [results, Tryz.results93, go_sem]) rfl ⟨rfl, bel _ _⟩
    · have f0 : ¬ c < 128 := by omega
      have f1 : 194 ≤ c := by omega
      have f2 : c ≤ 223 := by omega
      have f3 : ¬ 224 ≤ c := by omega
      have f4 : c ≤ 239 := by omega
      have f5 : ¬ 240 ≤ c := by omega
      have f6 : c ≤ 244 := by omega
      have f7 : ¬ 0 ≤ a := by omega
      have hre : (65533, (0 : Int)) = R := by rw [← HR.out]; unfold rune1B; simp (config := { zeta := true }) only [*]; simp [*]
      subst hre
      clear HR
      go_wp2_with fail
      exact bodyPost_ret (v := .tuple #[.int .i64 (65533), .int .i64 0]) (by simp [results, Tryz.results93, go_sem]) rfl ⟨rfl, bel _ _⟩
  · by_cases ha : 0 ≤ a
    · by_cases hb : 0 ≤ b
      · have hrs : (¬ 2048 ≤ (c - 224) * 4096 + a * 64 + b) ∨ (2048 ≤ (c - 224) * 4096 + a * 64 + b ∧ (c - 224) * 4096 + a * 64 + b < 55296) ∨ (55296 ≤ (c - 224) * 4096 + a * 64 + b ∧ (c - 224) * 4096 + a * 64 + b ≤ 57343) ∨ 57343 < (c - 224) * 4096 + a * 64 + b := by omega
        rcases hrs with hrs | hrs | hrs | hrs
        · have f0 : ¬ c < 128 := by omega
          have f1 : 194 ≤ c := by omega
          have f2 : ¬ c ≤ 223 := by omega
          have f3 : 224 ≤ c := by omega
          have f4 : c ≤ 239 := by omega
          have f5 : ¬ 240 ≤ c := by omega
          have f6 : c ≤ 244 := by omega
          have f7 : 0 ≤ a := by omega
          have f8 : 0 ≤ b := by omega
          have f9 : ¬ 2048 ≤ (c - 224) * 4096 + a * 64 + b := by omega
          have g0 : IntKind.i64.wrap (c - 224) = c - 224 := I64.wrap ⟨by omega, by omega⟩
          have g1 : IntKind.i64.wrap ((c - 224) * 4096) = (c - 224) * 4096 := I64.wrap ⟨by omega, by omega⟩
          have g2 : IntKind.i64.wrap (a * 64) = a * 64 := I64.wrap ⟨by omega, by omega⟩
          have g3 : IntKind.i64.wrap ((c - 224) * 4096 + a * 64) = (c - 224) * 4096 + a * 64 := I64.wrap ⟨by omega, by omega⟩
          have g4 : IntKind.i64.wrap ((c - 224) * 4096 + a * 64 + b) = (c - 224) * 4096 + a * 64 + b := I64.wrap ⟨by omega, by omega⟩
          have hre : (65533, (0 : Int)) = R := by rw [← HR.out]; unfold rune1B; simp (config := { zeta := true }) only [*]; simp [*]
          subst hre
          clear HR
          go_wp2_with fail
          exact bodyPost_ret (v := .tuple #[.int .i64 (65533), .int .i64 0]) (by simp [results, Tryz.results93, go_sem]) rfl ⟨rfl, bel _ _⟩
        · have f0 : ¬ c < 128 := by omega
          have f1 : 194 ≤ c := by omega
          have f2 : ¬ c ≤ 223 := by omega
          have f3 : 224 ≤ c := by omega
          have f4 : c ≤ 239 := by omega
          have f5 : ¬ 240 ≤ c := by omega
          have f6 : c ≤ 244 := by omega
          have f7 : 0 ≤ a := by omega
          have f8 : 0 ≤ b := by omega
          have f9 : 2048 ≤ (c - 224) * 4096 + a * 64 + b := by omega
          have f10 : (c - 224) * 4096 + a * 64 + b < 55296 := by omega
          have g0 : IntKind.i64.wrap (c - 224) = c - 224 := I64.wrap ⟨by omega, by omega⟩
          have g1 : IntKind.i64.wrap ((c - 224) * 4096) = (c - 224) * 4096 := I64.wrap ⟨by omega, by omega⟩
          have g2 : IntKind.i64.wrap (a * 64) = a * 64 := I64.wrap ⟨by omega, by omega⟩
          have g3 : IntKind.i64.wrap ((c - 224) * 4096 + a * 64) = (c - 224) * 4096 + a * 64 := I64.wrap ⟨by omega, by omega⟩
          have g4 : IntKind.i64.wrap ((c - 224) * 4096 + a * 64 + b) = (c - 224) * 4096 + a * 64 + b := I64.wrap ⟨by omega, by omega⟩
          have hre : ((c - 224) * 4096 + a * 64 + b, (3 : Int)) = R := by rw [← HR.out]; unfold rune1B; simp (config := { zeta := true }) only [*]; simp [*]
          subst hre
          clear HR
          go_wp2_with fail
          exact bodyPost_ret (v := .tuple #[.int .i64 ((c - 224) * 4096 + a * 64 + b), .int .i64 3]) (by simp [results, Tryz.results93, go_sem]) rfl ⟨rfl, bel _ _⟩
        · have f0 : ¬ c < 128 := by omega
          have f1 : 194 ≤ c := by omega
          have f2 : ¬ c ≤ 223 := by omega
          have f3 : 224 ≤ c := by omega
          have f4 : c ≤ 239 := by omega
          have f5 : ¬ 240 ≤ c := by omega
          have f6 : c ≤ 244 := by omega
          have f7 : 0 ≤ a := by omega
          have f8 : 0 ≤ b := by omega
          have f9 : 2048 ≤ (c - 224) * 4096 + a * 64 + b := by omega
          have f10 : ¬ (c - 224) * 4096 + a * 64 + b < 55296 := by omega
          have f11 : ¬ 57343 < (c - 224) * 4096 + a * 64 + b := by omega
          have g0 : IntKind.i64.wrap (c - 224) = c - 224 := I64.wrap ⟨by omega, by omega⟩
          have g1 : IntKind.i64.wrap ((c - 224) * 4096) = (c - 224) * 4096 := I64.wrap ⟨by omega, by omega⟩
          have g2 : IntKind.i64.wrap (a * 64) = a * 64 := I64.wrap ⟨by omega, by omega⟩
          have g3 : IntKind.i64.wrap ((c - 224) * 4096 + a * 64) = (c - 224) * 4096 + a * 64 := I64.wrap ⟨by omega, by omega⟩
          have g4 : IntKind.i64.wrap ((c - 224) * 4096 + a * 64 + b) = (c - 224) * 4096 + a * 64 + b := I64.wrap ⟨by omega, by omega⟩
          have hre : (65533, (0 : Int)) = R := by rw [← HR.out]; unfold rune1B; simp (config := { zeta := true }) only [*]; simp [*]
          subst hre
          clear HR
          go_wp2_with fail
          exact bodyPost_ret (v := .tuple #[.int .i64 (65533), .int .i64 0]) (by simp [results, Tryz.results93, go_sem]) rfl ⟨rfl, bel _ _⟩
        · have f0 : ¬ c < 128 := by omega
          have f1 : 194 ≤ c := by omega
          have f2 : ¬ c ≤ 223 := by omega
          have f3 : 224 ≤ c := by omega
          have f4 : c ≤ 239 := by omega
          have f5 : ¬ 240 ≤ c := by omega
          have f6 : c ≤ 244 := by omega
          have f7 : 0 ≤ a := by omega
          have f8 : 0 ≤ b := by omega
          have f9 : 2048 ≤ (c - 224) * 4096 + a * 64 + b := by omega
          have f10 : ¬ (c - 224) * 4096 + a * 64 + b < 55296 := by omega
          have f11 : 57343 < (c - 224) * 4096 + a * 64 + b := by omega
          have g0 : IntKind.i64.wrap (c - 224) = c - 224 := I64.wrap ⟨by omega, by omega⟩
          have g1 : IntKind.i64.wrap ((c - 224) * 4096) = (c - 224) * 4096 := I64.wrap ⟨by omega, by omega⟩
          have g2 : IntKind.i64.wrap (a * 64) = a * 64 := I64.wrap ⟨by omega, by omega⟩
          have g3 : IntKind.i64.wrap ((c - 224) * 4096 + a * 64) = (c - 224) * 4096 + a * 64 := I64.wrap ⟨by omega, by omega⟩
          have g4 : IntKind.i64.wrap ((c - 224) * 4096 + a * 64 + b) = (c - 224) * 4096 + a * 64 + b := I64.wrap ⟨by omega, by omega⟩
          have hre : ((c - 224) * 4096 + a * 64 + b, (3 : Int)) = R := by rw [← HR.out]; unfold rune1B; simp (config := { zeta := true }) only [*]; simp [*]
          subst hre
          clear HR
          go_wp2_with fail
          exact bodyPost_ret (v := .tuple #[.int .i64 ((c - 224) * 4096 + a * 64 + b), .int .i64 3]) (by simp [results, Tryz.results93, go_sem]) rfl ⟨rfl, bel _ _⟩
      · have f0 : ¬ c < 128 := by omega
        have f1 : 194 ≤ c := by omega
        have f2 : ¬ c ≤ 223 := by omega
        have f3 : 224 ≤ c := by omega
        have f4 : c ≤ 239 := by omega
        have f5 : ¬ 240 ≤ c := by omega
        have f6 : c ≤ 244 := by omega
        have f7 : 0 ≤ a := by omega
        have f8 : ¬ 0 ≤ b := by omega
        have hre : (65533, (0 : Int)) = R := by rw [← HR.out]; unfold rune1B; simp (config := { zeta := true }) only [*]; simp [*]
        subst hre
        clear HR
        go_wp2_with fail
        exact bodyPost_ret (v := .tuple #[.int .i64 (65533), .int .i64 0]) (by simp [results, Tryz.results93, go_sem]) rfl ⟨rfl, bel _ _⟩
    · have f0 : ¬ c < 128 := by omega
      have f1 : 194 ≤ c := by omega
      have f2 : ¬ c ≤ 223 := by omega
      have f3 : 224 ≤ c := by omega
      have f4 : c ≤ 239 := by omega
      have f5 : ¬ 240 ≤ c := by omega
      have f6 : c ≤ 244 := by omega
      have f7 : ¬ 0 ≤ a := by omega
      have hre : (65533, (0 : Int)) = R := by rw [← HR.out]; unfold rune1B; simp (config := { zeta := true }) only [*]; simp [*]
      subst hre
      clear HR
      go_wp2_with fail
      exact bodyPost_ret (v := .tuple #[.int .i64 (65533), .int .i64 0]) (by simp [results, Tryz.results93, go_sem]) rfl ⟨rfl, bel _ _⟩
  · by_cases ha : 0 ≤ a
    · by_cases hb : 0 ≤ b
      · by_cases hd : 0 ≤ d
        · have hrs : (¬ 65536 ≤ (c - 240) * 262144 + a * 4096 + b * 64 + d) ∨ (65536 ≤ (c - 240) * 262144 + a * 4096 + b * 64 + d ∧ (c - 240) * 262144 + a * 4096 + b * 64 + d ≤ 1114111) ∨ (65536 ≤ (c - 240) * 262144 + a * 4096 + b * 64 + d ∧ ¬ (c - 240) * 262144 + a * 4096 + b * 64 + d ≤ 1114111) := by omega
          rcases hrs with hrs | hrs | hrs
          · have f0 : ¬ c < 128 := by omega
            have f1 : 194 ≤ c := by omega
            have f2 : ¬ c ≤ 223 := by omega
            have f3 : 224 ≤ c := by omega
            have f4 : ¬ c ≤ 239 := by omega
            have f5 : 240 ≤ c := by omega
            have f6 : c ≤ 244 := by omega
            have f7 : 0 ≤ a := by omega
            have f8 : 0 ≤ b := by omega
            have f9 : 0 ≤ d := by omega
            have f10 : ¬ 65536 ≤ (c - 240) * 262144 + a * 4096 + b * 64 + d := by omega
            have g0 : IntKind.i64.wrap (c - 240) = c - 240 := I64.wrap ⟨by omega, by omega⟩
            have g1 : IntKind.i64.wrap ((c - 240) * 262144) = (c - 240) * 262144 := I64.wrap ⟨by omega, by omega⟩
            have g2 : IntKind.i64.wrap (a * 4096) = a * 4096 := I64.wrap ⟨by omega, by omega⟩
            have g3 : IntKind.i64.wrap (b * 64) = b * 64 := I64.wrap ⟨by omega, by omega⟩
            have g4 : IntKind.i64.wrap ((c - 240) * 262144 + a * 4096) = (c - 240) * 262144 + a * 4096 := I64.wrap ⟨by omega, by omega⟩
            have g5 : IntKind.i64.wrap ((c - 240) * 262144 + a * 4096 + b * 64) = (c - 240) * 262144 + a * 4096 + b * 64 := I64.wrap ⟨by omega, by omega⟩
            have g6 : IntKind.i64.wrap ((c - 240) * 262144 + a * 4096 + b * 64 + d) = (c - 240) * 262144 + a * 4096 + b * 64 + d := I64.wrap ⟨by omega, by omega⟩
            have hre : (65533, (0 : Int)) = R := by rw [← HR.out]; unfold rune1B; simp (config := { zeta := true }) only [*]; simp [*]
            subst hre
            clear HR
            go_wp2_with fail
            exact bodyPost_ret (v := .tuple #[.int .i64 (65533), .int .i64 0]) (by simp [results, Tryz.results93, go_sem]) rfl ⟨rfl, bel _ _⟩
          · have f0 : ¬ c < 128 := by omega
            have f1 : 194 ≤ c := by omega
            have f2 : ¬ c ≤ 223 := by omega
            have f3 : 224 ≤ c := by omega
            have f4 : ¬ c ≤ 239 := by omega
            have f5 : 240 ≤ c := by omega
            have f6 : c ≤ 244 := by omega
            have f7 : 0 ≤ a := by omega
            have f8 : 0 ≤ b := by omega
            have f9 : 0 ≤ d := by omega
            have f10 : 65536 ≤ (c - 240) * 262144 + a * 4096 + b * 64 + d := by omega
            have f11 : (c - 240) * 262144 + a * 4096 + b * 64 + d ≤ 1114111 := by omega
            have g0 : IntKind.i64.wrap (c - 240) = c - 240 := I64.wrap ⟨by omega, by omega⟩
            have g1 : IntKind.i64.wrap ((c - 240) * 262144) = (c - 240) * 262144 := I64.wrap ⟨by omega, by omega⟩
            have g2 : IntKind.i64.wrap (a * 4096) = a * 4096 := I64.wrap ⟨by omega, by omega⟩
            have g3 : IntKind.i64.wrap (b * 64) = b * 64 := I64.wrap ⟨by omega, by omega⟩
            have g4 : IntKind.i64.wrap ((c - 240) * 262144 + a * 4096) = (c - 240) * 262144 + a * 4096 := I64.wrap ⟨by omega, by omega⟩
            have g5 : IntKind.i64.wrap ((c - 240) * 262144 + a * 4096 + b * 64) = (c - 240) * 262144 + a * 4096 + b * 64 := I64.wrap ⟨by omega, by omega⟩
            have g6 : IntKind.i64.wrap ((c - 240) * 262144 + a * 4096 + b * 64 + d) = (c - 240) * 262144 + a * 4096 + b * 64 + d := I64.wrap ⟨by omega, by omega⟩
            have hre : ((c - 240) * 262144 + a * 4096 + b * 64 + d, (4 : Int)) = R := by rw [← HR.out]; unfold rune1B; simp (config := { zeta := true }) only [*]; simp [*]
            subst hre
            clear HR
            go_wp2_with fail
            exact bodyPost_ret (v := .tuple #[.int .i64 ((c - 240) * 262144 + a * 4096 + b * 64 + d), .int .i64 4]) (by simp [results, Tryz.results93, go_sem]) rfl ⟨rfl, bel _ _⟩
          · have f0 : ¬ c < 128 := by omega
            have f1 : 194 ≤ c := by omega
            have f2 : ¬ c ≤ 223 := by omega
            have f3 : 224 ≤ c := by omega
            have f4 : ¬ c ≤ 239 := by omega
            have f5 : 240 ≤ c := by omega
            have f6 : c ≤ 244 := by omega
            have f7 : 0 ≤ a := by omega
            have f8 : 0 ≤ b := by omega
            have f9 : 0 ≤ d := by omega
            have f10 : 65536 ≤ (c - 240) * 262144 + a * 4096 + b * 64 + d := by omega
            have f11 : ¬ (c - 240) * 262144 + a * 4096 + b * 64 + d ≤ 1114111 := by omega
            have g0 : IntKind.i64.wrap (c - 240) = c - 240 := I64.wrap ⟨by omega, by omega⟩
            have g1 : IntKind.i64.wrap ((c - 240) * 262144) = (c - 240) * 262144 := I64.wrap ⟨by omega, by omega⟩
            have g2 : IntKind.i64.wrap (a * 4096) = a * 4096 := I64.wrap ⟨by omega, by omega⟩
            have g3 : IntKind.i64.wrap (b * 64) = b * 64 := I64.wrap ⟨by omega, by omega⟩
            have g4 : IntKind.i64.wrap ((c - 240) * 262144 + a * 4096) = (c - 240) * 262144 + a * 4096 := I64.wrap ⟨by omega, by omega⟩
            have g5 : IntKind.i64.wrap ((c - 240) * 262144 + a * 4096 + b * 64) = (c - 240) * 262144 + a * 4096 + b * 64 := I64.wrap ⟨by omega, by omega⟩
            have g6 : IntKind.i64.wrap ((c - 240) * 262144 + a * 4096 + b * 64 + d) = (c - 240) * 262144 + a * 4096 + b * 64 + d := I64.wrap ⟨by omega, by omega⟩
            have hre : (65533, (0 : Int)) = R := by rw [← HR.out]; unfold rune1B; simp (config := { zeta := true }) only [*]; simp [*]
            subst hre
            clear HR
            go_wp2_with fail
            exact bodyPost_ret (v := .tuple #[.int .i64 (65533), .int .i64 0]) (by simp [results, Tryz.results93, go_sem]) rfl ⟨rfl, bel _ _⟩
        · have f0 : ¬ c < 128 := by omega
          have f1 : 194 ≤ c := by omega
          have f2 : ¬ c ≤ 223 := by omega
          have f3 : 224 ≤ c := by omega
          have f4 : ¬ c ≤ 239 := by omega
          have f5 : 240 ≤ c := by omega
          have f6 : c ≤ 244 := by omega
          have f7 : 0 ≤ a := by omega
          have f8 : 0 ≤ b := by omega
          have f9 : ¬ 0 ≤ d := by omega
          have hre : (65533, (0 : Int)) = R := by rw [← HR.out]; unfold rune1B; simp (config := { zeta := true }) only [*]; simp [*]
          subst hre
          clear HR
          go_wp2_with fail
          exact bodyPost_ret (v := .tuple #[.int .i64 (65533), .int .i64 0]) (by simp [results, Tryz.results93, go_sem]) rfl ⟨rfl, bel _ _⟩
      · have f0 : ¬ c < 128 := by omega
        have f1 : 194 ≤ c := by omega
        have f2 : ¬ c ≤ 223 := by omega
        have f3 : 224 ≤ c := by omega
        have f4 : ¬ c ≤ 239 := by omega
        have f5 : 240 ≤ c := by omega
        have f6 : c ≤ 244 := by omega
        have f7 : 0 ≤ a := by omega
        have f8 : ¬ 0 ≤ b := by omega
        have hre : (65533, (0 : Int)) = R := by rw [← HR.out]; unfold rune1B; simp (config := { zeta := true }) only [*]; simp [*]
        subst hre
        clear HR
        go_wp2_with fail
        exact bodyPost_ret (v := .tuple #[.int .i64 (65533), .int .i64 0]) (by simp [results, Tryz.results93, go_sem]) rfl ⟨rfl, bel _ _⟩
    · have f0 : ¬ c < 128 := by omega
      have f1 : 194 ≤ c := by omega
      have f2 : ¬ c ≤ 223 := by omega
      have f3 : 224 ≤ c := by omega
      have f4 : ¬ c ≤ 239 := by omega
      have f5 : 240 ≤ c := by omega
      have f6 : c ≤ 244 := by omega
      have f7 : ¬ 0 ≤ a := by omega
      have hre : (65533, (0 : Int)) = R := by rw [← HR.out]; unfold rune1B; simp (config := { zeta := true }) only [*]; simp [*]
      subst hre
      clear HR
      go_wp2_with fail
      exact bodyPost_ret (v := .tuple #[.int .i64 (65533), .int .i64 0]) (by simp [results, Tryz.results93, go_sem]) rfl ⟨rfl, bel _ _⟩
  · have f0 : ¬ c < 128 := by omega
    have f1 : 194 ≤ c := by omega
    have f2 : ¬ c ≤ 223 := by omega
    have f3 : 224 ≤ c := by omega
    have f4 : ¬ c ≤ 239 := by omega
    have f5 : 240 ≤ c := by omega
    have f6 : ¬ c ≤ 244 := by omega
    have hre : (65533, (0 : Int)) = R := by rw [← HR.out]; unfold rune1B; simp (config := { zeta := true }) only [*]; simp [*]
    subst hre
    clear HR
    go_wp2_with fail
    exact bodyPost_ret (v := .tuple #[.int .i64 (65533), .int .i64 0]) (by simp [results, Tryz.results93, go_sem]) rfl ⟨rfl, bel _ _⟩
end Go.Proofs.YtjkenolgkkknaaaGreatDoor
/- The reference's names: Check, Hash, Bucket, Below, Code. Conditions: none. -/
set_option linter.unusedVariables false
set_option linter.unusedSimpArgs false
namespace Go.Proofs.YtjkenolgkkknaaaGreatDoor
open Go.RowKit
theorem rune1R_bounds (s : ByteArray) (p : Nat) : 0 ≤ (rune1R s p).1 ∧ (rune1R s p).1 ≤ 1114111 ∧ 0 ≤ (rune1R s p).2 ∧ (rune1R s p).2 ≤ 4 := by
  have h0 := byteAt_bounds s p
  have h1 := nextR_bounds s (p + 1)
  have h2 := nextR_bounds s (p + 2)
  have h3 := nextR_bounds s (p + 3)
  unfold rune1R
  generalize byteAt s p = c at *
  generalize nextR s (p + 1) = a at *
  generalize nextR s (p + 2) = b at *
  generalize nextR s (p + 3) = d at *
  unfold rune1B
  repeat' split
  all_goals (simp only; omega)
/-- The hash from a place on. -/
def hashRF (s : ByteArray) : Nat → Nat → Int → Int
  | 0, _, h => h
  | b + 1, p, h => if p < s.size then hashRF s b (p + (max (rune1R s p).2 1).toNat) ((31 * h + (rune1R s p).1) % 4294967296) else h
def hashR (s : ByteArray) : Int := hashRF s s.size 0 7
theorem hashRF_end (s : ByteArray) (b p : Nat) (h : Int) (hp : ¬ p < s.size) : hashRF s b p h = h := by
  cases b with
  | zero => rfl
  | succ b => simp [hashRF, hp]
theorem hashRF_lt (s : ByteArray) : ∀ b p h, 0 ≤ h ∧ h < 4294967296 → 0 ≤ hashRF s b p h ∧ hashRF s b p h < 4294967296
  | 0, _, h, hh => hh
  | b + 1, p, h, hh => by
    unfold hashRF
    split
    · have := rune1R_bounds s p
      exact hashRF_lt s b _ _ (by omega)
    · exact hh
theorem hash61 (s : ByteArray) (hs : s.size ≤ 1000000000) (w : World) :
    Calls Tryz.prog 61 #[.string s] w fun e w' => e = .returned (.int .i64 (hashR s)) ∧ Below w.heap.size w w' := by
  obtain ⟨R, hR⟩ : ∃ R, hashR s = R := ⟨_, rfl⟩
  rw [hR]
  unfold hashR at hR
  have HR := Lib.hid hR
  clear hR
  go_enter Tryz.func61, Tryz.ntmps61
  go_wp2_with fail
  go_loopw [3, 4] (fun vh vi wr => ∃ (p b : Nat) (acc : Int), vi = .int .i64 p ∧ vh = .int .i64 acc ∧ 0 ≤ acc ∧ acc < 4294967296 ∧ hashRF s b p acc = R ∧ s.size ≤ p + b ∧ p ≤ s.size + 4 ∧ Below w.heap.size w wr) (fun _ vi _ => (s.size + 4 - intOf vi).toNat)
  case atStart => exact ⟨0, s.size, 7, rfl, rfl, by omega, by omega, HR.out, by omega, by omega, bel _ _⟩
  case round =>
    obtain ⟨p, b, acc, rfl, rfl, ha0, ha1, hre, hbp, hp4, hb⟩ := hrel
    have iB : Bel w wr := ⟨hb⟩
    by_cases hp : p < s.size
    · have hpI : (p : Int) < s.size := by omega
      obtain ⟨b', rfl⟩ : ∃ b', b = b' + 1 := ⟨b - 1, by omega⟩
      have hru := fun ww => rune93 s p hp (by omega) ww
      have hrb := rune1R_bounds s p
      rw [hashRF, if_pos hp] at hre
      generalize hrk : rune1R s p = rk at hre hru hrb
      clear hrk
      obtain ⟨r, k⟩ := rk
      simp only at hrb hre hru
      obtain ⟨m, hm⟩ : ∃ m : Nat, max k 1 = m := ⟨(max k 1).toNat, by omega⟩
      have hm1 : 1 ≤ m ∧ m ≤ 4 := by omega
      rw [hm, Int.toNat_natCast] at hre
      have w1 : IntKind.i64.wrap (31 * acc) = 31 * acc := I64.wrap ⟨by omega, by omega⟩
      have w2 : IntKind.i64.wrap (31 * acc + r) = 31 * acc + r := I64.wrap ⟨by omega, by omega⟩
      have w3 : IntKind.i64.wrap ((p : Int) + m) = p + m := I64.wrap ⟨by omega, by omega⟩
      have w4 : IntKind.i64.wrap ((31 * acc + r) % 4294967296) = (31 * acc + r) % 4294967296 := I64.wrap ⟨by omega, by omega⟩
      have w5 : (31 * acc + r).tmod 4294967296 = (31 * acc + r) % 4294967296 := Int.tmod_eq_emod_of_nonneg (by omega)
      have HRE := Lib.hid hre
      clear hre
      go_wp2_with (go_at_call 93; refine (hru _).mono ?_; rintro e w' ⟨rfl, hb⟩; obtain ⟨pj, rfl⟩ := hb.rest; clear hb)
      go_roundw
      case rel => exact ⟨p + m, b', _, by rfl, rfl, by omega, by omega, HRE.out, by omega, by omega, bel _ _⟩
      case measure => simp [intOf]; omega
    · rw [hashRF_end s b p acc hp] at hre
      subst hre
      have hpI : ¬ (p : Int) < s.size := by omega
      go_wp2_with fail
      exact bodyPost_ret (v := .int .i64 acc) (by simp [results, Tryz.results61, go_sem]) rfl ⟨rfl, bel _ _⟩
def checkRF (s : ByteArray) : Nat → Nat → Bool
  | 0, _ => true
  | b + 1, p => if p < s.size then (if (rune1R s p).2 = 0 ∨ (rune1R s p).1 = 47 ∨ (rune1R s p).1 < 32 ∨ (rune1R s p).1 = 127 then false else checkRF s b (p + (rune1R s p).2.toNat)) else true
def checkR (s : ByteArray) : Int := if 12 < s.size then 801 else if (s.toList.isEmpty || s.toList == [46] || s.toList == [46, 46]) = true then 800 else if checkRF s s.size 0 = true then 0 else 800
theorem checkRF_end (s : ByteArray) (b p : Nat) (hp : ¬ p < s.size) : checkRF s b p = true := by
  cases b with
  | zero => rfl
  | succ b => simp [checkRF, hp]
theorem check52 (s : ByteArray) (w : World) :
    Calls Tryz.prog 52 #[.string s] w fun e w' => e = .returned (.int .i64 (checkR s)) ∧ Below w.heap.size w w' := by
  by_cases hlen : 12 < s.size
  · have hlenI : (12 : Int) < s.size := by omega
    have hM : checkR s = 801 := by simp [checkR, hlen]
    rw [hM]
    go_enter Tryz.func52, Tryz.ntmps52
    go_wp2_with fail
    exact bodyPost_ret (v := .int .i64 801) (by simp [results, Tryz.results52, go_sem]) rfl ⟨rfl, bel _ _⟩
  have hlenI : ¬ (12 : Int) < s.size := by omega
  rcases h1 : s.toList.isEmpty with _ | _
  rcases h2 : s.toList == [46] with _ | _
  rcases h3 : s.toList == [46, 46] with _ | _
  · have hM : checkR s = if checkRF s s.size 0 = true then 0 else 800 := by simp only [checkR, if_neg hlen, h1, h2, h3]; rfl
    rw [hM]
    obtain ⟨V, hV⟩ : ∃ V : Int, (if checkRF s s.size 0 = true then 0 else 800) = V := ⟨_, rfl⟩
    rw [hV]
    obtain ⟨T, hT⟩ : ∃ T, checkRF s s.size 0 = T := ⟨_, rfl⟩
    rw [hT] at hV
    have HT := Lib.hid (And.intro hT hV)
    clear hM hT hV
    go_enter Tryz.func52, Tryz.ntmps52
    go_wp2_with fail
    go_loopw [3] (fun vi wr => ∃ (p b : Nat), vi = .int .i64 p ∧ checkRF s b p = T ∧ s.size ≤ p + b ∧ p ≤ s.size + 4 ∧ Below w.heap.size w wr) (fun vi _ => (s.size + 4 - intOf vi).toNat)
    case atStart => exact ⟨0, s.size, rfl, HT.out.1, by omega, by omega, bel _ _⟩
    case round =>
      obtain ⟨p, b, rfl, hre, hbp, hp4, hb⟩ := hrel
      have iB : Bel w wr := ⟨hb⟩
      by_cases hp : p < s.size
      · have hpI : (p : Int) < s.size := by omega
        obtain ⟨b', rfl⟩ : ∃ b', b = b' + 1 := ⟨b - 1, by omega⟩
        have hru := fun ww => rune93 s p hp (by omega) ww
        have hrb := rune1R_bounds s p
        rw [checkRF, if_pos hp] at hre
        generalize hrk : rune1R s p = rk at hre hru hrb
        clear hrk
        obtain ⟨r, k⟩ := rk
        simp only at hrb hre hru
        by_cases hbad : k = 0 ∨ r = 47 ∨ r < 32 ∨ r = 127
        · rw [if_pos hbad] at hre
          subst hre
          obtain rfl : V = 800 := by have := HT.out.2; simpa using this.symm
          have hcase : k = 0 ∨ ((k == 0) = false ∧ (r == 47) = true) ∨ ((k == 0) = false ∧ (r == 47) = false ∧ r < 32) ∨ ((k == 0) = false ∧ (r == 47) = false ∧ ¬ r < 32 ∧ (r == 127) = true) := by
            by_cases a1 : k = 0
            · exact .inl a1
            by_cases a2 : r = 47
            · exact .inr (.inl ⟨by simpa using a1, by simpa using a2⟩)
            by_cases a3 : r < 32
            · exact .inr (.inr (.inl ⟨by simpa using a1, by simpa using a2, a3⟩))
            · exact .inr (.inr (.inr ⟨by simpa using a1, by simpa using a2, a3, by simp; omega⟩))
          clear hbad HT
          rcases hcase with hc | ⟨c1, c2⟩ | ⟨c1, c2, c3⟩ | ⟨c1, c2, c3, c4⟩
          · have c1 : (k == 0) = true := by simpa using hc
            clear hc
            go_wp2_with (go_at_call 93; refine (hru _).mono ?_; rintro e w' ⟨rfl, hb⟩; obtain ⟨pj, rfl⟩ := hb.rest; clear hb)
            exact bodyPost_ret (v := .int .i64 800) (by simp [results, Tryz.results52, go_sem]) rfl ⟨rfl, bel _ _⟩
          all_goals
            go_wp2_with (go_at_call 93; refine (hru _).mono ?_; rintro e w' ⟨rfl, hb⟩; obtain ⟨pj, rfl⟩ := hb.rest; clear hb)
            exact bodyPost_ret (v := .int .i64 800) (by simp [results, Tryz.results52, go_sem]) rfl ⟨rfl, bel _ _⟩
        · rw [if_neg hbad] at hre
          have a1 : (k == 0) = false := by simp; omega
          have a2 : (r == 47) = false := by simp; omega
          have a3 : ¬ r < 32 := by omega
          have a4 : (r == 127) = false := by simp; omega
          have hk : ¬ k = 0 := by omega
          obtain ⟨m, rfl⟩ : ∃ m : Nat, k = m := ⟨k.toNat, by omega⟩
          have hm1 : 1 ≤ m ∧ m ≤ 4 := by omega
          rw [Int.toNat_natCast] at hre
          have w3 : IntKind.i64.wrap ((p : Int) + m) = p + m := I64.wrap ⟨by omega, by omega⟩
          have HRE := Lib.hid hre
          clear hre hbad hk
          go_wp2_with (go_at_call 93; refine (hru _).mono ?_; rintro e w' ⟨rfl, hb⟩; obtain ⟨pj, rfl⟩ := hb.rest; clear hb)
          go_roundw
          case rel => exact ⟨p + m, b', by rfl, HRE.out, by omega, by omega, bel _ _⟩
          case measure => simp [intOf]; omega
      · rw [checkRF_end s b p hp] at hre
        subst hre
        obtain rfl : V = 0 := by have := HT.out.2; simpa using this.symm
        have hpI : ¬ (p : Int) < s.size := by omega
        go_wp2_with fail
        exact bodyPost_ret (v := .int .i64 0) (by simp [results, Tryz.results52, go_sem]) rfl ⟨rfl, bel _ _⟩
  all_goals
    have hM : checkR s = 800 := by simp only [checkR, if_neg hlen]; simp [*]
    rw [hM]
    go_enter Tryz.func52, Tryz.ntmps52
    go_wp2_with fail
    exact bodyPost_ret (v := .int .i64 800) (by simp [results, Tryz.results52, go_sem]) rfl ⟨rfl, bel _ _⟩
/-- Is a text ahead of another? -/
def belowRF (x y : ByteArray) : Nat → Nat → Bool
  | 0, _ => decide (x.size < y.size)
  | n + 1, p => if p < x.size ∧ p < y.size then (if byteAt x p = byteAt y p then belowRF x y n (p + 1) else decide (byteAt x p < byteAt y p)) else decide (x.size < y.size)
def belowR (x y : ByteArray) : Bool := belowRF x y x.size 0
theorem belowRF_end (x y : ByteArray) (n p : Nat) (hp : ¬ (p < x.size ∧ p < y.size)) : belowRF x y n p = decide (x.size < y.size) := by
  cases n with
  | zero => rfl
  | succ n => rw [belowRF, if_neg hp]
set_option maxRecDepth 100000 in
theorem below53 (x y : ByteArray) (hs : x.size ≤ 1000000000000) (w : World) :
    Calls Tryz.prog 53 #[.string x, .string y] w fun e w' => e = .returned (.bool (belowR x y)) ∧ Below w.heap.size w w' := by
  obtain ⟨R, hR⟩ : ∃ R, belowR x y = R := ⟨_, rfl⟩
  rw [hR]
  unfold belowR at hR
  have HR := Lib.hid hR
  clear hR
  go_enter Tryz.func53, Tryz.ntmps53
  go_wp2_with fail
  go_loopw [5] (fun vi wr => ∃ (q b : Nat), vi = .int .i64 q ∧ belowRF x y b q = R ∧ x.size ≤ q + b ∧ q ≤ x.size ∧ Below w.heap.size w wr) (fun vi _ => (x.size - intOf vi).toNat)
  case atStart => exact ⟨0, x.size, rfl, HR.out, by omega, by omega, bel _ _⟩
  case round =>
    obtain ⟨q, b, rfl, hre, hbp, hp4, hb⟩ := hrel
    have iB : Bel w wr := ⟨hb⟩
    have hcond : (q < x.size ∧ q < y.size) ∨ ¬ (q < x.size) ∨ (q < x.size ∧ ¬ q < y.size) := by omega
    have hend : ∀ ww, Bel w ww → ¬ (q < x.size ∧ q < y.size) → Ending.returned (.bool (decide ((x.size : Int) < y.size))) = Ending.returned (.bool R) ∧ Below w.heap.size w ww := fun ww hww hn => by
      rw [belowRF_end x y b q hn] at hre
      rw [← hre]
      exact ⟨by congr 2; by_cases h : x.size < y.size <;> simp [h] <;> omega, hww.below⟩
    rcases hcond with ⟨h1, h2⟩ | h1 | ⟨h1, h2⟩
    · obtain ⟨b', rfl⟩ : ∃ b', b = b' + 1 := ⟨b - 1, by omega⟩
      clear hend
      rw [belowRF, if_pos ⟨h1, h2⟩, byteAt_in h1, byteAt_in h2] at hre
      have h1I : (q : Int) < x.size := by omega
      have h2I : (q : Int) < y.size := by omega
      have w3 : IntKind.i64.wrap ((q : Int) + 1) = q + 1 := I64.wrap ⟨by omega, by omega⟩
      by_cases he : (x[q].toNat : Int) = y[q].toNat
      · rw [if_pos he] at hre
        have he1 : ((x[q].toNat : Int) != y[q].toNat) = false := by simpa using he
        have HRE := Lib.hid hre
        clear hre he
        go_wp2_with fail
        refine wp_region_quiet_rest (by kernel_rfl) (by kernel_rfl) ?_
        repeat
          first
            | go_big_quiet_skip
            | (go_big_quiet_want; go_big_quiet_op; first | go_big_quiet_on | (apply Exists.intro; refine ⟨fun _ => ?_, ?_⟩; (focus (fail)); go_big_quiet_on))
        refine wpQuiet_nil ?_
        intro w1 hw1
        obtain ⟨p, hw1⟩ := hw1
        subst hw1
        go_wp2_with fail
        go_roundw
        case rel => exact ⟨q + 1, b', by rfl, HRE.out, by omega, by omega, bel _ _⟩
        case measure => simp [intOf]; omega
      · rw [if_neg he] at hre
        have he1 : ((x[q].toNat : Int) != y[q].toNat) = true := by simpa using he
        subst hre
        go_wp2_with fail
        refine wp_region_quiet_rest (by kernel_rfl) (by kernel_rfl) ?_
        repeat
          first
            | go_big_quiet_skip
            | (go_big_quiet_want; go_big_quiet_op; first | go_big_quiet_on | (apply Exists.intro; refine ⟨fun _ => ?_, ?_⟩; (focus (fail)); go_big_quiet_on))
        refine wpQuiet_nil ?_
        intro w1 hw1
        obtain ⟨p, hw1⟩ := hw1
        subst hw1
        go_wp2_with fail
        refine wp_region_quiet_rest (by kernel_rfl) (by kernel_rfl) ?_
        repeat
          first
            | go_big_quiet_skip
            | (go_big_quiet_want; go_big_quiet_op; first | go_big_quiet_on | (apply Exists.intro; refine ⟨fun _ => ?_, ?_⟩; (focus (fail)); go_big_quiet_on))
        refine wpQuiet_nil ?_
        intro w1 hw1
        obtain ⟨p, hw1⟩ := hw1
        subst hw1
        go_wp2_with fail
        exact bodyPost_ret (v := .bool (decide ((x[q].toNat : Int) < y[q].toNat))) (by simp [results, Tryz.results53, go_sem]) rfl ⟨rfl, bel _ _⟩
    · have h1I : ¬ (q : Int) < x.size := by omega
      have HE := Lib.hid hend
      clear hend hre
      go_wp2_with fail
      exact bodyPost_ret (v := .bool (decide ((x.size : Int) < y.size))) (by simp [results, Tryz.results53, go_sem]) rfl (HE.out _ ⟨bel _ _⟩ (by omega))
    · have h1I : (q : Int) < x.size := by omega
      have h2I : ¬ (q : Int) < y.size := by omega
      have HE := Lib.hid hend
      clear hend hre
      go_wp2_with fail
      exact bodyPost_ret (v := .bool (decide ((x.size : Int) < y.size))) (by simp [results, Tryz.results53, go_sem]) rfl (HE.out _ ⟨bel _ _⟩ (by omega))
def bucketR (s : ByteArray) : Int := hashR s % 8
theorem bucket35 (s : ByteArray) (hs : s.size ≤ 1000000000) (w : World) :
    Calls Tryz.prog 35 #[.string s] w fun e w' => e = .returned (.int .i64 (bucketR s)) ∧ Below w.heap.size w w' := by
  have hb : 0 ≤ hashR s ∧ hashR s < 4294967296 := hashRF_lt s s.size 0 7 (by omega)
  unfold bucketR
  have h1 := fun ww => hash61 s hs ww
  generalize hashR s = h at *
  have w5 : h.tmod 8 = h % 8 := Int.tmod_eq_emod_of_nonneg (by omega)
  have w6 : IntKind.i64.wrap (h % 8) = h % 8 := I64.wrap ⟨by omega, by omega⟩
  go_enter Tryz.func35, Tryz.ntmps35
  go_wp2_with ((go_at_call 61; refine (h1 _).mono ?_; rintro e w' ⟨rfl, hb⟩; obtain ⟨p, rfl⟩ := hb.rest; clear hb))
  exact bodyPost_ret (v := .int .i64 (h % 8)) (by simp [results, Tryz.results35, go_sem]) rfl ⟨rfl, bel _ _⟩
end Go.Proofs.YtjkenolgkkknaaaGreatDoor
/- The reference's runes, buckets and names are the program's. Conditions: none. -/
set_option linter.unusedVariables false
set_option linter.unusedSimpArgs false
namespace Go.Proofs.YtjkenolgkkknaaaGreatDoor
open Go.RowKit
theorem get_bang (s : ByteArray) (p : Nat) (h : p < s.size) : s.get! p = s[p]'h := by
  have h' : p < s.data.size := h
  show s.data[p]! = _
  rw [getElem!_pos s.data p h']
  rfl
theorem byteAt_get {s : ByteArray} {p : Nat} (h : p < s.size) : byteAt s p = (s.get! p).toNat := by
  unfold byteAt
  rw [dif_pos h, get_bang s p h]
theorem nextR_cont (s : ByteArray) (p : Nat) : nextR s p = if (decide (p < s.size) && (s.get! p).toNat / 64 == 2) = true then (((s.get! p).toNat % 64 : Nat) : Int) else -1 := by
  have hb := (s.get! p).toNat_lt
  unfold nextR
  by_cases h : p < s.size
  · rw [if_pos h, byteAt_get h]
    generalize (s.get! p).toNat = b at hb ⊢
    have e : (decide (p < s.size) && b / 64 == 2) = decide (b / 64 = 2) := by simp [h]; rfl
    rw [e]
    simp only [decide_eq_true_eq]
    by_cases h2 : b / 64 = 2
    · rw [if_pos h2, if_neg (show ¬ (b : Int) < 128 by omega), if_neg (show ¬ 191 < (b : Int) by omega)]
      omega
    · rw [if_neg h2]
      by_cases h3 : (b : Int) < 128
      · rw [if_pos h3]
      · rw [if_neg h3, if_pos (by omega)]
  · rw [if_neg h, if_neg (by simp [h])]
/-- Go's own decoding, by the bytes. -/
def decB (b0 b1 b2 b3 : Nat) (c1 c2 c3 : Bool) : Nat × Nat :=
  if b0 < 0x80 then (b0, 1)
  else if b0 / 32 == 6 && c1 then (if (b0 % 32) * 64 + b1 % 64 ≥ 0x80 then ((b0 % 32) * 64 + b1 % 64, 2) else (65533, 1))
  else if b0 / 16 == 14 && c1 && c2 then (if (b0 % 16) * 4096 + (b1 % 64) * 64 + b2 % 64 ≥ 0x800 && Utf8.valid ((b0 % 16) * 4096 + (b1 % 64) * 64 + b2 % 64 : Nat) then ((b0 % 16) * 4096 + (b1 % 64) * 64 + b2 % 64, 3) else (65533, 1))
  else if b0 / 8 == 30 && c1 && c2 && c3 then (if (b0 % 8) * 262144 + (b1 % 64) * 4096 + (b2 % 64) * 64 + b3 % 64 ≥ 0x10000 && Utf8.valid ((b0 % 8) * 262144 + (b1 % 64) * 4096 + (b2 % 64) * 64 + b3 % 64 : Nat) then ((b0 % 8) * 262144 + (b1 % 64) * 4096 + (b2 % 64) * 64 + b3 % 64, 4) else (65533, 1))
  else (65533, 1)
theorem decode_decB (s : ByteArray) (i : Nat) : Utf8.decode s i = decB (s.get! i).toNat (s.get! (i + 1)).toNat (s.get! (i + 2)).toNat (s.get! (i + 3)).toNat (decide (i + 1 < s.size) && (s.get! (i + 1)).toNat / 64 == 2) (decide (i + 2 < s.size) && (s.get! (i + 2)).toNat / 64 == 2) (decide (i + 3 < s.size) && (s.get! (i + 3)).toNat / 64 == 2) := rfl
theorem runeB_eq (b0 b1 b2 b3 : Nat) (c1 c2 c3 : Bool) (h0 : b0 < 256) (A B D : Int) (hA : A = if c1 = true then ((b1 % 64 : Nat) : Int) else -1) (hB : B = if c2 = true then ((b2 % 64 : Nat) : Int) else -1) (hD : D = if c3 = true then ((b3 % 64 : Nat) : Int) else -1) :
    ((decB b0 b1 b2 b3 c1 c2 c3).1 : Int) = (rune1B b0 A B D).1 ∧ ((decB b0 b1 b2 b3 c1 c2 c3).2 : Int) = max (rune1B b0 A B D).2 1 ∧
    ((rune1B b0 A B D).2 = 0 ↔ ((decB b0 b1 b2 b3 c1 c2 c3).1 = 65533 ∧ ¬ (b0 = 239 ∧ c1 = true ∧ c2 = true ∧ b1 % 64 = 63 ∧ b2 % 64 = 61))) := by
  have fin : ∀ (x w : Nat) (y v : Int), decB b0 b1 b2 b3 c1 c2 c3 = (x, w) → rune1B b0 A B D = (y, v) → (x : Int) = y → (w : Int) = max v 1 → (v = 0 ↔ x = 65533 ∧ ¬ (b0 = 239 ∧ c1 = true ∧ c2 = true ∧ b1 % 64 = 63 ∧ b2 % 64 = 61)) → ((decB b0 b1 b2 b3 c1 c2 c3).1 : Int) = (rune1B b0 A B D).1 ∧ ((decB b0 b1 b2 b3 c1 c2 c3).2 : Int) = max (rune1B b0 A B D).2 1 ∧
    ((rune1B b0 A B D).2 = 0 ↔ ((decB b0 b1 b2 b3 c1 c2 c3).1 = 65533 ∧ ¬ (b0 = 239 ∧ c1 = true ∧ c2 = true ∧ b1 % 64 = 63 ∧ b2 % 64 = 61))) := by
    intro x w y v h1 h2 h3 h4 h5
    rw [h1, h2]
    exact ⟨h3, h4, h5⟩
  by_cases e0 : b0 < 128
  · refine fin b0 1 b0 1 (by unfold decB; rw [if_pos e0]) (by unfold rune1B; rw [if_pos (by omega)]) rfl rfl (by omega)
  have bad : b0 < 194 ∨ 244 < b0 ∨ c1 = false → decB b0 b1 b2 b3 c1 c2 c3 = (65533, 1) → _ := fun h hd => fin 65533 1 65533 0 hd (by
    unfold rune1B
    have hx : b0 < 194 ∨ 244 < b0 ∨ A = -1 := h.imp (fun h => h) (fun h => h.imp (fun h => h) (fun h => by rw [hA, h]; rfl))
    rw [if_neg (by omega), if_neg (by omega), if_neg (by omega), if_neg (by omega)]) rfl rfl (by
    rcases h with h | h | h
    · omega
    · omega
    · simp [h])
  rcases c1 with _ | _
  · refine bad (.inr (.inr rfl)) (by
      unfold decB
      rw [if_neg e0]
      simp)
  have hA1 : A = ((b1 % 64 : Nat) : Int) := by rw [hA]; rfl
  clear hA
  by_cases e1 : b0 / 32 = 6
  · by_cases e2 : b0 % 32 * 64 + b1 % 64 ≥ 128
    · refine fin (b0 % 32 * 64 + b1 % 64) 2 ((b0 - 192) * 64 + A) 2 (by unfold decB; rw [if_neg e0, if_pos (by simp [e1]), if_pos e2]) (by unfold rune1B; rw [if_neg (by omega), if_pos (by omega)]) (by omega) rfl (by omega)
    · refine bad (.inl (by omega)) (by unfold decB; rw [if_neg e0, if_pos (by simp [e1]), if_neg e2])
  rcases c2 with _ | _
  · have hB1 : B = -1 := by rw [hB]; rfl
    refine fin 65533 1 65533 0 (by unfold decB; rw [if_neg e0]; simp [e1]) (by
      unfold rune1B
      rw [if_neg (by omega), if_neg (by omega), if_neg (by omega), if_neg (by omega)]) rfl rfl (by simp)
  have hB1 : B = ((b2 % 64 : Nat) : Int) := by rw [hB]; rfl
  clear hB
  by_cases e2 : b0 / 16 = 14
  · by_cases e3 : b0 % 16 * 4096 + b1 % 64 * 64 + b2 % 64 ≥ 2048 ∧ (b0 % 16 * 4096 + b1 % 64 * 64 + b2 % 64 < 55296 ∨ 57343 < b0 % 16 * 4096 + b1 % 64 * 64 + b2 % 64)
    · refine fin (b0 % 16 * 4096 + b1 % 64 * 64 + b2 % 64) 3 ((b0 - 224) * 4096 + A * 64 + B) 3 (by
        unfold decB Utf8.valid
        rw [if_neg e0, if_neg (by simp [e1]), if_pos (by simp [e2]), if_pos (by simp only [Bool.and_eq_true, Bool.or_eq_true, decide_eq_true_eq]; omega)]) (by
        unfold rune1B
        rw [if_neg (by omega), if_neg (by omega), if_pos (by omega), if_pos (by omega)]) (by omega) rfl (by simp only [true_and]; omega)
    · refine fin 65533 1 65533 0 (by
        unfold decB Utf8.valid
        rw [if_neg e0, if_neg (by simp [e1]), if_pos (by simp [e2]), if_neg (by simp only [Bool.and_eq_true, Bool.or_eq_true, decide_eq_true_eq]; omega)]) (by
        unfold rune1B
        rw [if_neg (by omega), if_neg (by omega), if_pos (by omega), if_neg (by omega)]) rfl rfl (by omega)
  rcases c3 with _ | _
  · have hD1 : D = -1 := by rw [hD]; rfl
    refine fin 65533 1 65533 0 (by unfold decB; rw [if_neg e0]; simp [e1, e2]) (by
      unfold rune1B
      rw [if_neg (by omega), if_neg (by omega), if_neg (by omega), if_neg (by omega)]) rfl rfl (by omega)
  have hD1 : D = ((b3 % 64 : Nat) : Int) := by rw [hD]; rfl
  clear hD
  by_cases e3 : b0 / 8 = 30
  · by_cases e4 : b0 % 8 * 262144 + b1 % 64 * 4096 + b2 % 64 * 64 + b3 % 64 ≥ 65536 ∧ b0 % 8 * 262144 + b1 % 64 * 4096 + b2 % 64 * 64 + b3 % 64 ≤ 1114111
    · refine fin (b0 % 8 * 262144 + b1 % 64 * 4096 + b2 % 64 * 64 + b3 % 64) 4 ((b0 - 240) * 262144 + A * 4096 + B * 64 + D) 4 (by
        unfold decB Utf8.valid
        rw [if_neg e0, if_neg (by simp [e1]), if_neg (by simp [e2]), if_pos (by simp [e3]), if_pos (by simp only [Bool.and_eq_true, Bool.or_eq_true, decide_eq_true_eq]; omega)]) (by
        unfold rune1B
        rw [if_neg (by omega), if_neg (by omega), if_neg (by omega), if_pos (by omega), if_pos (by omega)]) (by omega) rfl (by omega)
    · have hd : decB b0 b1 b2 b3 true true true = (65533, 1) := by
        unfold decB Utf8.valid
        rw [if_neg e0, if_neg (by simp [e1]), if_neg (by simp [e2]), if_pos (by simp [e3]), if_neg (by simp only [Bool.and_eq_true, Bool.or_eq_true, decide_eq_true_eq]; omega)]
      by_cases e5 : b0 ≤ 244
      · refine fin 65533 1 65533 0 hd (by
          unfold rune1B
          rw [if_neg (by omega), if_neg (by omega), if_neg (by omega), if_pos (by omega), if_neg (by omega)]) rfl rfl (by omega)
      · exact bad (.inr (.inl (by omega))) hd
  · refine fin 65533 1 65533 0 (by unfold decB; rw [if_neg e0]; simp [e1, e2, e3]) (by
      unfold rune1B
      rw [if_neg (by omega), if_neg (by omega), if_neg (by omega), if_neg (by omega)]) rfl rfl (by omega)
theorem rune_eq {s : ByteArray} {p : Nat} (hp : p < s.size) :
    ((Utf8.decode s p).1 : Int) = (rune1R s p).1 ∧ ((Utf8.decode s p).2 : Int) = max (rune1R s p).2 1 ∧ ((rune1R s p).2 = 0 ↔ ((Utf8.decode s p).1 = 65533 ∧ ¬ ((s.get! p).toNat = 239 ∧ (decide (p + 1 < s.size) && (s.get! (p + 1)).toNat / 64 == 2) = true ∧ (decide (p + 2 < s.size) && (s.get! (p + 2)).toNat / 64 == 2) = true ∧ (s.get! (p + 1)).toNat % 64 = 63 ∧ (s.get! (p + 2)).toNat % 64 = 61))) := by
  unfold rune1R
  rw [decode_decB, byteAt_get hp, nextR_cont, nextR_cont, nextR_cont]
  exact runeB_eq _ _ _ _ _ _ _ (s.get! p).toNat_lt _ _ _ rfl rfl rfl
theorem hash_eq (s : ByteArray) : ∀ b p h, hashRF s b p h = hashFrom s b p h
  | 0, _, _ => rfl
  | b + 1, p, h => by
    unfold hashRF hashFrom
    by_cases hp : p < s.size
    · rw [if_pos hp, if_pos hp, hash_eq s b]
      obtain ⟨h1, h2, _⟩ := rune_eq hp
      rw [← h1, ← h2, Int.toNat_natCast]
    · rw [if_neg hp, if_neg hp]
theorem bucket_eq (s : ByteArray) : bucketR s = bucketM s := by
  unfold bucketR bucketM hashR hashM
  rw [hash_eq]
theorem decB_valid (b0 b1 b2 b3 : Nat) (c1 c2 c3 : Bool) : Utf8.valid ((decB b0 b1 b2 b3 c1 c2 c3).1 : Nat) = true := by
  have key : ∀ r : Nat, (r < 55296 ∨ (57344 ≤ r ∧ r ≤ 1114111)) → Utf8.valid (r : Int) = true := fun r h => by
    unfold Utf8.valid
    simp only [Bool.and_eq_true, Bool.or_eq_true, decide_eq_true_eq]
    omega
  unfold decB
  split
  · exact key _ (by simp only; omega)
  · split
    · split
      · exact key _ (by simp only; omega)
      · rfl
    · split
      · split
        · rename_i h
          simp only [Bool.and_eq_true] at h
          exact h.2
        · rfl
      · split
        · split
          · rename_i h
            simp only [Bool.and_eq_true] at h
            exact h.2
          · rfl
        · rfl
theorem encode_err {r : Nat} (hv : Utf8.valid (r : Int) = true) (h : (Utf8.encode (r : Int)).toList = [239, 191, 189]) : r = 65533 := by
  unfold Utf8.encode at h
  rw [if_pos hv] at h
  simp only [Int.toNat_natCast] at h
  have hlt : r ≤ 1114111 := by
    unfold Utf8.valid at hv
    simp only [Bool.and_eq_true, Bool.or_eq_true, decide_eq_true_eq] at hv
    omega
  have t1 : ∀ a : UInt8, (⟨#[a]⟩ : ByteArray).toList = [a] := fun _ => ByteArray.toList_mk _
  have t2 : ∀ a b : UInt8, (⟨#[a, b]⟩ : ByteArray).toList = [a, b] := fun _ _ => ByteArray.toList_mk _
  have t3 : ∀ a b c : UInt8, (⟨#[a, b, c]⟩ : ByteArray).toList = [a, b, c] := fun _ _ _ => ByteArray.toList_mk _
  have t4 : ∀ a b c d : UInt8, (⟨#[a, b, c, d]⟩ : ByteArray).toList = [a, b, c, d] := fun _ _ _ _ => ByteArray.toList_mk _
  split at h
  · rw [t1] at h; simp at h
  · split at h
    · rw [t2] at h; simp at h
    · split at h
      · rw [t3] at h
        simp only [List.cons.injEq, and_true] at h
        obtain ⟨h1, h2, h3⟩ := h
        have e1 := congrArg UInt8.toNat h1
        have e2 := congrArg UInt8.toNat h2
        have e3 := congrArg UInt8.toNat h3
        simp at e1 e2 e3
        omega
      · rw [t4] at h; simp at h
theorem prefix_err {s : ByteArray} {p : Nat} (h0 : (s.get! p).toNat = 239) (h1 : p + 1 < s.size) (h2 : p + 2 < s.size) (b1 : (s.get! (p + 1)).toNat = 191) (b2 : (s.get! (p + 2)).toNat = 189) : prefixB (s.extract p s.size) ⟨#[239, 191, 189]⟩ = true := by
  unfold prefixB
  have hsz : (s.extract p s.size).size = s.size - p := by simp
  have e : (s.extract p s.size).extract 0 (⟨#[239, 191, 189]⟩ : ByteArray).size = ⟨#[239, 191, 189]⟩ := by
    show (s.extract p s.size).extract 0 3 = _
    apply ByteArray.ext
    apply Array.ext
    · simp
      have : s.data.size = s.size := rfl
      omega
    · intro k hk hk'
      have hk3 : k < 3 := hk'
      have g : ∀ j (hj : j < s.size), s.data[j]'hj = s.get! j := fun j hj => (get_bang s j hj).symm
      simp only [ByteArray.data_extract, Array.getElem_extract]
      rw [g _ (by omega)]
      have : k = 0 ∨ k = 1 ∨ k = 2 := by omega
      rcases this with rfl | rfl | rfl
      · apply UInt8.toNat_inj.1; simpa using h0
      · apply UInt8.toNat_inj.1; simpa using b1
      · apply UInt8.toNat_inj.1; simpa using b2
  rw [e, hsz]
  have : decide ((⟨#[239, 191, 189]⟩ : ByteArray).size ≤ s.size - p) = true := decide_eq_true (by show 3 ≤ _; omega)
  rw [this]
  simp
theorem check_from (s : ByteArray) : ∀ b p, checkRF s b p = true → checkFrom s b p = true
  | 0, _, _ => rfl
  | b + 1, p, h => by
    unfold checkRF at h
    unfold checkFrom
    by_cases hp : p < s.size
    · rw [if_pos hp] at h ⊢
      obtain ⟨h1, h2, h3⟩ := rune_eq hp
      split at h
      · cases h
      · rename_i hb
        have hk : (rune1R s p).2 ≠ 0 := fun e => hb (.inl e)
        have hw : (rune1R s p).2.toNat = (Utf8.decode s p).2 := by
          have : 0 ≤ (rune1R s p).2 := by
            unfold rune1R rune1B
            repeat' split
            all_goals simp
          omega
        rw [hw] at h
        rw [check_from s b _ h, Bool.and_true, Bool.not_eq_true']
        unfold badRune
        simp only [Bool.or_eq_false_iff, decide_eq_false_iff_not, beq_eq_false_iff_ne]
        refine ⟨⟨⟨by omega, by omega⟩, by omega⟩, ?_⟩
        rw [Bool.and_eq_false_iff]
        by_cases e : (Utf8.decode s p).1 = 65533
        · right
          rw [Bool.not_eq_false']
          have hy := fun hn => hk (h3.2 ⟨e, hn⟩)
          have hy := Classical.not_not.1 hy
          simp only [Bool.and_eq_true, decide_eq_true_eq, beq_iff_eq] at hy
          obtain ⟨a0, ⟨a1, a2⟩, ⟨a3, a4⟩, a5, a6⟩ := hy
          exact prefix_err a0 a1 a3 (by omega) (by omega)
        · left
          rw [beq_eq_false_iff_ne]
          intro he
          refine e (encode_err ?_ he)
          rw [decode_decB]
          exact decB_valid _ _ _ _ _ _ _
    · rw [if_neg hp]
theorem check_name {s : ByteArray} (h : checkR s = 0) : nameB s = true := by
  unfold nameB checkM
  unfold checkR at h
  split at h
  · cases h
  · rename_i h1
    rw [if_neg h1]
    split at h
    · cases h
    · rename_i h2
      rw [if_neg h2]
      split at h
      · rename_i h3
        rw [if_pos (check_from s _ _ h3)]
        rfl
      · cases h
end Go.Proofs.YtjkenolgkkknaaaGreatDoor
