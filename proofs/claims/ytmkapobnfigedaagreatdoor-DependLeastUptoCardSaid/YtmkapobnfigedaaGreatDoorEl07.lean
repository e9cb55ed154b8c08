/- slices.BinarySearchFunc over the inodes, and model.find. Conditions: none. -/
import Derived.Test.YtmkapobnfigedaaGreatDoorEl06
set_option linter.unusedVariables false
namespace Go.Proofs.YtmkapobnfigedaaGreatDoor
open Go.RowKit
structure IRec where
 num : Int
 dir : Bool
 ev : Value
 data : ByteArray
 one : ev.oneCell' = true
def IRec.cells (x : IRec) : List Value := [.int .i64 x.num, .bool x.dir, x.ev, .string x.data]
def bsFrom (f : Nat → Int) : Nat → Nat → Nat → Nat
 | 0, lo, _ => lo
 | b + 1, lo, hi => if lo < hi then (if f ((lo + hi) / 2) < 0 then bsFrom f b ((lo + hi) / 2 + 1) hi else bsFrom f b lo ((lo + hi) / 2)) else lo
theorem bsFrom_end (f : Nat → Int) (b lo hi : Nat) (h : ¬ lo < hi) : bsFrom f b lo hi = lo := by
 cases b with
 | zero => rfl
 | succ b => simp [bsFrom, h]
def cmpAt (is : List IRec) (n : Int) (q : Nat) : Int := match is[q]? with | some x => cmpM x.num n | none => 0
def bsM (is : List IRec) (n : Int) : Nat := bsFrom (cmpAt is n) is.length 0 is.length
def bsHit (is : List IRec) (n : Int) : Bool := decide (bsM is n < is.length) && (cmpAt is n (bsM is n) == 0)
set_option maxRecDepth 100000 in
set_option maxHeartbeats 2000000 in
theorem bs119 (is : List IRec) (v : Value) (n : Int) (w : World) (h : RowAt w 4 v (is.map IRec.cells)) (hlen : is.length ≤ 1000000000) :
 Calls Tryz.prog 134 #[v, .int .i64 n, .func (.func 135) #[] #[]] w fun e w' => e = .returned (.tuple #[.int .i64 (bsM is n), .bool (bsHit is n)]) ∧ Below w.heap.size w w' := by
 obtain ⟨a, cap, rfl, _, hrow⟩ := h
 rw [List.length_map] at hrow ⊢
 have cell : ∀ (wr : World), Below w.heap.size w wr → ∀ (q : Nat), q < is.length → ∃ (b off : Nat) (x : IRec), a = some ⟨b, off, none⟩ ∧ BlockLt b wr ∧ is[q]? = some x ∧ cmpAt is n q = cmpM x.num n ∧ wr.cell? ⟨b, off + q * 4, none⟩ = some (.int .i64 x.num) ∧ wr.cell? ⟨b, off + q * 4 + 1, none⟩ = some (.bool x.dir) ∧ wr.cell? ⟨b, off + q * 4 + 2, none⟩ = some x.ev ∧ wr.cell? ⟨b, off + q * 4 + 3, none⟩ = some (.string x.data) := by
  intro wr hb q hq; obtain ⟨b, off, rfl, hlt, hc⟩ := hrow (by omega); obtain ⟨x, hx⟩ : ∃ x, is[q]? = some x := ⟨_, List.getElem?_eq_getElem hq⟩
  have hm : (is.map IRec.cells)[q]? = some x.cells := by rw [List.getElem?_map, hx]; rfl
  have hs := hb.size; have key : ∀ (t : Nat) (u : Value), x.cells[t]? = some u → wr.cell? ⟨b, off + q * 4 + t, none⟩ = some u := fun t u hu => (hb.cell (p := ⟨b, _, none⟩) hlt).trans (hc q _ hm t u hu)
  exact ⟨b, off, x, rfl, ⟨by omega⟩, hx, by unfold cmpAt; rw [hx], key 0 _ rfl, key 1 _ rfl, key 2 _ rfl, key 3 _ rfl⟩
 have HC := Lib.hid cell
 clear cell hrow
 obtain ⟨P, hP⟩ : ∃ P, bsM is n = P := ⟨_, rfl⟩
 obtain ⟨T, hT⟩ : ∃ T, bsHit is n = T := ⟨_, rfl⟩
 rw [hP, hT]
 have HP := Lib.hid (And.intro hP hT)
 clear hP hT
 go_enter Tryz.func134, Tryz.ntmps134
 go_wp2_with fail
 go_loopw [9, 10] (fun i j wr => ∃ (lo hi b : Nat), i = .int .i64 lo ∧ j = .int .i64 hi ∧ lo ≤ hi ∧ hi ≤ is.length ∧ hi ≤ lo + b ∧ bsFrom (cmpAt is n) b lo hi = P ∧ Below w.heap.size w wr) (fun i j _ => (intOf j - intOf i).toNat)
 case atStart => exact ⟨0, is.length, is.length, rfl, rfl, by omega, by omega, by omega, HP.out.1, bel _ _⟩
 case round =>
  obtain ⟨lo, hi, b, rfl, rfl, hlh, hhn, hfu, hbs, hb⟩ := hrel; have iB : Bel w wr := ⟨hb⟩
  by_cases hlt : lo < hi
  · obtain ⟨b', rfl⟩ : ∃ b', b = b' + 1 := ⟨b - 1, by omega⟩
    obtain ⟨m, hm⟩ : ∃ m, (lo + hi) / 2 = m := ⟨_, rfl⟩
    obtain ⟨b0, off, x, rfl, iG, hx, hcm, c0, c1, c2, c3⟩ := HC.out wr hb m (by omega); have hone := x.one; rw [bsFrom, if_pos hlt, hm, hcm] at hbs; have HS := Lib.hid hbs; clear hbs hcm; have hmI : ((lo : Int) + hi) / 2 = m := by omega
    have hmn : m < is.length := by omega
    have hmnI : (m : Int) < is.length := by omega
    have hcall : ∀ ww, Calls Tryz.prog 135 #[.agg #[.int .i64 x.num, .bool x.dir, x.ev, .string x.data], .int .i64 n] ww fun e w' => e = .returned (.int .i64 (cmpM x.num n)) ∧ Below ww.heap.size ww w' := fun ww => cmp149 x.num n x.dir x.ev x.data hone ww
    have HM := Lib.hid hm; clear hm; by_cases hneg : cmpM x.num n < 0
    · generalize hcv : cmpM x.num n = cv at hcall hneg; go_wp2_with (go_at_call 135; refine (hcall _).mono ?_; rintro e w' ⟨rfl, hb⟩; obtain ⟨p, rfl⟩ := hb.rest; clear hb)
      go_roundw
      case rel => exact ⟨m + 1, hi, b', by go_num, rfl, by have := HM.out; omega, by omega, by have := HM.out; omega, by have := HS.out; rw [hcv, if_pos hneg] at this; exact this, bel _ _⟩
      case measure => have := HM.out; simp [intOf]; omega
    · generalize hcv : cmpM x.num n = cv at hcall hneg; go_wp2_with (go_at_call 135; refine (hcall _).mono ?_; rintro e w' ⟨rfl, hb⟩; obtain ⟨p, rfl⟩ := hb.rest; clear hb)
      go_roundw
      case rel => exact ⟨lo, m, b', rfl, rfl, by have := HM.out; omega, by omega, by have := HM.out; omega, by have := HS.out; rw [hcv, if_neg (by omega)] at this; exact this, bel _ _⟩
      case measure => have := HM.out; simp [intOf]; omega
  · obtain rfl : lo = hi := by omega
    rw [bsFrom_end _ _ _ _ hlt] at hbs; have hPl : P = lo := hbs.symm; subst hPl; by_cases hln : P < is.length
    · obtain ⟨b0, off, x, rfl, iG, hx, hcm, c0, c1, c2, c3⟩ := HC.out wr hb P hln; have hone := x.one; have hlnI : (P : Int) < is.length := by omega
      have hcall : ∀ ww, Calls Tryz.prog 135 #[.agg #[.int .i64 x.num, .bool x.dir, x.ev, .string x.data], .int .i64 n] ww fun e w' => e = .returned (.int .i64 (cmpM x.num n)) ∧ Below ww.heap.size ww w' := fun ww => cmp149 x.num n x.dir x.ev x.data hone ww
      have hTv : T = (cmpM x.num n == 0) := by
       have h1 := HP.out.2; have h2 := HP.out.1; rw [← h1]; unfold bsHit; rw [h2, hcm]; simp [hln]
      clear hcm; generalize cmpM x.num n = cv at hcall hTv; subst hTv; go_wp2_with (go_at_call 135; refine (hcall _).mono ?_; rintro e w' ⟨rfl, hb⟩; obtain ⟨p, rfl⟩ := hb.rest; clear hb)
      refine bodyPost_ret (v := .tuple #[.int .i64 P, .bool (cv == 0)]) (by simp [results, Tryz.results134, go_sem]) rfl ⟨rfl, bel _ _⟩
    · have hlnI : ¬ (P : Int) < is.length := by omega
      have hTv : T = false := by
       have h1 := HP.out.2; have h2 := HP.out.1; rw [← h1]; unfold bsHit; rw [h2]; simp [hln]
      subst hTv; go_wp2_with fail; refine bodyPost_ret (v := .tuple #[.int .i64 P, .bool false]) (by simp [results, Tryz.results134, go_sem]) rfl ⟨rfl, bel _ _⟩
def findM (is : List IRec) (n : Int) : Int := if bsHit is n = true then bsM is n else -1
set_option maxRecDepth 100000 in
set_option maxHeartbeats 1000000 in
theorem find110 (is : List IRec) (b off : Nat) (v : Value) (n : Int) (w : World) (ib : BlockLt b w) (c0 : w.cell? ⟨b, off, none⟩ = some v) (h : RowAt w 4 v (is.map IRec.cells)) (hlen : is.length ≤ 1000000000) :
 Calls Tryz.prog 102 #[.pointer (some ⟨b, off, none⟩), .int .i64 n] w fun e w' => e = .returned (.int .i64 (findM is n)) ∧ Below w.heap.size w w' := by
 have hbs := bs119 is v n w h hlen
 unfold findM
 obtain ⟨a, cap, rfl, _, _⟩ := h
 rw [List.length_map] at hbs c0
 generalize bsM is n = P at hbs ⊢
 generalize bsHit is n = T at hbs ⊢
 rcases T with _ | _
 · simp only [Bool.false_eq_true, if_false]
   go_enter Tryz.func102, Tryz.ntmps102
   go_wp2_with (go_at_call 134; refine hbs.mono ?_; rintro e w' ⟨rfl, hb⟩; obtain ⟨p, rfl⟩ := hb.rest; clear hb)
   go_ret; exact ⟨rfl, bel _ _⟩
 · simp only [if_true]
   go_enter Tryz.func102, Tryz.ntmps102
   go_wp2_with (go_at_call 134; refine hbs.mono ?_; rintro e w' ⟨rfl, hb⟩; obtain ⟨p, rfl⟩ := hb.rest; clear hb)
   go_ret; exact ⟨rfl, bel _ _⟩
end Go.Proofs.YtmkapobnfigedaaGreatDoor
