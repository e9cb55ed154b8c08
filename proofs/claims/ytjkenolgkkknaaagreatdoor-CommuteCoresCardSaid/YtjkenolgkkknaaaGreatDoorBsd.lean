/- Where a new inode's place is. Conditions: none. -/
import Derived.Test.YtjkenolgkkknaaaGreatDoorSt1
set_option linter.unusedVariables false
set_option linter.unusedSimpArgs false
namespace Go.Proofs.YtjkenolgkkknaaaGreatDoor
open Go.RowKit
/-- The compare of create's search: at an inode of number x, with n. -/
def cmpD (x n : Int) : Int := wrap64 (x - n)
theorem cmp120 (x n : Int) (d : Bool) (ev : Value) (s : ByteArray) (hev : ev.oneCell' = true) (w : World) :
    Calls Tryz.prog 120 #[.agg #[.int .i64 x, .bool d, ev, .string s], .int .i64 n] w fun e w' => e = .returned (.int .i64 (cmpD x n)) ∧ Below w.heap.size w w' := by
  unfold cmpD
  go_enter Tryz.func120, Tryz.ntmps120
  go_wp2_with fail
  go_ret
  exact ⟨by first | rfl | simp, bel _ _⟩
def cmpAtD (is : List IRec) (n : Int) (q : Nat) : Int := match is[q]? with | some x => cmpD x.num n | none => 0
def bsD (is : List IRec) (n : Int) : Nat := bsFrom (cmpAtD is n) is.length 0 is.length
def bsHitD (is : List IRec) (n : Int) : Bool := decide (bsD is n < is.length) && (cmpAtD is n (bsD is n) == 0)
def cmpND (ns : List Int) (n : Int) (q : Nat) : Int := match ns[q]? with | some x => cmpD x n | none => 0
/-- The place by the numbers alone. -/
def bsND (ns : List Int) (n : Int) : Nat := bsFrom (cmpND ns n) ns.length 0 ns.length
theorem bsD_num (is : List IRec) (n : Int) : bsD is n = bsND (is.map IRec.num) n := by
  have hc : cmpAtD is n = cmpND (is.map IRec.num) n := by
    funext q
    unfold cmpAtD cmpND
    rw [List.getElem?_map]
    cases is[q]? <;> rfl
  unfold bsD bsND
  rw [hc, List.length_map]
set_option maxRecDepth 100000 in
set_option maxHeartbeats 2000000 in
theorem bs119d (is : List IRec) (v : Value) (n : Int) (w : World) (h : RowAt w 4 v (is.map IRec.cells)) (hlen : is.length ≤ 1000000000) :
    Calls Tryz.prog 119 #[v, .int .i64 n, .func (.func 120) #[] #[]] w fun e w' => e = .returned (.tuple #[.int .i64 (bsD is n), .bool (bsHitD is n)]) ∧ Below w.heap.size w w' := by
  obtain ⟨a, cap, rfl, _, hrow⟩ := h
  rw [List.length_map] at hrow ⊢
  have cell : ∀ (wr : World), Below w.heap.size w wr → ∀ (q : Nat), q < is.length → ∃ (b off : Nat) (x : IRec), a = some ⟨b, off, none⟩ ∧ BlockLt b wr ∧ is[q]? = some x ∧ cmpAtD is n q = cmpD x.num n ∧ wr.cell? ⟨b, off + q * 4, none⟩ = some (.int .i64 x.num) ∧ wr.cell? ⟨b, off + q * 4 + 1, none⟩ = some (.bool x.dir) ∧ wr.cell? ⟨b, off + q * 4 + 2, none⟩ = some x.ev ∧ wr.cell? ⟨b, off + q * 4 + 3, none⟩ = some (.string x.data) := by
    intro wr hb q hq
    obtain ⟨b, off, rfl, hlt, hc⟩ := hrow (by omega)
    obtain ⟨x, hx⟩ : ∃ x, is[q]? = some x := ⟨_, List.getElem?_eq_getElem hq⟩
    have hm : (is.map IRec.cells)[q]? = some x.cells := by rw [List.getElem?_map, hx]; rfl
    have hs := hb.size
    have key : ∀ (t : Nat) (u : Value), x.cells[t]? = some u → wr.cell? ⟨b, off + q * 4 + t, none⟩ = some u := fun t u hu => (hb.cell (p := ⟨b, _, none⟩) hlt).trans (hc q _ hm t u hu)
    exact ⟨b, off, x, rfl, ⟨by omega⟩, hx, by unfold cmpAtD; rw [hx], key 0 _ rfl, key 1 _ rfl, key 2 _ rfl, key 3 _ rfl⟩
  have HC := Lib.hid cell
  clear cell hrow
  obtain ⟨P, hP⟩ : ∃ P, bsD is n = P := ⟨_, rfl⟩
  obtain ⟨T, hT⟩ : ∃ T, bsHitD is n = T := ⟨_, rfl⟩
  rw [hP, hT]
  have HP := Lib.hid (And.intro hP hT)
  clear hP hT
  go_enter Tryz.func119, Tryz.ntmps119
  go_wp2_with fail
  go_loopw [9, 10] (fun i j wr => ∃ (lo hi b : Nat), i = .int .i64 lo ∧ j = .int .i64 hi ∧ lo ≤ hi ∧ hi ≤ is.length ∧ hi ≤ lo + b ∧ bsFrom (cmpAtD is n) b lo hi = P ∧ Below w.heap.size w wr) (fun i j _ => (intOf j - intOf i).toNat)
  case atStart => exact ⟨0, is.length, is.length, rfl, rfl, by omega, by omega, by omega, HP.out.1, bel _ _⟩
  case round =>
    obtain ⟨lo, hi, b, rfl, rfl, hlh, hhn, hfu, hbs, hb⟩ := hrel
    have iB : Bel w wr := ⟨hb⟩
    by_cases hlt : lo < hi
    · obtain ⟨b', rfl⟩ : ∃ b', b = b' + 1 := ⟨b - 1, by omega⟩
      obtain ⟨m, hm⟩ : ∃ m, (lo + hi) / 2 = m := ⟨_, rfl⟩
      obtain ⟨b0, off, x, rfl, iG, hx, hcm, c0, c1, c2, c3⟩ := HC.out wr hb m (by omega)
      have hone := x.one
      rw [bsFrom, if_pos hlt, hm, hcm] at hbs
      have HS := Lib.hid hbs
      clear hbs hcm
      have hmI : ((lo : Int) + hi) / 2 = m := by omega
      have hmn : m < is.length := by omega
      have hmnI : (m : Int) < is.length := by omega
      have hcall : ∀ ww, Calls Tryz.prog 120 #[.agg #[.int .i64 x.num, .bool x.dir, x.ev, .string x.data], .int .i64 n] ww fun e w' => e = .returned (.int .i64 (cmpD x.num n)) ∧ Below ww.heap.size ww w' := fun ww => cmp120 x.num n x.dir x.ev x.data hone ww
      have HM := Lib.hid hm
      clear hm
      by_cases hneg : cmpD x.num n < 0
      · generalize hcv : cmpD x.num n = cv at hcall hneg
        go_wp2_with (go_at_call 120; refine (hcall _).mono ?_; rintro e w' ⟨rfl, hb⟩; obtain ⟨p, rfl⟩ := hb.rest; clear hb)
        go_roundw
        case rel => exact ⟨m + 1, hi, b', by go_num, rfl, by have := HM.out; omega, by omega, by have := HM.out; omega, by have := HS.out; rw [hcv, if_pos hneg] at this; exact this, bel _ _⟩
        case measure => have := HM.out; simp [intOf]; omega
      · generalize hcv : cmpD x.num n = cv at hcall hneg
        go_wp2_with (go_at_call 120; refine (hcall _).mono ?_; rintro e w' ⟨rfl, hb⟩; obtain ⟨p, rfl⟩ := hb.rest; clear hb)
        go_roundw
        case rel => exact ⟨lo, m, b', rfl, rfl, by have := HM.out; omega, by omega, by have := HM.out; omega, by have := HS.out; rw [hcv, if_neg (by omega)] at this; exact this, bel _ _⟩
        case measure => have := HM.out; simp [intOf]; omega
    · obtain rfl : lo = hi := by omega
      rw [bsFrom_end _ _ _ _ hlt] at hbs
      have hPl : P = lo := hbs.symm
      subst hPl
      by_cases hln : P < is.length
      · obtain ⟨b0, off, x, rfl, iG, hx, hcm, c0, c1, c2, c3⟩ := HC.out wr hb P hln
        have hone := x.one
        have hlnI : (P : Int) < is.length := by omega
        have hcall : ∀ ww, Calls Tryz.prog 120 #[.agg #[.int .i64 x.num, .bool x.dir, x.ev, .string x.data], .int .i64 n] ww fun e w' => e = .returned (.int .i64 (cmpD x.num n)) ∧ Below ww.heap.size ww w' := fun ww => cmp120 x.num n x.dir x.ev x.data hone ww
        have hTv : T = (cmpD x.num n == 0) := by
          have h1 := HP.out.2
          have h2 := HP.out.1
          rw [← h1]
          unfold bsHitD
          rw [h2, hcm]
          simp [hln]
        clear hcm
        generalize cmpD x.num n = cv at hcall hTv
        subst hTv
        go_wp2_with (go_at_call 120; refine (hcall _).mono ?_; rintro e w' ⟨rfl, hb⟩; obtain ⟨p, rfl⟩ := hb.rest; clear hb)
        refine bodyPost_ret (v := .tuple #[.int .i64 P, .bool (cv == 0)]) (by simp [results, Tryz.results119, go_sem]) rfl ⟨rfl, bel _ _⟩
      · have hlnI : ¬ (P : Int) < is.length := by omega
        have hTv : T = false := by
          have h1 := HP.out.2
          have h2 := HP.out.1
          rw [← h1]
          unfold bsHitD
          rw [h2]
          simp [hln]
        subst hTv
        go_wp2_with fail
        refine bodyPost_ret (v := .tuple #[.int .i64 P, .bool false]) (by simp [results, Tryz.results119, go_sem]) rfl ⟨rfl, bel _ _⟩
end Go.Proofs.YtjkenolgkkknaaaGreatDoor
