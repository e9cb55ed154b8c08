/- A directory's entry by its name. Conditions: none. -/
import Derived.Test.YtjkenolgkkknaaaGreatDoorSt1
import Derived.Shelf.Small.Strs
set_option linter.unusedVariables false
set_option linter.unusedSimpArgs false
namespace Go.Proofs.YtjkenolgkkknaaaGreatDoor
open Go.RowKit
/-- strings.Compare. -/
def cmpS (a b : ByteArray) : Int := Lib.compareBytes a.data.toList b.data.toList
set_option maxRecDepth 100000 in
theorem cmp168 (a b : ByteArray) (w : World) :
    Calls Tryz.prog 168 #[.string a, .string b] w fun e w' => e = .returned (.int .i64 (cmpS a b)) ∧ Below w.heap.size w w' := by
  go_enter Tryz.func168, Tryz.ntmps168
  go_wp2
  rw [run_callFunc_extern Tryz.func181 (by kernel_rfl) (by kernel_rfl) (by kernel_rfl) (e := Extern.BytealgCompare.compare) (by kernel_rfl), Lib.run_compareString]
  simp only [Result.andThen]
  rw [Oper.upon_value]
  go_wp2
  go_ret
  exact ⟨rfl, bel _ _⟩
theorem cmp154 (a b : ByteArray) (w : World) :
    Calls Tryz.prog 154 #[.string a, .string b] w fun e w' => e = .returned (.int .i64 (cmpS a b)) ∧ Below w.heap.size w w' := by
  go_enter Tryz.func154, Tryz.ntmps154
  go_wp2_with ((go_at_call 168; refine (cmp168 _ _ _).mono ?_; rintro e w' ⟨rfl, hb⟩; obtain ⟨p, rfl⟩ := hb.rest; clear hb))
  go_ret
  exact ⟨rfl, bel _ _⟩
theorem cmp153 (a b : ByteArray) (n : Int) (w : World) :
    Calls Tryz.prog 153 #[.agg #[.string a, .int .i64 n], .string b] w fun e w' => e = .returned (.int .i64 (cmpS a b)) ∧ Below w.heap.size w w' := by
  go_enter Tryz.func153, Tryz.ntmps153
  go_wp2_with ((go_at_call 154; refine (cmp154 _ _ _).mono ?_; rintro e w' ⟨rfl, hb⟩; obtain ⟨p, rfl⟩ := hb.rest; clear hb))
  go_ret
  exact ⟨rfl, bel _ _⟩
def cmpE (es : List PEnt) (s : ByteArray) (q : Nat) : Int := match es[q]? with | some x => cmpS x.name s | none => 0
def bsE (es : List PEnt) (s : ByteArray) : Nat := bsFrom (cmpE es s) es.length 0 es.length
def hitE (es : List PEnt) (s : ByteArray) : Bool := decide (bsE es s < es.length) && (cmpE es s (bsE es s) == 0)
set_option maxRecDepth 100000 in
set_option maxHeartbeats 2000000 in
theorem bs152 (is : List PEnt) (v : Value) (n : ByteArray) (w : World) (h : RowAt w 2 v (is.map PEnt.cells)) (hlen : is.length ≤ 1000000000) :
    Calls Tryz.prog 152 #[v, .string n, .func (.func 153) #[] #[]] w fun e w' => e = .returned (.tuple #[.int .i64 (bsE is n), .bool (hitE is n)]) ∧ Below w.heap.size w w' := by
  obtain ⟨a, cap, rfl, _, hrow⟩ := h
  rw [List.length_map] at hrow ⊢
  have cell : ∀ (wr : World), Below w.heap.size w wr → ∀ (q : Nat), q < is.length → ∃ (b off : Nat) (x : PEnt), a = some ⟨b, off, none⟩ ∧ BlockLt b wr ∧ is[q]? = some x ∧ cmpE is n q = cmpS x.name n ∧ wr.cell? ⟨b, off + q * 2, none⟩ = some (.string x.name) ∧ wr.cell? ⟨b, off + q * 2 + 1, none⟩ = some (.int .i64 x.num) := by
    intro wr hb q hq
    obtain ⟨b, off, rfl, hlt, hc⟩ := hrow (by omega)
    obtain ⟨x, hx⟩ : ∃ x, is[q]? = some x := ⟨_, List.getElem?_eq_getElem hq⟩
    have hm : (is.map PEnt.cells)[q]? = some x.cells := by rw [List.getElem?_map, hx]; rfl
    have hs := hb.size
    have key : ∀ (t : Nat) (u : Value), x.cells[t]? = some u → wr.cell? ⟨b, off + q * 2 + t, none⟩ = some u := fun t u hu => (hb.cell (p := ⟨b, _, none⟩) hlt).trans (hc q _ hm t u hu)
    exact ⟨b, off, x, rfl, ⟨by omega⟩, hx, by unfold cmpE; rw [hx], key 0 _ rfl, key 1 _ rfl⟩
  have HC := Lib.hid cell
  clear cell hrow
  obtain ⟨P, hP⟩ : ∃ P, bsE is n = P := ⟨_, rfl⟩
  obtain ⟨T, hT⟩ : ∃ T, hitE is n = T := ⟨_, rfl⟩
  rw [hP, hT]
  have HP := Lib.hid (And.intro hP hT)
  clear hP hT
  go_enter Tryz.func152, Tryz.ntmps152
  go_wp2_with fail
  go_loopw [9, 10] (fun i j wr => ∃ (lo hi b : Nat), i = .int .i64 lo ∧ j = .int .i64 hi ∧ lo ≤ hi ∧ hi ≤ is.length ∧ hi ≤ lo + b ∧ bsFrom (cmpE is n) b lo hi = P ∧ Below w.heap.size w wr) (fun i j _ => (intOf j - intOf i).toNat)
  case atStart => exact ⟨0, is.length, is.length, rfl, rfl, by omega, by omega, by omega, HP.out.1, bel _ _⟩
  case round =>
    obtain ⟨lo, hi, b, rfl, rfl, hlh, hhn, hfu, hbs, hb⟩ := hrel
    have iB : Bel w wr := ⟨hb⟩
    by_cases hlt : lo < hi
    · obtain ⟨b', rfl⟩ : ∃ b', b = b' + 1 := ⟨b - 1, by omega⟩
      obtain ⟨m, hm⟩ : ∃ m, (lo + hi) / 2 = m := ⟨_, rfl⟩
      obtain ⟨b0, off, x, rfl, iG, hx, hcm, c0, c1⟩ := HC.out wr hb m (by omega)
      rw [bsFrom, if_pos hlt, hm, hcm] at hbs
      have HS := Lib.hid hbs
      clear hbs hcm
      have hmI : ((lo : Int) + hi) / 2 = m := by omega
      have hmn : m < is.length := by omega
      have hmnI : (m : Int) < is.length := by omega
      have hcall : ∀ ww, Calls Tryz.prog 153 #[.agg #[.string x.name, .int .i64 x.num], .string n] ww fun e w' => e = .returned (.int .i64 (cmpS x.name n)) ∧ Below ww.heap.size ww w' := fun ww => cmp153 x.name n x.num ww
      have HM := Lib.hid hm
      clear hm
      by_cases hneg : cmpS x.name n < 0
      · generalize hcv : cmpS x.name n = cv at hcall hneg
        go_wp2_with (go_at_call 153; refine (hcall _).mono ?_; rintro e w' ⟨rfl, hb⟩; obtain ⟨p, rfl⟩ := hb.rest; clear hb)
        go_roundw
        case rel => exact ⟨m + 1, hi, b', by go_num, rfl, by have := HM.out; omega, by omega, by have := HM.out; omega, by have := HS.out; rw [hcv, if_pos hneg] at this; exact this, bel _ _⟩
        case measure => have := HM.out; simp [intOf]; omega
      · generalize hcv : cmpS x.name n = cv at hcall hneg
        go_wp2_with (go_at_call 153; refine (hcall _).mono ?_; rintro e w' ⟨rfl, hb⟩; obtain ⟨p, rfl⟩ := hb.rest; clear hb)
        go_roundw
        case rel => exact ⟨lo, m, b', rfl, rfl, by have := HM.out; omega, by omega, by have := HM.out; omega, by have := HS.out; rw [hcv, if_neg (by omega)] at this; exact this, bel _ _⟩
        case measure => have := HM.out; simp [intOf]; omega
    · obtain rfl : lo = hi := by omega
      rw [bsFrom_end _ _ _ _ hlt] at hbs
      have hPl : P = lo := hbs.symm
      subst hPl
      by_cases hln : P < is.length
      · obtain ⟨b0, off, x, rfl, iG, hx, hcm, c0, c1⟩ := HC.out wr hb P hln
        have hlnI : (P : Int) < is.length := by omega
        have hcall : ∀ ww, Calls Tryz.prog 153 #[.agg #[.string x.name, .int .i64 x.num], .string n] ww fun e w' => e = .returned (.int .i64 (cmpS x.name n)) ∧ Below ww.heap.size ww w' := fun ww => cmp153 x.name n x.num ww
        have hTv : T = (cmpS x.name n == 0) := by
          have h1 := HP.out.2
          have h2 := HP.out.1
          rw [← h1]
          unfold hitE
          rw [h2, hcm]
          simp [hln]
        clear hcm
        generalize cmpS x.name n = cv at hcall hTv
        subst hTv
        go_wp2_with (go_at_call 153; refine (hcall _).mono ?_; rintro e w' ⟨rfl, hb⟩; obtain ⟨p, rfl⟩ := hb.rest; clear hb)
        refine bodyPost_ret (v := .tuple #[.int .i64 P, .bool (cv == 0)]) (by simp [results, Tryz.results152, go_sem]) rfl ⟨rfl, bel _ _⟩
      · have hlnI : ¬ (P : Int) < is.length := by omega
        have hTv : T = false := by
          have h1 := HP.out.2
          have h2 := HP.out.1
          rw [← h1]
          unfold hitE
          rw [h2]
          simp [hln]
        subst hTv
        go_wp2_with fail
        refine bodyPost_ret (v := .tuple #[.int .i64 P, .bool false]) (by simp [results, Tryz.results152, go_sem]) rfl ⟨rfl, bel _ _⟩
set_option maxRecDepth 100000 in
theorem entry114 (es : List PEnt) (v : Value) (s : ByteArray) (w : World) (h : RowAt w 2 v (es.map PEnt.cells)) (hlen : es.length ≤ 1000000000) :
    Calls Tryz.prog 114 #[v, .string s] w fun e w' => e = .returned (.tuple #[.int .i64 (bsE es s), .bool (hitE es s)]) ∧ Below w.heap.size w w' := by
  have hv := h.one
  have hbs := bs152 es v s w h hlen
  generalize bsE es s = P at hbs ⊢
  generalize hitE es s = T at hbs ⊢
  clear h
  go_enter Tryz.func114, Tryz.ntmps114
  go_wp2_with (go_at_call 152; refine hbs.mono ?_; rintro e w' ⟨rfl, hb⟩; obtain ⟨p, rfl⟩ := hb.rest; clear hb)
  exact bodyPost_ret (v := .tuple #[.int .i64 P, .bool T]) (by simp [results, Tryz.results114, go_sem]) rfl ⟨rfl, bel _ _⟩
end Go.Proofs.YtjkenolgkkknaaaGreatDoor
