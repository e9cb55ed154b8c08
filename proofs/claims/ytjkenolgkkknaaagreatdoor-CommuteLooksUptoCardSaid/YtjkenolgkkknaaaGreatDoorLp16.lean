/- Part of the proof that the calls that look alone commute. Conditions: none. -/
import Derived.Test.YtjkenolgkkknaaaGreatDoorLp09
import Derived.Test.YtjkenolgkkknaaaGreatDoorLp08
import Derived.Shelf.Small.Strs
set_option linter.unusedVariables false
set_option linter.unusedSimpArgs false
set_option maxRecDepth 100000
set_option maxHeartbeats 8000000
/- path.Code, inum.Num, inum.Core, inum.Made. Conditions: none. -/
set_option linter.unusedVariables false
namespace Go.Proofs.YtjkenolgkkknaaaGreatDoor
open Go.RowKit
def codeM (c : Int) : Int := if c = 0 then 0 else if c = 1101 ∨ c = 1102 then 6 else 9
theorem code167 (c : Int) (w : World) :
    Calls Tryz.prog 167 #[.int .i64 c] w fun e w' => e = .returned (.int .i64 (codeM c)) ∧ Below w.heap.size w w' := by
  by_cases h0 : c = 0
  · subst h0
    go_enter Tryz.func167, Tryz.ntmps167
    go_wp2_with fail
    go_ret
    exact ⟨rfl, bel _ _⟩
  by_cases h1 : c = 1101
  · subst h1
    go_enter Tryz.func167, Tryz.ntmps167
    go_wp2_with fail
    go_ret
    exact ⟨rfl, bel _ _⟩
  by_cases h2 : c = 1102
  · subst h2
    go_enter Tryz.func167, Tryz.ntmps167
    go_wp2_with fail
    go_ret
    exact ⟨rfl, bel _ _⟩
  have e : codeM c = 9 := by simp [codeM, h0, h1, h2]
  rw [e]
  have b0 : (c == 0) = false := beq_eq_false_iff_ne.2 h0
  have b1 : (c == 1101) = false := beq_eq_false_iff_ne.2 h1
  have b2 : (c == 1102) = false := beq_eq_false_iff_ne.2 h2
  clear h0 h1 h2 e
  go_enter Tryz.func167, Tryz.ntmps167
  go_wp2_with fail
  go_ret
  exact ⟨rfl, bel _ _⟩
end Go.Proofs.YtjkenolgkkknaaaGreatDoor
/- A directory's entry by its name. Conditions: none. -/
set_option linter.unusedVariables false
set_option linter.unusedSimpArgs false
namespace Go.Proofs.YtjkenolgkkknaaaGreatDoor
open Go.RowKit
/-- strings.Compare. -/
def cmpS (a b : ByteArray) : Int := Lib.compareBytes a.data.toList b.data.toList
set_option maxRecDepth 100000 in
theorem cmp168 (a b : ByteArray) (w : World) :
    Calls Tryz.prog 168 #[.string a, .string b] w fun e w' => e = .returned (.int .i64 (cmpS a b)) ∧ Below w.heap.size w w' := by
  go_enter Tryz.func168, Tryz.ntmps168
  go_wp2
  rw [run_callFunc_extern Tryz.func181 (by kernel_rfl) (by kernel_rfl) (by kernel_rfl) (e := Extern.BytealgCompare.compare) (by kernel_rfl), Lib.run_compareString]
  simp only [Result.andThen]
  rw [Oper.upon_value]
  go_wp2
  go_ret
  exact ⟨rfl, bel _ _⟩
theorem cmp154 (a b : ByteArray) (w : World) :
    Calls Tryz.prog 154 #[.string a, .string b] w fun e w' => e = .returned (.int .i64 (cmpS a b)) ∧ Below w.heap.size w w' := by
  go_enter Tryz.func154, Tryz.ntmps154
  go_wp2_with ((go_at_call 168; refine (cmp168 _ _ _).mono ?_; rintro e w' ⟨rfl, hb⟩; obtain ⟨p, rfl⟩ := hb.rest; clear hb))
  go_ret
  exact ⟨rfl, bel _ _⟩
theorem cmp153 (a b : ByteArray) (n : Int) (w : World) :
    Calls Tryz.prog 153 #[.agg #[.string a, .int .i64 n], .string b] w fun e w' => e = .returned (.int .i64 (cmpS a b)) ∧ Below w.heap.size w w' := by
  go_enter Tryz.func153, Tryz.ntmps153
  go_wp2_with ((go_at_call 154; refine (cmp154 _ _ _).mono ?_; rintro e w' ⟨rfl, hb⟩; obtain ⟨p, rfl⟩ := hb.rest; clear hb))
  go_ret
  exact ⟨rfl, bel _ _⟩
def cmpE (es : List PEnt) (s : ByteArray) (q : Nat) : Int := match es[q]? with | some x => cmpS x.name s | none => 0
def bsE (es : List PEnt) (s : ByteArray) : Nat := bsFrom (cmpE es s) es.length 0 es.length
def hitE (es : List PEnt) (s : ByteArray) : Bool := decide (bsE es s < es.length) && (cmpE es s (bsE es s) == 0)
set_option maxRecDepth 100000 in
set_option maxHeartbeats 2000000 in
theorem bs152 (is : List PEnt) (v : Value) (n : ByteArray) (w : World) (h : RowAt w 2 v (is.map PEnt.cells)) (hlen : is.length ≤ 1000000000) :
    Calls Tryz.prog 152 #[v, .string n, .func (.func 153) #[] #[]] w fun e w' => e = .returned (.tuple #[.int .i64 (bsE is n), .bool (hitE is n)]) ∧ Below w.heap.size w w' := by
  obtain ⟨a, cap, rfl, _, hrow⟩ := h
  rw [List.length_map] at hrow ⊢
  have cell : ∀ (wr : World), Below w.heap.size w wr → ∀ (q : Nat), q < is.length → ∃ (b off : Nat) (x : PEnt), a = some ⟨b, off, none⟩ ∧ BlockLt b wr ∧ is[q]? = some x ∧ cmpE is n q = cmpS x.name n ∧ wr.cell? ⟨b, off + q * 2, none⟩ = some (.string x.name) ∧ wr.cell? ⟨b, off + q * 2 + 1, none⟩ = some (.int .i64 x.num) := by
    intro wr hb q hq
    obtain ⟨b, off, rfl, hlt, hc⟩ := hrow (by omega)
    obtain ⟨x, hx⟩ : ∃ x, is[q]? = some x := ⟨_, List.getElem?_eq_getElem hq⟩
    have hm : (is.map PEnt.cells)[q]? = some x.cells := by rw [List.getElem?_map, hx]; rfl
    have hs := hb.size
    have key : ∀ (t : Nat) (u : Value), x.cells[t]? = some u → wr.cell? ⟨b, off + q * 2 + t, none⟩ = some u := fun t u hu => (hb.cell (p := ⟨b, _, none⟩) hlt).trans (hc q _ hm t u hu)
    exact ⟨b, off, x, rfl, ⟨by omega⟩, hx, by unfold cmpE; rw [hx], key 0 _ rfl, key 1 _ rfl⟩
  have HC := Lib.hid cell
  clear cell hrow
  obtain ⟨P, hP⟩ : ∃ P, bsE is n = P := ⟨_, rfl⟩
  obtain ⟨T, hT⟩ : ∃ T, hitE is n = T := ⟨_, rfl⟩
  rw [hP, hT]
  have HP := Lib.hid (And.intro hP hT)
  clear hP hT
  go_enter Tryz.func152, Tryz.ntmps152
  go_wp2_with fail
  go_loopw [9, 10] (fun i j wr => ∃ (lo hi b : Nat), i = .int .i64 lo ∧ j = .int .i64 hi ∧ lo ≤ hi ∧ hi ≤ is.length ∧ hi ≤ lo + b ∧ bsFrom (cmpE is n) b lo hi = P ∧ Below w.heap.size w wr) (fun i j _ => (intOf j - intOf i).toNat)
  case atStart => exact ⟨0, is.length, is.length, rfl, rfl, by omega, by omega, by omega, HP.out.1, bel _ _⟩
  case round =>
    obtain ⟨lo, hi, b, rfl, rfl, hlh, hhn, hfu, hbs, hb⟩ := hrel
    have iB : Bel w wr := ⟨hb⟩
    by_cases hlt : lo < hi
    · obtain ⟨b', rfl⟩ : ∃ b', b = b' + 1 := ⟨b - 1, by omega⟩
      obtain ⟨m, hm⟩ : ∃ m, (lo + hi) / 2 = m := ⟨_, rfl⟩
      obtain ⟨b0, off, x, rfl, iG, hx, hcm, c0, c1⟩ := HC.out wr hb m (by omega)
      rw [bsFrom, if_pos hlt, hm, hcm] at hbs
      have HS := Lib.hid hbs
      clear hbs hcm
      have hmI : ((lo : Int) + hi) / 2 = m := by omega
      have hmn : m < is.length := by omega
      have hmnI : (m : Int) < is.length := by omega
      have hcall : ∀ ww, Calls Tryz.prog 153 #[.agg #[.string x.name, .int .i64 x.num], .string n] ww fun e w' => e = .returned (.int .i64 (cmpS x.name n)) ∧ Below ww.heap.size ww w' := fun ww => cmp153 x.name n x.num ww
      have HM := Lib.hid hm
      clear hm
      by_cases hneg : cmpS x.name n < 0
      · generalize hcv : cmpS x.name n = cv at hcall hneg
        go_wp2_with (go_at_call 153; refine (hcall _).mono ?_; rintro e w' ⟨rfl, hb⟩; obtain ⟨p, rfl⟩ := hb.rest; clear hb)
        go_roundw
        case rel => exact ⟨m + 1, hi, b', by go_num, rfl, by have := HM.out; omega, by omega, by have := HM.out; omega, by have := HS.out; rw [hcv, if_pos hneg] at this; exact this, bel _ _⟩
        case measure => have := HM.out; simp [intOf]; omega
      · generalize hcv : cmpS x.name n = cv at hcall hneg
        go_wp2_with (go_at_call 153; refine (hcall _).mono ?_; rintro e w' ⟨rfl, hb⟩; obtain ⟨p, rfl⟩ := hb.rest; clear hb)
        go_roundw
        case rel => exact ⟨lo, m, b', rfl, rfl, by have := HM.out; omega, by omega, by have := HM.out; omega, by have := HS.out; rw [hcv, if_neg (by omega)] at this; exact this, bel _ _⟩
        case measure => have := HM.out; simp [intOf]; omega
    · obtain rfl : lo = hi := by omega
      rw [bsFrom_end _ _ _ _ hlt] at hbs
      have hPl : P = lo := hbs.symm
      subst hPl
      by_cases hln : P < is.length
      · obtain ⟨b0, off, x, rfl, iG, hx, hcm, c0, c1⟩ := HC.out wr hb P hln
        have hlnI : (P : Int) < is.length := by omega
        have hcall : ∀ ww, Calls Tryz.prog 153 #[.agg #[.string x.name, .int .i64 x.num], .string n] ww fun e w' => e = .returned (.int .i64 (cmpS x.name n)) ∧ Below ww.heap.size ww w' := fun ww => cmp153 x.name n x.num ww
        have hTv : T = (cmpS x.name n == 0) := by
          have h1 := HP.out.2
          have h2 := HP.out.1
          rw [← h1]
          unfold hitE
          rw [h2, hcm]
          simp [hln]
        clear hcm
        generalize cmpS x.name n = cv at hcall hTv
        subst hTv
        go_wp2_with (go_at_call 153; refine (hcall _).mono ?_; rintro e w' ⟨rfl, hb⟩; obtain ⟨p, rfl⟩ := hb.rest; clear hb)
        refine bodyPost_ret (v := .tuple #[.int .i64 P, .bool (cv == 0)]) (by simp [results, Tryz.results152, go_sem]) rfl ⟨rfl, bel _ _⟩
      · have hlnI : ¬ (P : Int) < is.length := by omega
        have hTv : T = false := by
          have h1 := HP.out.2
          have h2 := HP.out.1
          rw [← h1]
          unfold hitE
          rw [h2]
          simp [hln]
        subst hTv
        go_wp2_with fail
        refine bodyPost_ret (v := .tuple #[.int .i64 P, .bool false]) (by simp [results, Tryz.results152, go_sem]) rfl ⟨rfl, bel _ _⟩
set_option maxRecDepth 100000 in
theorem entry114 (es : List PEnt) (v : Value) (s : ByteArray) (w : World) (h : RowAt w 2 v (es.map PEnt.cells)) (hlen : es.length ≤ 1000000000) :
    Calls Tryz.prog 114 #[v, .string s] w fun e w' => e = .returned (.tuple #[.int .i64 (bsE es s), .bool (hitE es s)]) ∧ Below w.heap.size w w' := by
  have hv := h.one
  have hbs := bs152 es v s w h hlen
  generalize bsE es s = P at hbs ⊢
  generalize hitE es s = T at hbs ⊢
  clear h
  go_enter Tryz.func114, Tryz.ntmps114
  go_wp2_with (go_at_call 152; refine hbs.mono ?_; rintro e w' ⟨rfl, hb⟩; obtain ⟨p, rfl⟩ := hb.rest; clear hb)
  exact bodyPost_ret (v := .tuple #[.int .i64 P, .bool T]) (by simp [results, Tryz.results114, go_sem]) rfl ⟨rfl, bel _ _⟩
end Go.Proofs.YtjkenolgkkknaaaGreatDoor
/- slices.Clone of the four kinds of rows. Conditions: none. -/
set_option linter.unusedVariables false
set_option linter.unusedSimpArgs false
namespace Go.Proofs.YtjkenolgkkknaaaGreatDoor
open Go.RowKit
theorem info65 : (Tryz.prog.info? 65).map (fun i => (i.zero, i.size, i.bytes)) = some (some (.agg #[.int .i64 0, .bool false, .slice none 0 0, .string ByteArray.empty]), 4, 56) := by kernel_rfl
theorem info99 : (Tryz.prog.info? 99).map (fun i => (i.zero, i.size, i.bytes)) = some (some (.agg #[.string ByteArray.empty, .int .i64 0]), 2, 24) := by kernel_rfl
theorem info88 : (Tryz.prog.info? 88).map (fun i => (i.zero, i.size, i.bytes)) = some (some (.agg #[.int .i64 0, .int .i64 0, .int .i64 0]), 3, 24) := by kernel_rfl
theorem flat_at {α : Type} (k : Nat) : ∀ (rows : List (List α)), (∀ cs ∈ rows, cs.length = k) → ∀ q t, t < k → rows.flatten[q * k + t]? = (rows[q]?).bind fun cs => cs[t]?
  | [], _, q, t, _ => by simp
  | c :: r, h, q, t, ht => by
    have hc : c.length = k := h c (by simp)
    rw [List.flatten_cons]
    rcases q with _ | q
    · rw [Nat.zero_mul, Nat.zero_add, List.getElem?_append_left (by omega)]
      rfl
    · rw [List.getElem?_append_right (by rw [hc, Nat.add_mul]; omega), hc, show (q + 1) * k + t - k = q * k + t by rw [Nat.add_mul]; omega, flat_at k r (fun cs hcs => h cs (by simp [hcs])) q t ht]
      rfl
theorem flat_len {α : Type} (k : Nat) : ∀ (rows : List (List α)), (∀ cs ∈ rows, cs.length = k) → rows.flatten.length = rows.length * k
  | [], _ => by simp
  | c :: r, h => by
    rw [List.flatten_cons, List.length_append, flat_len k r (fun cs hcs => h cs (by simp [hcs])), h c (by simp), List.length_cons, Nat.add_mul]
    omega
/-- A row that is read, as one list of cells. -/
theorem RowAt.flat {w : World} {k : Nat} {v : Value} {rows : List (List Value)} (h : RowAt w k v rows) (hk : 0 < k) (hu : ∀ cs ∈ rows, cs.length = k) :
    ∃ a cap, v = .slice a rows.length cap ∧ ∀ x, a = some x → ∀ j u, rows.flatten[j]? = some u → w.cell? (x.add j) = some u := by
  obtain ⟨a, cap, rfl, hm, hr⟩ := h
  refine ⟨a, cap, rfl, fun x hx j u hj => ?_⟩
  have hjl : j < rows.length * k := by
    obtain ⟨h, _⟩ := List.getElem?_eq_some_iff.1 hj
    rwa [flat_len k rows hu] at h
  have hpos : 0 < rows.length := by
    rcases Nat.eq_zero_or_pos rows.length with h0 | h0
    · rw [h0, Nat.zero_mul] at hjl; omega
    · exact h0
  obtain ⟨b, off, hab, _, hc⟩ := hr hpos
  subst hx
  obtain rfl : x = ⟨b, off, none⟩ := by simpa using hab
  have hj2 : j = j / k * k + j % k := by rw [Nat.mul_comm]; exact (Nat.div_add_mod j k).symm
  rw [hj2] at hj ⊢
  have ht : j % k < k := Nat.mod_lt _ hk
  rw [flat_at k rows hu _ _ ht] at hj
  obtain ⟨cs, hcs, hcu⟩ := Option.bind_eq_some_iff.1 hj
  rw [Addr.add_lit]
  show w.cell? ⟨b, off + (j / k * k + j % k), none⟩ = some u
  rw [← Nat.add_assoc]
  exact hc _ _ hcs _ _ hcu
set_option maxRecDepth 100000 in
set_option maxHeartbeats 2000000 in
theorem clone67 (rows : List (List Value)) (v : Value) (w : World) (h : RowAt w 4 v rows) (hu : ∀ cs ∈ rows, cs.length = 4) (h1 : ∀ cs ∈ rows, ∀ u ∈ cs, u.oneCell' = true) (hn : rows.length ≤ 1000000000) :
    Calls Tryz.prog 67 #[v] w fun e w' => ∃ v', e = .returned v' ∧ w'.ownsRow w.heap.size 65 4 v' rows.length rows.flatten ∧ Below w.heap.size w w' := by
  obtain ⟨i0, hi, hz0, hz1, hz2⟩ := info_parts info65
  have hl := flat_len 4 rows hu
  have h1' : ∀ u ∈ rows.flatten, u.oneCell' = true := fun u hm => by
    obtain ⟨cs, hc, hm⟩ := List.mem_flatten.1 hm
    exact h1 cs hc u hm
  have h0' : RowAt w 4 v rows := h
  obtain ⟨a, cap, rfl, hc⟩ := h.flat (by decide) hu
  have q : ∀ (w : World) (a : Option Addr) (n c n' c' : Nat), (binOp .eql 23 (.slice a n c) (.slice none n' c')).run Tryz.prog w = .ok (.bool a.isNone) w := fun w a n c n' c' => Lib.run_eql_slice_nil w _ _ a n c n' c' Tryz.underlying23
  rcases a with _ | x
  · obtain ⟨a', c', e1, _, hr⟩ := h0'
    have hz : rows.length = 0 := by
      rcases Nat.eq_zero_or_pos rows.length with h0 | h0
      · exact h0
      · obtain ⟨b, off, hb, _⟩ := hr h0
        rw [hb] at e1
        simp at e1
    obtain rfl : rows = [] := List.eq_nil_of_length_eq_zero hz
    clear hc h1 h1' hr h
    go_enter Tryz.func67, Tryz.ntmps67
    go_wp2_with fail
    go_ret
    exact ⟨_, rfl, ⟨rfl, .inl ⟨rfl, rfl⟩⟩, bel _ _⟩
  · have A := Lib.hid (hc x rfl)
    clear hc h h0'
    go_enter Tryz.func67, Tryz.ntmps67
    go_wp2_with (at_builtin; refine wpList_append_own _ rfl _ _ 23 rfl w.heap.size 65 i0 (.agg #[.int .i64 0, .bool false, .slice none 0 0, .string ByteArray.empty]) 4 56 Tryz.underlying23 hi hz0 hz1 hz2 rfl (by decide) _ _ _ rfl (World.ownsRow_made w #[] 0 (Nat.le_refl _) (Nat.zero_le _) (by simp)) x rows.length cap rows.flatten rfl ?qc1 ?qc2 ?qc3 ?qc4 ?qc5 ?qc6 ?_)
    case qc1 => exact hl
    case qc2 =>
      intro j u hj
      exact Lib.cell?_alloc_some _ (A.out j u hj)
    case qc3 => exact h1'
    case qc4 => unfold maxLen; omega
    case qc5 => omega
    case qc6 => simp
    intro v' w1 hown hgrow hnil
    go_wp2_with fail
    go_ret
    refine ⟨v', rfl, by simpa using hown, ?_⟩
    exact ((Keep.refl (fun _ => False) w).alloc _ |>.grown hgrow (fun k hk => .inr (by simp [Value.ownBlock] at hk; omega))).below (Nat.le_refl _) (fun i _ h => h)
set_option maxRecDepth 100000 in
set_option maxHeartbeats 2000000 in
theorem clone68 (rows : List (List Value)) (v : Value) (w : World) (h : RowAt w 2 v rows) (hu : ∀ cs ∈ rows, cs.length = 2) (h1 : ∀ cs ∈ rows, ∀ u ∈ cs, u.oneCell' = true) (hn : rows.length ≤ 1000000000) :
    Calls Tryz.prog 68 #[v] w fun e w' => ∃ v', e = .returned v' ∧ w'.ownsRow w.heap.size 99 2 v' rows.length rows.flatten ∧ Below w.heap.size w w' := by
  obtain ⟨i0, hi, hz0, hz1, hz2⟩ := info_parts info99
  have hl := flat_len 2 rows hu
  have h1' : ∀ u ∈ rows.flatten, u.oneCell' = true := fun u hm => by
    obtain ⟨cs, hc, hm⟩ := List.mem_flatten.1 hm
    exact h1 cs hc u hm
  have h0' : RowAt w 2 v rows := h
  obtain ⟨a, cap, rfl, hc⟩ := h.flat (by decide) hu
  have q : ∀ (w : World) (a : Option Addr) (n c n' c' : Nat), (binOp .eql 63 (.slice a n c) (.slice none n' c')).run Tryz.prog w = .ok (.bool a.isNone) w := fun w a n c n' c' => Lib.run_eql_slice_nil w _ _ a n c n' c' Tryz.underlying63
  rcases a with _ | x
  · obtain ⟨a', c', e1, _, hr⟩ := h0'
    have hz : rows.length = 0 := by
      rcases Nat.eq_zero_or_pos rows.length with h0 | h0
      · exact h0
      · obtain ⟨b, off, hb, _⟩ := hr h0
        rw [hb] at e1
        simp at e1
    obtain rfl : rows = [] := List.eq_nil_of_length_eq_zero hz
    clear hc h1 h1' hr h
    go_enter Tryz.func68, Tryz.ntmps68
    go_wp2_with fail
    go_ret
    exact ⟨_, rfl, ⟨rfl, .inl ⟨rfl, rfl⟩⟩, bel _ _⟩
  · have A := Lib.hid (hc x rfl)
    clear hc h h0'
    go_enter Tryz.func68, Tryz.ntmps68
    go_wp2_with (at_builtin; refine wpList_append_own _ rfl _ _ 63 rfl w.heap.size 99 i0 (.agg #[.string ByteArray.empty, .int .i64 0]) 2 24 Tryz.underlying63 hi hz0 hz1 hz2 rfl (by decide) _ _ _ rfl (World.ownsRow_made w #[] 0 (Nat.le_refl _) (Nat.zero_le _) (by simp)) x rows.length cap rows.flatten rfl ?qc1 ?qc2 ?qc3 ?qc4 ?qc5 ?qc6 ?_)
    case qc1 => exact hl
    case qc2 =>
      intro j u hj
      exact Lib.cell?_alloc_some _ (A.out j u hj)
    case qc3 => exact h1'
    case qc4 => unfold maxLen; omega
    case qc5 => omega
    case qc6 => simp
    intro v' w1 hown hgrow hnil
    go_wp2_with fail
    go_ret
    refine ⟨v', rfl, by simpa using hown, ?_⟩
    exact ((Keep.refl (fun _ => False) w).alloc _ |>.grown hgrow (fun k hk => .inr (by simp [Value.ownBlock] at hk; omega))).below (Nat.le_refl _) (fun i _ h => h)
set_option maxRecDepth 100000 in
set_option maxHeartbeats 2000000 in
theorem clone69 (rows : List (List Value)) (v : Value) (w : World) (h : RowAt w 3 v rows) (hu : ∀ cs ∈ rows, cs.length = 3) (h1 : ∀ cs ∈ rows, ∀ u ∈ cs, u.oneCell' = true) (hn : rows.length ≤ 1000000000) :
    Calls Tryz.prog 69 #[v] w fun e w' => ∃ v', e = .returned v' ∧ w'.ownsRow w.heap.size 88 3 v' rows.length rows.flatten ∧ Below w.heap.size w w' := by
  obtain ⟨i0, hi, hz0, hz1, hz2⟩ := info_parts info88
  have hl := flat_len 3 rows hu
  have h1' : ∀ u ∈ rows.flatten, u.oneCell' = true := fun u hm => by
    obtain ⟨cs, hc, hm⟩ := List.mem_flatten.1 hm
    exact h1 cs hc u hm
  have h0' : RowAt w 3 v rows := h
  obtain ⟨a, cap, rfl, hc⟩ := h.flat (by decide) hu
  have q : ∀ (w : World) (a : Option Addr) (n c n' c' : Nat), (binOp .eql 24 (.slice a n c) (.slice none n' c')).run Tryz.prog w = .ok (.bool a.isNone) w := fun w a n c n' c' => Lib.run_eql_slice_nil w _ _ a n c n' c' Tryz.underlying24
  rcases a with _ | x
  · obtain ⟨a', c', e1, _, hr⟩ := h0'
    have hz : rows.length = 0 := by
      rcases Nat.eq_zero_or_pos rows.length with h0 | h0
      · exact h0
      · obtain ⟨b, off, hb, _⟩ := hr h0
        rw [hb] at e1
        simp at e1
    obtain rfl : rows = [] := List.eq_nil_of_length_eq_zero hz
    clear hc h1 h1' hr h
    go_enter Tryz.func69, Tryz.ntmps69
    go_wp2_with fail
    go_ret
    exact ⟨_, rfl, ⟨rfl, .inl ⟨rfl, rfl⟩⟩, bel _ _⟩
  · have A := Lib.hid (hc x rfl)
    clear hc h h0'
    go_enter Tryz.func69, Tryz.ntmps69
    go_wp2_with (at_builtin; refine wpList_append_own _ rfl _ _ 24 rfl w.heap.size 88 i0 (.agg #[.int .i64 0, .int .i64 0, .int .i64 0]) 3 24 Tryz.underlying24 hi hz0 hz1 hz2 rfl (by decide) _ _ _ rfl (World.ownsRow_made w #[] 0 (Nat.le_refl _) (Nat.zero_le _) (by simp)) x rows.length cap rows.flatten rfl ?qc1 ?qc2 ?qc3 ?qc4 ?qc5 ?qc6 ?_)
    case qc1 => exact hl
    case qc2 =>
      intro j u hj
      exact Lib.cell?_alloc_some _ (A.out j u hj)
    case qc3 => exact h1'
    case qc4 => unfold maxLen; omega
    case qc5 => omega
    case qc6 => simp
    intro v' w1 hown hgrow hnil
    go_wp2_with fail
    go_ret
    refine ⟨v', rfl, by simpa using hown, ?_⟩
    exact ((Keep.refl (fun _ => False) w).alloc _ |>.grown hgrow (fun k hk => .inr (by simp [Value.ownBlock] at hk; omega))).below (Nat.le_refl _) (fun i _ h => h)
set_option maxRecDepth 100000 in
set_option maxHeartbeats 2000000 in
theorem clone70 (rows : List (List Value)) (v : Value) (w : World) (h : RowAt w 1 v rows) (hu : ∀ cs ∈ rows, cs.length = 1) (h1 : ∀ cs ∈ rows, ∀ u ∈ cs, u.oneCell' = true) (hn : rows.length ≤ 1000000000) :
    Calls Tryz.prog 70 #[v] w fun e w' => ∃ v', e = .returned v' ∧ w'.ownsRow w.heap.size 3 1 v' rows.length rows.flatten ∧ Below w.heap.size w w' := by
  obtain ⟨i0, hi, hz0, hz1, hz2⟩ := info_parts info3
  have hl := flat_len 1 rows hu
  have h1' : ∀ u ∈ rows.flatten, u.oneCell' = true := fun u hm => by
    obtain ⟨cs, hc, hm⟩ := List.mem_flatten.1 hm
    exact h1 cs hc u hm
  have h0' : RowAt w 1 v rows := h
  obtain ⟨a, cap, rfl, hc⟩ := h.flat (by decide) hu
  have q : ∀ (w : World) (a : Option Addr) (n c n' c' : Nat), (binOp .eql 25 (.slice a n c) (.slice none n' c')).run Tryz.prog w = .ok (.bool a.isNone) w := fun w a n c n' c' => Lib.run_eql_slice_nil w _ _ a n c n' c' Tryz.underlying25
  rcases a with _ | x
  · obtain ⟨a', c', e1, _, hr⟩ := h0'
    have hz : rows.length = 0 := by
      rcases Nat.eq_zero_or_pos rows.length with h0 | h0
      · exact h0
      · obtain ⟨b, off, hb, _⟩ := hr h0
        rw [hb] at e1
        simp at e1
    obtain rfl : rows = [] := List.eq_nil_of_length_eq_zero hz
    clear hc h1 h1' hr h
    go_enter Tryz.func70, Tryz.ntmps70
    go_wp2_with fail
    go_ret
    exact ⟨_, rfl, ⟨rfl, .inl ⟨rfl, rfl⟩⟩, bel _ _⟩
  · have A := Lib.hid (hc x rfl)
    clear hc h h0'
    go_enter Tryz.func70, Tryz.ntmps70
    go_wp2_with (at_builtin; refine wpList_append_own _ rfl _ _ 25 rfl w.heap.size 3 i0 (.int .i64 0) 1 8 Tryz.underlying25 hi hz0 hz1 hz2 rfl (by decide) _ _ _ rfl (World.ownsRow_made w #[] 0 (Nat.le_refl _) (Nat.zero_le _) (by simp)) x rows.length cap rows.flatten rfl ?qc1 ?qc2 ?qc3 ?qc4 ?qc5 ?qc6 ?_)
    case qc1 => exact hl
    case qc2 =>
      intro j u hj
      exact Lib.cell?_alloc_some _ (A.out j u hj)
    case qc3 => exact h1'
    case qc4 => unfold maxLen; omega
    case qc5 => omega
    case qc6 => simp
    intro v' w1 hown hgrow hnil
    go_wp2_with fail
    go_ret
    refine ⟨v', rfl, by simpa using hown, ?_⟩
    exact ((Keep.refl (fun _ => False) w).alloc _ |>.grown hgrow (fun k hk => .inr (by simp [Value.ownBlock] at hk; omega))).below (Nat.le_refl _) (fun i _ h => h)
end Go.Proofs.YtjkenolgkkknaaaGreatDoor
/- A state that a call owns, each row in a block of its own. Conditions: none. -/
set_option linter.unusedVariables false
set_option linter.unusedSimpArgs false
namespace Go.Proofs.YtjkenolgkkknaaaGreatDoor
open Go.RowKit
def RowsIn (arr : Array Value) (k : Nat) (rows : List (List Value)) : Prop := ∀ (q : Nat) (cs : List Value), rows[q]? = some cs → ∀ (t : Nat) (u : Value), cs[t]? = some u → arr[q * k + t]? = some u
/-- A slice of the call's own, from its block's first cell on. -/
def OwnP (B : Nat) (w : World) (e : TypeId) (k : Nat) (v : Value) (rows : List (List Value)) : Prop :=
  (v = .slice none 0 0 ∧ rows = []) ∨ ∃ g cap arr, v = .slice (some ⟨g, 0, none⟩) rows.length cap ∧ B ≤ g ∧ Blk w g arr e ∧ rows.length ≤ cap ∧ cap ≤ maxLen ∧ arr.size = cap * k ∧ RowsIn arr k rows
theorem OwnP.of_own {B : Nat} {w : World} {e : TypeId} {k : Nat} {v : Value} {rows : List (List Value)} (h : w.ownsRow B e k v rows.length rows.flatten) (hk : 0 < k) (hu : ∀ cs ∈ rows, cs.length = k) : OwnP B w e k v rows := by
  obtain ⟨hl, h0 | ⟨g, cap, cur, rfl, hg, hb, hn, hm, hs, ht⟩⟩ := h
  · exact .inl ⟨h0.1, List.eq_nil_of_length_eq_zero h0.2⟩
  · refine .inr ⟨g, cap, cur, rfl, hg, hb, hn, hm, hs, fun q cs hq t u hc => ?_⟩
    have htk : t < k := by
      have := hu cs (List.mem_of_getElem? hq)
      obtain ⟨h, _⟩ := List.getElem?_eq_some_iff.1 hc
      omega
    obtain ⟨hql, _⟩ := List.getElem?_eq_some_iff.1 hq
    have h1 : rows.flatten[q * k + t]? = some u := by rw [flat_at k rows hu q t htk, hq]; exact hc
    rw [← ht, List.getElem?_take] at h1
    have : q * k + t < rows.length * k := by
      have h2 : (q + 1) * k ≤ rows.length * k := Nat.mul_le_mul_right _ (by omega)
      rw [Nat.add_mul, Nat.one_mul] at h2
      omega
    rw [if_pos this] at h1
    simpa using h1
theorem OwnP.own {B : Nat} {w : World} {e : TypeId} {k : Nat} {v : Value} {rows : List (List Value)} (h : OwnP B w e k v rows) (hk : 0 < k) (hu : ∀ cs ∈ rows, cs.length = k) : w.ownsRow B e k v rows.length rows.flatten := by
  refine ⟨flat_len k rows hu, ?_⟩
  rcases h with ⟨rfl, rfl⟩ | ⟨g, cap, cur, rfl, hg, hb, hn, hm, hs, hr⟩
  · exact .inl ⟨rfl, rfl⟩
  · refine .inr ⟨g, cap, cur, rfl, hg, hb, hn, hm, hs, ?_⟩
    apply List.ext_getElem?
    intro i
    have hl := flat_len k rows hu
    rw [List.getElem?_take]
    by_cases hi : i < rows.length * k
    · rw [if_pos hi]
      have hi2 : i = i / k * k + i % k := by rw [Nat.mul_comm]; exact (Nat.div_add_mod i k).symm
      have ht : i % k < k := Nat.mod_lt _ hk
      have hq : i / k < rows.length := Nat.div_lt_of_lt_mul (by rwa [Nat.mul_comm])
      have hlen := hu rows[i / k] (List.getElem_mem hq)
      have h1 := hr (i / k) rows[i / k] (List.getElem?_eq_getElem hq) (i % k) rows[i / k][i % k] (List.getElem?_eq_getElem (by omega))
      have key : ∀ j, j = i / k * k + i % k → cur.toList[j]? = rows.flatten[j]? := by
        intro j hj
        rw [hj, flat_at k rows hu _ _ ht, List.getElem?_eq_getElem hq]
        show _ = rows[i / k][i % k]?
        rw [show rows[i / k][i % k]? = some rows[i / k][i % k] from List.getElem?_eq_getElem (by omega), ← h1]
        simp
      exact key i hi2
    · rw [if_neg hi, List.getElem?_eq_none (by omega)]
theorem OwnP.row {B : Nat} {w : World} {e : TypeId} {k : Nat} {v : Value} {rows : List (List Value)} (h : OwnP B w e k v rows) : RowAt w k v rows := by
  rcases h with ⟨rfl, rfl⟩ | ⟨g, cap, cur, rfl, hg, hb, hn, hm, hs, hr⟩
  · exact ⟨none, 0, rfl, by simp, fun h => absurd h (by simp)⟩
  · exact ⟨_, _, rfl, by omega, fun _ => ⟨g, 0, rfl, hb.lt.lt, fun q cs hq t u hc => by rw [hb.cell, Nat.zero_add]; exact hr q cs hq t u hc⟩⟩
theorem OwnP.keep {B : Nat} {w w' : World} {e : TypeId} {k : Nat} {v : Value} {rows : List (List Value)} {S : Nat → Prop} (h : OwnP B w e k v rows) (hk : Keep S w w') (hn : ∀ g, v.ownBlock = some g → ¬ S g) : OwnP B w' e k v rows := by
  rcases h with h | ⟨g, cap, cur, rfl, hg, hb, r⟩
  · exact .inl h
  · exact .inr ⟨g, cap, cur, rfl, hg, hk.blk hb (hn g rfl), r⟩
theorem OwnP.mono {B B' : Nat} {w : World} {e : TypeId} {k : Nat} {v : Value} {rows : List (List Value)} (h : OwnP B w e k v rows) (hb : B' ≤ B) : OwnP B' w e k v rows := by
  rcases h with h | ⟨g, cap, cur, rfl, hg, r⟩
  · exact .inl h
  · exact .inr ⟨g, cap, cur, rfl, by omega, r⟩
theorem OwnP.ge {B : Nat} {w : World} {e : TypeId} {k : Nat} {v : Value} {rows : List (List Value)} (h : OwnP B w e k v rows) {g : Nat} (hg : v.ownBlock = some g) : B ≤ g := by
  rcases h with ⟨rfl, _⟩ | ⟨g', cap, cur, rfl, hg', r⟩
  · simp [Value.ownBlock] at hg
  · simp [Value.ownBlock] at hg; omega
theorem OwnP.lt {B : Nat} {w : World} {e : TypeId} {k : Nat} {v : Value} {rows : List (List Value)} (h : OwnP B w e k v rows) {g : Nat} (hg : v.ownBlock = some g) : g < w.heap.size := by
  rcases h with ⟨rfl, _⟩ | ⟨g', cap, cur, rfl, hg', hb, r⟩
  · simp [Value.ownBlock] at hg
  · simp [Value.ownBlock] at hg; subst hg; exact hb.lt.lt
theorem OwnP.ne_blk {B : Nat} {w : World} {e t : TypeId} {k b : Nat} {v : Value} {rows : List (List Value)} {c : Array Value} (h : OwnP B w e k v rows) (hb : Blk w b c t) (hne : e ≠ t) {g : Nat} (hg : v.ownBlock = some g) : g ≠ b := by
  rcases h with ⟨rfl, _⟩ | ⟨g', cap, cur, rfl, hg', hb', r⟩
  · simp [Value.ownBlock] at hg
  · simp [Value.ownBlock] at hg; subst hg; exact hb'.ne_ hb hne
theorem OwnP.one {B : Nat} {w : World} {e : TypeId} {k : Nat} {v : Value} {rows : List (List Value)} (h : OwnP B w e k v rows) : v.oneCell' = true := by
  rcases h with ⟨rfl, _⟩ | ⟨g', cap, cur, rfl, _⟩ <;> rfl
theorem RowsIn.set {arr : Array Value} {k : Nat} {rows : List (List Value)} (h : RowsIn arr k rows) (hu : ∀ cs ∈ rows, cs.length = k) {q t : Nat} {cs : List Value} (hq : rows[q]? = some cs) (ht : t < k) (hs : q * k + t < arr.size) (u : Value) : RowsIn (arr.setIfInBounds (q * k + t) u) k (rows.set q (cs.set t u)) := by
  intro q' cs' hq' t' u' hc'
  obtain ⟨hql, _⟩ := List.getElem?_eq_some_iff.1 hq
  have hcl := hu cs (List.mem_of_getElem? hq)
  by_cases e : q = q'
  · subst e
    rw [List.getElem?_set_self hql] at hq'
    cases hq'
    by_cases e2 : t = t'
    · subst e2
      rw [List.getElem?_set_self (by omega)] at hc'
      cases hc'
      rw [Array.getElem?_setIfInBounds, if_pos rfl, if_pos hs]
    · rw [List.getElem?_set_ne e2] at hc'
      rw [Array.getElem?_setIfInBounds, if_neg (by omega)]
      exact h q cs hq t' u' hc'
  · rw [List.getElem?_set_ne e] at hq'
    have ht' : t' < k := by
      have := hu cs' (List.mem_of_getElem? hq')
      obtain ⟨h, _⟩ := List.getElem?_eq_some_iff.1 hc'
      omega
    rw [Array.getElem?_setIfInBounds, if_neg ?_]
    · exact h q' cs' hq' t' u' hc'
    · intro hh
      rcases Nat.lt_or_gt_of_ne e with h | h
      · have := Nat.mul_le_mul_right k (show q + 1 ≤ q' from h)
        rw [Nat.add_mul] at this
        omega
      · have := Nat.mul_le_mul_right k (show q' + 1 ≤ q from h)
        rw [Nat.add_mul] at this
        omega
theorem irec_len : ∀ (is : List IRec), ∀ cs ∈ is.map IRec.cells, cs.length = 4 := by
  intro is cs h
  obtain ⟨r, _, rfl⟩ := List.mem_map.1 h
  rfl
theorem pent_len : ∀ (es : List PEnt), ∀ cs ∈ es.map PEnt.cells, cs.length = 2 := by
  intro es cs h
  obtain ⟨r, _, rfl⟩ := List.mem_map.1 h
  rfl
theorem pdesc_len : ∀ (es : List PDesc), ∀ cs ∈ es.map PDesc.cells, cs.length = 3 := by
  intro es cs h
  obtain ⟨r, _, rfl⟩ := List.mem_map.1 h
  rfl
theorem int_len : ∀ (es : List Int), ∀ cs ∈ es.map intCells, cs.length = 1 := by
  intro es cs h
  obtain ⟨r, _, rfl⟩ := List.mem_map.1 h
  rfl
theorem irec_one : ∀ (is : List IRec), ∀ cs ∈ is.map IRec.cells, ∀ u ∈ cs, u.oneCell' = true := by
  intro is cs h u hu
  obtain ⟨r, _, rfl⟩ := List.mem_map.1 h
  simp only [IRec.cells, List.mem_cons, List.not_mem_nil, or_false] at hu
  rcases hu with rfl | rfl | rfl | rfl <;> first | rfl | exact r.one
theorem pent_one : ∀ (is : List PEnt), ∀ cs ∈ is.map PEnt.cells, ∀ u ∈ cs, u.oneCell' = true := by
  intro is cs h u hu
  obtain ⟨r, _, rfl⟩ := List.mem_map.1 h
  simp only [PEnt.cells, List.mem_cons, List.not_mem_nil, or_false] at hu
  rcases hu with rfl | rfl <;> rfl
theorem pdesc_one : ∀ (is : List PDesc), ∀ cs ∈ is.map PDesc.cells, ∀ u ∈ cs, u.oneCell' = true := by
  intro is cs h u hu
  obtain ⟨r, _, rfl⟩ := List.mem_map.1 h
  simp only [PDesc.cells, List.mem_cons, List.not_mem_nil, or_false] at hu
  rcases hu with rfl | rfl | rfl <;> rfl
theorem int_one : ∀ (is : List Int), ∀ cs ∈ is.map intCells, ∀ u ∈ cs, u.oneCell' = true := by
  intro is cs h u hu
  obtain ⟨r, _, rfl⟩ := List.mem_map.1 h
  simp only [intCells, List.mem_cons, List.not_mem_nil, or_false] at hu
  subst hu; rfl
/-- A state of the call's own. -/
def StOwn (B : Nat) (w : World) (iv ov mv : Value) (S : PSt) : Prop :=
  OwnP B w 88 3 ov (S.op.map PDesc.cells) ∧ OwnP B w 3 1 mv (S.made.map intCells) ∧ ∃ is : List IRec, OwnP B w 65 4 iv (is.map IRec.cells) ∧ is.length = S.ins.length ∧
    (∀ (q : Nat) (r : IRec) (x : PIn), is[q]? = some r → S.ins[q]? = some x → r.num = x.num ∧ r.dir = x.dir ∧ r.data = x.data ∧ OwnP B w 99 2 r.ev (x.ents.map PEnt.cells)) ∧
    ∀ (p q : Nat) (r r' : IRec), p ≠ q → is[p]? = some r → is[q]? = some r' → ∀ g, r.ev.ownBlock = some g → r'.ev.ownBlock ≠ some g
theorem StOwn.read {B : Nat} {w : World} {iv ov mv : Value} {S : PSt} (h : StOwn B w iv ov mv S) : StRead w iv ov mv S := by
  obtain ⟨h1, h2, is, h3, h4, h5, _⟩ := h
  exact ⟨h1.row, h2.row, is, h3.row, h4, fun q r x hr hx => by
    obtain ⟨a1, a2, a3, a4⟩ := h5 q r x hr hx
    exact ⟨a1, a2, a3, a4.row⟩⟩
end Go.Proofs.YtjkenolgkkknaaaGreatDoor
/- model.Clone: a state read becomes a state of the call's own. Conditions: none. -/
set_option linter.unusedVariables false
set_option linter.unusedSimpArgs false
namespace Go.Proofs.YtjkenolgkkknaaaGreatDoor
open Go.RowKit
theorem own_one {w : World} {B n k : Nat} {e : TypeId} {v : Value} {xs : List Value} (h : w.ownsRow B e k v n xs) : v.oneCell' = true := by
  obtain ⟨_, ⟨rfl, _⟩ | ⟨g, cap, cur, rfl, _⟩⟩ := h <;> rfl
/-- In the middle of Clone: the first q inodes' entries are copied. -/
structure ClAt (w : World) (iv iv' ov mv : Value) (S : PSt) (q : Nat) (wr : World) : Prop where
  le : q ≤ S.ins.length
  rows : ∃ is : List IRec, OwnP w.heap.size wr 65 4 iv' (is.map IRec.cells) ∧ is.length = S.ins.length ∧
    (∀ (j : Nat) (r : IRec) (x : PIn), is[j]? = some r → S.ins[j]? = some x → r.num = x.num ∧ r.dir = x.dir ∧ r.data = x.data ∧ (j < q → OwnP w.heap.size wr 99 2 r.ev (x.ents.map PEnt.cells)) ∧ (q ≤ j → RowAt w 2 r.ev (x.ents.map PEnt.cells))) ∧
    ∀ (p j : Nat) (r r' : IRec), p ≠ j → p < q → j < q → is[p]? = some r → is[j]? = some r' → ∀ g, r.ev.ownBlock = some g → r'.ev.ownBlock ≠ some g
  below : Below w.heap.size w wr
  box : Blk wr w.heap.size #[iv', ov, mv] 27
  out : ∃ c, Blk wr (w.heap.size + 1) c 27 ∧ c.size = 3
set_option maxRecDepth 100000 in
set_option maxHeartbeats 4000000 in
theorem clone39 (iv ov mv : Value) (S : PSt) (w : World) (h : StRead w iv ov mv S) (hwf : S.wf) :
    Calls Tryz.prog 39 #[.agg #[iv, ov, mv]] w fun e w' => ∃ iv' ov' mv', e = .returned (.agg #[iv', ov', mv']) ∧ Below w.heap.size w w' ∧ StOwn w.heap.size w' iv' ov' mv' S := by
  have hi1 : iv.oneCell' = true := by obtain ⟨_, _, _, h3, _⟩ := h; exact h3.one
  have ho1 := h.1.one
  have hm1 := h.2.1.one
  obtain ⟨hop, hmade, is0, hrow, his, hrec⟩ := h
  have hlen := hwf.1
  have h67 : ∀ ww, Below w.heap.size w ww → Calls Tryz.prog 67 #[iv] ww _ := fun ww hb => clone67 (is0.map IRec.cells) iv ww (hrow.below hb (Nat.le_refl _)) (irec_len _) (irec_one _) (by rw [List.length_map]; omega)
  have H0 := Lib.hid (And.intro hop (And.intro hmade (And.intro hrow (And.intro his (And.intro hrec hwf)))))
  clear hop hmade hrow hrec hwf
  go_enter Tryz.func39, Tryz.ntmps39
  go_wp2_with (go_at_call 67; refine (h67 _ (bel _ _)).mono ?_; rintro e w1 ⟨iv', rfl, hown, hb1⟩; have hP := (OwnP.of_own hown (by decide) (irec_len _)).mono (bel w _).size; rw [List.length_map, his] at hown; obtain ⟨ga, gc, rfl⟩ := own_form hown; have hbox : Blk w1 w.heap.size #[iv, ov, mv] 27 := ((Blk.new w _ 27).alloc _).below hb1 (by simp; omega); have hres : Blk w1 (w.heap.size + 1) #[.slice none 0 0, .slice none 0 0, .slice none 0 0] 27 := (Blk.new_i (w.alloc (.cells #[iv, ov, mv] 27)) _ 27 _).below hb1 (by simp); have hbw := (bel w _).trans (hb1.mono (bel w _).size); have iBw : Bel w w1 := ⟨hbw⟩; have iX := hbox.lt; have iR := hres.lt; have x0 := hbox.cell 0; have fx0 := hbox.frozen 0; have x1 := hbox.cell 1; have x2 := hbox.cell 2; simp only [List.getElem?_toArray, List.getElem?_cons_zero, List.getElem?_cons_succ] at x0 x1 x2; have H1 := Lib.hid (And.intro hP (And.intro hbw (And.intro hbox hres))); clear hown hb1 hP hbw hbox hres)
  go_loopw [11] (fun i wr => ∃ (q : Nat), i = .int .i64 q ∧ ClAt w iv (.slice ga S.ins.length gc) ov mv S q wr) (fun i _ => (S.ins.length - intOf i).toNat)
  case atStart =>
    obtain ⟨hP, hbw, hbox, hres⟩ := H1.out
    have hk : Keep (fun g => g = w.heap.size) w1 (w1.setCell ⟨w.heap.size, 0, none⟩ (.slice ga S.ins.length gc)) := Keep.setCell (S := fun g => g = w.heap.size) (p := ⟨w.heap.size, 0, none⟩) (Keep.refl _ w1) (.inl rfl) _
    refine ⟨0, rfl, by omega, ⟨is0, hP.keep hk (fun g hg => hP.ne_blk hbox (by decide) hg), his, ?_, fun p j r r' _ h => by omega⟩, bel _ _, ?_, ⟨_, hk.blk hres (by omega), rfl⟩⟩
    · intro j r x hr hx
      obtain ⟨e1, e2, e3, e4⟩ := H0.out.2.2.2.2.1 j r x hr hx
      exact ⟨e1, e2, e3, fun h => by omega, fun _ => e4⟩
    · exact hbox.set_ 0 _
  case round =>
    obtain ⟨q, rfl, hc⟩ := hrel
    have hcb := hc.below
    have iB : Bel w wr := ⟨hcb⟩
    have iX' := hc.box.lt
    have x0' := hc.box.cell 0
    have x1' := hc.box.cell 1
    have x2' := hc.box.cell 2
    simp only [List.getElem?_toArray, List.getElem?_cons_zero, List.getElem?_cons_succ] at x0' x1' x2'
    have hle := hc.le
    by_cases hlt : q < S.ins.length
    · obtain ⟨is, hO, hil, hrec, hdis⟩ := hc.rows
      have hO' := hO
      rcases hO' with ⟨h0, h1⟩ | ⟨g, cap, arr, he, hgB, hgb, hnc, hcm, hsz, hri⟩
      · have : is.length = 0 := by
          have := congrArg List.length h1
          simpa using this
        omega
      rw [List.length_map, hil] at he hnc
      simp only [Value.slice.injEq] at he
      obtain ⟨rfl, -, rfl⟩ := he
      obtain ⟨r, hr⟩ : ∃ r, is[q]? = some r := ⟨_, List.getElem?_eq_getElem (by omega)⟩
      obtain ⟨x, hx⟩ : ∃ x, S.ins[q]? = some x := ⟨_, List.getElem?_eq_getElem hlt⟩
      obtain ⟨r1, r2, r3, _, r4⟩ := hrec q r x hr hx
      have hm : (is.map IRec.cells)[q]? = some r.cells := by rw [List.getElem?_map, hr]; rfl
      have g2 : wr.cell? ⟨g, q * 4 + 2, none⟩ = some r.ev := by rw [hgb.cell]; exact hri q _ hm 2 _ rfl
      have iG := hgb.lt
      have hxe := (H0.out.2.2.2.2.2.2.2.2.1 x (List.mem_of_getElem? hx)).2.1
      have hone := r.one
      have h68 : ∀ ww, Below w.heap.size w ww → Calls Tryz.prog 68 #[r.ev] ww _ := fun ww hb => clone68 (x.ents.map PEnt.cells) r.ev ww ((r4 (Nat.le_refl _)).below hb (Nat.le_refl _)) (pent_len _) (pent_one _) (by rw [List.length_map]; exact hxe)
      have HC := Lib.hid (And.intro hc (And.intro hO (And.intro hgb (And.intro hri (And.intro hrec (And.intro hdis (And.intro hr (And.intro hx (And.intro hsz hil)))))))))
      clear hc hO hgb hri hrec hdis hr hx r1 r2 r3 r4 hm hxe hsz hil
      go_upto_region 5 with fail
      have iQ : 0 ≤ (q : Int) ∧ (q : Int) < S.ins.length := by omega
      refine wp_region_eff [9, 12] true (fun w' => w'.cell? ⟨w.heap.size, 0, none⟩ = some (.slice (some ⟨g, 0, none⟩) S.ins.length gc) ∧ w'.cell? ⟨g, q * 4 + 2, none⟩ = some r.ev) (by kernel_rfl) (by kernel_rfl) ?_ ?_
      · (try dsimp only); (repeat' apply And.intro) <;> go_simp
      repeat
        refine wpL_look rfl rfl ?_
        apply Exists.intro
        refine ⟨?_, ?_⟩
        focus
          rintro w' ⟨s0, s1⟩
          go_simp
          first | done | rfl
        simp only [Act.put, List.setIfInBounds_toArray, List.set_cons_zero, List.set_cons_succ]
      refine wpL_act rfl rfl ?_
      refine eff_call 68 #[r.ev] ?hr ?_
      case hr =>
        go_simp
        first | done | rfl
      refine (h68 wr.drew (bel w _)).mono ?_
      rintro e w2 ⟨v', rfl, hown2, hb2⟩
      have hP2 := OwnP.of_own hown2 (by decide) (pent_len _)
      have hone2 := own_one hown2
      rw [List.length_map] at hown2
      obtain ⟨va, vc, rfl⟩ := own_form hown2
      have hbox2 := (HC.out.1.box.drew).below hb2 iX'.lt
      have hgb2 := (HC.out.2.2.1.drew).below hb2 iG.lt
      have iX2 := hbox2.lt
      have iG2 := hgb2.lt
      have y0 := hbox2.cell 0
      simp only [List.getElem?_toArray, List.getElem?_cons_zero, List.getElem?_cons_succ] at y0
      have y2 : w2.cell? ⟨g, q * 4 + 2, none⟩ = some r.ev := by
        rw [hgb2.cell]
        exact HC.out.2.2.2.1 q _ (by rw [List.getElem?_map, HC.out.2.2.2.2.2.2.1]; rfl) 2 _ rfl
      have fz := hgb2.frozen (q * 4 + 2)
      have H2 := Lib.hid (And.intro hP2 (And.intro hb2 (And.intro hbox2 hgb2)))
      clear hown2 hP2 hb2 hbox2 hgb2
      refine ⟨_, rfl, .inl ⟨y0, y2⟩, ?_⟩
      simp only [Act.put, List.setIfInBounds_toArray, List.set_cons_zero, List.set_cons_succ]
      repeat
        refine wpL_look rfl rfl ?_
        apply Exists.intro
        refine ⟨?_, ?_⟩
        focus
          rintro w' ⟨s0, s1⟩
          go_simp
          first | done | rfl
        simp only [Act.put, List.setIfInBounds_toArray, List.set_cons_zero, List.set_cons_succ]
      refine wpL_skip rfl rfl ?_
      apply Exists.intro
      refine ⟨?_, .inr ⟨rfl, rfl⟩, ?_⟩
      focus
        go_simp
        rfl
      simp only [Act.put]
      refine wpL_end ?_
      go_wp2_with fail
      go_roundw
      case rel =>
        obtain ⟨hc, hO, hgb, hri, hrec, hdis, hr, hx, hsz, hil⟩ := HC.out
        obtain ⟨hP2, hb2, hbox2, hgb2⟩ := H2.out
        obtain ⟨r1, r2, r3, _, _⟩ := hrec q r x hr hx
        obtain ⟨c, hout, hcs⟩ := hc.out
        have hgl := hgb.lt.lt
        have hsw := hcb.size
        have hK : Keep (fun k => k = g) wr (w2.setCell ⟨g, q * 4 + 2, none⟩ (.slice va x.ents.length vc)) :=
          Keep.setCell (S := fun k => k = g) (p := ⟨g, q * 4 + 2, none⟩) (Keep.of_below (show Below wr.heap.size wr w2 from (Below.refl wr.heap.size wr).drew.trans hb2) _) (.inl rfl) _
        have hK2 : Keep (fun k => k = g) w2 (w2.setCell ⟨g, q * 4 + 2, none⟩ (.slice va x.ents.length vc)) :=
          Keep.setCell (S := fun k => k = g) (p := ⟨g, q * 4 + 2, none⟩) (Keep.refl _ _) (.inl rfl) _
        have hql : q < is.length := by omega
        have hup : ∀ k, w.heap.size ≤ k → ∀ (hk : k < wr.heap.size), k ≠ g → True := fun _ _ _ _ => trivial
        have hmset : (is.map IRec.cells).set q (r.cells.set 2 (.slice va x.ents.length vc)) = (is.set q ⟨r.num, r.dir, .slice va x.ents.length vc, r.data, rfl⟩).map IRec.cells := by
          rw [List.map_set]
          rfl
        refine ⟨q + 1, by go_num, by omega, ⟨is.set q ⟨r.num, r.dir, .slice va x.ents.length vc, r.data, rfl⟩, .inr ⟨g, gc, arr.setIfInBounds (q * 4 + 2) (.slice va x.ents.length vc), by rw [List.length_map, List.length_set, hil], hgB, hgb2.set_ _ _, by rw [List.length_map, List.length_set]; omega, hcm, by rw [Array.size_setIfInBounds]; exact hsz, ?_⟩, by rw [List.length_set]; exact hil, ?_, ?_⟩, ?_, ?_, ?_⟩
        · rw [← hmset]
          exact hri.set (irec_len _) (by rw [List.getElem?_map, hr]; rfl) (by decide) (by omega) _
        · intro j r'' x'' hr'' hx''
          by_cases e : q = j
          · subst e
            rw [List.getElem?_set_self hql] at hr''
            rw [hx] at hx''
            cases hr''
            cases hx''
            exact ⟨r1, r2, r3, fun _ => ((hP2.mono (show w.heap.size ≤ wr.drew.heap.size from hsw)).keep hK2 (fun k hk => hP2.ne_blk hgb2 (by decide) hk)), fun h => by omega⟩
          · rw [List.getElem?_set_ne e] at hr''
            obtain ⟨a1, a2, a3, a4, a5⟩ := hrec j r'' x'' hr'' hx''
            exact ⟨a1, a2, a3, fun h => (a4 (by omega)).keep hK (fun k hk => (a4 (by omega)).ne_blk hgb (by decide) hk), fun h => a5 (by omega)⟩
        · intro p j ra rb hpj hp hj ha hb k hk
          have hold : ∀ (j : Nat) (rb : IRec), j < q → is[j]? = some rb → ∀ k, rb.ev.ownBlock = some k → k < wr.heap.size := by
            intro j rb hj hb k hk
            obtain ⟨xb, hxb⟩ : ∃ xb, S.ins[j]? = some xb := ⟨_, List.getElem?_eq_getElem (by omega)⟩
            exact ((hrec j rb xb hb hxb).2.2.2.1 hj).lt hk
          by_cases e : q = p
          · subst e
            rw [List.getElem?_set_self hql] at ha
            rw [List.getElem?_set_ne hpj] at hb
            cases ha
            intro h
            have h1 := hold j rb (by omega) hb k h
            have h2 := hP2.ge hk
            have h3 : wr.drew.heap.size = wr.heap.size := rfl
            omega
          · rw [List.getElem?_set_ne e] at ha
            by_cases e2 : q = j
            · subst e2
              rw [List.getElem?_set_self hql] at hb
              cases hb
              intro h
              have h1 := hold p ra (by omega) ha k hk
              have h2 := hP2.ge h
              have h3 : wr.drew.heap.size = wr.heap.size := rfl
              omega
            · rw [List.getElem?_set_ne e2] at hb
              exact hdis p j ra rb hpj (by omega) (by omega) ha hb k hk
        · exact hcb.trans (hK.below hsw (fun i hi h => by omega))
        · exact hbox2.far (fun e => (hgb.ne_ hc.box (by decide)) (by simpa using e.symm)) _
        · exact ⟨c, hK.blk hout (fun e => (hgb.ne_ hout (by decide)) e.symm), hcs⟩
      case measure => simp [intOf]; omega
    · have hq : q = S.ins.length := by omega
      have HC := Lib.hid hc
      have HQ := Lib.hid hq
      obtain ⟨c, hout, hcs⟩ := hc.out
      have iR' := hout.lt
      have hR0 : ∀ i, i < 3 → ∃ u, wr.cell? ⟨w.heap.size + 1, i, none⟩ = some u := fun i hi => by rw [hout.cell]; exact ⟨_, Array.getElem?_eq_getElem (by omega)⟩
      obtain ⟨u0, z0⟩ := hR0 0 (by omega)
      obtain ⟨u1, z1⟩ := hR0 1 (by omega)
      obtain ⟨u2, z2⟩ := hR0 2 (by omega)
      have f0 := hout.frozen 0
      have f1 := hout.frozen 1
      have f2 := hout.frozen 2
      have fx1 := hc.box.frozen 1
      have fx2 := hc.box.frozen 2
      have h69 : ∀ ww, Below w.heap.size w ww → Calls Tryz.prog 69 #[ov] ww _ := fun ww hb => clone69 (S.op.map PDesc.cells) ov ww (H0.out.1.below hb (Nat.le_refl _)) (pdesc_len _) (pdesc_one _) (by rw [List.length_map]; exact H0.out.2.2.2.2.2.2.1)
      have h70 : ∀ ww, Below w.heap.size w ww → Calls Tryz.prog 70 #[mv] ww _ := fun ww hb => clone70 (S.made.map intCells) mv ww (H0.out.2.1.below hb (Nat.le_refl _)) (int_len _) (int_one _) (by rw [List.length_map]; exact H0.out.2.2.2.2.2.2.2.1)
      clear hc hq hout hR0 hcs
      go_upto_region 7 with fail
      have x1b := x1'
      go_cut [] (fun wx => ∃ ov' mv', Blk wx w.heap.size #[.slice ga S.ins.length gc, ov', mv'] 27 ∧ Keep (fun k => k = w.heap.size) wr wx ∧ OwnP wr.heap.size wx 88 3 ov' (S.op.map PDesc.cells) ∧ OwnP wr.heap.size wx 3 1 mv' (S.made.map intCells))
      case first =>
        refine wp_region_eff [1, 2, 5, 7, 9] true (fun w' => w'.cell? ⟨w.heap.size, 2, none⟩ = some mv) (by kernel_rfl) (by kernel_rfl) ?_ ?_
        · go_simp
        repeat
          refine wpL_look rfl rfl ?_
          apply Exists.intro
          refine ⟨?_, ?_⟩
          focus
            rintro w' s0
            go_simp
            first | done | rfl
          simp only [Act.put, List.setIfInBounds_toArray, List.set_cons_zero, List.set_cons_succ]
        refine wpL_do rfl rfl ?_
        refine ⟨ov, wr.drew, ?_, .inl (by go_simp), ?_⟩
        focus
          go_simp
          first | done | rfl
        simp only [Act.put, List.setIfInBounds_toArray, List.set_cons_zero, List.set_cons_succ]
        refine wpL_act rfl rfl ?_
        refine eff_call 69 #[ov] ?hr ?_
        case hr =>
          go_simp
          first | done | rfl
        refine (h69 wr.drew (bel w _)).mono ?_
        rintro e w5 ⟨ov', rfl, hownO, hb5⟩
        have hP5 := OwnP.of_own hownO (by decide) (pdesc_len _)
        have hone5 := own_one hownO
        rw [List.length_map] at hownO
        obtain ⟨oa, oc, rfl⟩ := own_form hownO
        have hB5 := (HC.out.box.drew).below hb5 iX'.lt
        have iX5 := hB5.lt
        have x51 := hB5.cell 1
        have x52 := hB5.cell 2
        simp only [List.getElem?_toArray, List.getElem?_cons_zero, List.getElem?_cons_succ] at x51 x52
        have iB5 : Bel w w5 := ⟨(bel w wr.drew).trans (hb5.mono (bel w wr.drew).size)⟩
        have HO := Lib.hid (And.intro hP5 (And.intro hb5 hB5))
        clear hownO hP5 hb5 hB5
        refine ⟨_, rfl, .inl x52, ?_⟩
        simp only [Act.put, List.setIfInBounds_toArray, List.set_cons_zero, List.set_cons_succ]
        repeat
          refine wpL_look rfl rfl ?_
          apply Exists.intro
          refine ⟨?_, ?_⟩
          focus
            rintro w' s0
            go_simp
            first | done | rfl
          simp only [Act.put, List.setIfInBounds_toArray, List.set_cons_zero, List.set_cons_succ]
        refine wpL_act rfl rfl ?_
        refine eff_call 70 #[mv] ?hr2 ?_
        case hr2 =>
          go_simp
          first | done | rfl
        refine (h70 w5 (bel w _)).mono ?_
        rintro e w6 ⟨mv', rfl, hownM, hb6⟩
        have hP6 := OwnP.of_own hownM (by decide) (int_len _)
        have hone6 := own_one hownM
        rw [List.length_map] at hownM
        obtain ⟨ma, mc, rfl⟩ := own_form hownM
        have hB6 := (HO.out.2.2).below hb6 iX5.lt
        have iX6 := hB6.lt
        have x61 := hB6.cell 1
        have x62 := hB6.cell 2
        have fx61 := hB6.frozen 1
        have fx62 := hB6.frozen 2
        simp only [List.getElem?_toArray, List.getElem?_cons_zero, List.getElem?_cons_succ] at x61 x62
        have HM := Lib.hid (And.intro hP6 (And.intro hb6 hB6))
        clear hownM hP6 hb6 hB6
        refine ⟨_, rfl, .inl x62, ?_⟩
        simp only [Act.put, List.setIfInBounds_toArray, List.set_cons_zero, List.set_cons_succ]
        repeat
          refine wpL_look rfl rfl ?_
          apply Exists.intro
          refine ⟨?_, ?_⟩
          focus
            rintro w' s0
            go_simp
            first | done | rfl
          simp only [Act.put, List.setIfInBounds_toArray, List.set_cons_zero, List.set_cons_succ]
        refine wpL_skip rfl rfl ?_
        refine ⟨w6.setCell ⟨w.heap.size, 1, none⟩ (.slice oa S.op.length oc), ?_, .inl (by go_simp), ?_⟩
        focus
          go_simp
          first | done | rfl
        simp only [Act.put, List.setIfInBounds_toArray, List.set_cons_zero, List.set_cons_succ]
        repeat
          refine wpL_look rfl rfl ?_
          apply Exists.intro
          refine ⟨?_, ?_⟩
          focus
            rintro w' s0
            go_simp
            first | done | rfl
          simp only [Act.put, List.setIfInBounds_toArray, List.set_cons_zero, List.set_cons_succ]
        refine wpL_skip rfl rfl ?_
        refine ⟨(w6.setCell ⟨w.heap.size, 1, none⟩ (.slice oa S.op.length oc)).setCell ⟨w.heap.size, 2, none⟩ (.slice ma S.made.length mc), ?_, .inr ⟨rfl, rfl⟩, ?_⟩
        focus
          go_simp
          first | done | rfl
        simp only [Act.put]
        refine wpL_end ?_
        go_wp2_with fail
        go_meet
        have hb05 : Below wr.heap.size wr w5 := (Below.refl wr.heap.size wr).drew.trans HO.out.2.1
        have hb06 : Below wr.heap.size wr w6 := hb05.trans (HM.out.2.1.mono hb05.size)
        refine ⟨_, _, ((HM.out.2.2.set_ 1 _).set_ 2 _), Keep.setCell (S := fun k => k = w.heap.size) (p := ⟨w.heap.size, 2, none⟩) (Keep.setCell (S := fun k => k = w.heap.size) (p := ⟨w.heap.size, 1, none⟩) (Keep.of_below hb06 _) (.inl rfl) _) (.inl rfl) _, ?_, ?_⟩
        · exact HO.out.1.keep (Keep.setCell (S := fun k => k = w.heap.size) (p := ⟨w.heap.size, 2, none⟩) (Keep.setCell (S := fun k => k = w.heap.size) (p := ⟨w.heap.size, 1, none⟩) (Keep.of_below HM.out.2.1 _) (.inl rfl) _) (.inl rfl) _) (fun k hk => HO.out.1.ne_blk HO.out.2.2 (by decide) hk)
        · exact (HM.out.1.mono hb05.size).keep (Keep.setCell (S := fun k => k = w.heap.size) (p := ⟨w.heap.size, 2, none⟩) (Keep.setCell (S := fun k => k = w.heap.size) (p := ⟨w.heap.size, 1, none⟩) (Keep.refl _ _) (.inl rfl) _) (.inl rfl) _) (fun k hk => HM.out.1.ne_blk HM.out.2.2 (by decide) hk)
      case rest =>
        obtain ⟨ov', mv', hbx, hk, hO, hM⟩ := hcut
        rename World => wx
        obtain ⟨c, hout, hcs⟩ := HC.out.out
        have hout2 := hk.blk hout (by omega)
        have iX3 := hbx.lt
        have iR3 := hout2.lt
        have b0 := hbx.cell 0
        have b1 := hbx.cell 1
        have b2 := hbx.cell 2
        simp only [List.getElem?_toArray, List.getElem?_cons_zero, List.getElem?_cons_succ] at b0 b1 b2
        have hR0 : ∀ i, i < 3 → ∃ u, wx.cell? ⟨w.heap.size + 1, i, none⟩ = some u := fun i hi => by rw [hout2.cell]; exact ⟨_, Array.getElem?_eq_getElem (by omega)⟩
        obtain ⟨v0, q0⟩ := hR0 0 (by omega)
        obtain ⟨v1, q1⟩ := hR0 1 (by omega)
        obtain ⟨v2, q2⟩ := hR0 2 (by omega)
        have g0 := hout2.frozen 0
        have g1 := hout2.frozen 1
        have g2 := hout2.frozen 2
        have ho' := hO.one
        have hm' := hM.one
        obtain ⟨oa, oc, rfl, -⟩ := hO.row
        obtain ⟨ma, mc, rfl, -⟩ := hM.row
        have HE := Lib.hid (And.intro hk (And.intro hO (And.intro hM (And.intro hout2 hbx))))
        clear hout hout2 hk hO hM hR0 hbx
        go_wp2_with fail
        refine bodyPost_ret (v := .agg #[.slice ga S.ins.length gc, .slice oa S.op.length oc, .slice ma S.made.length mc]) (by unfold results; simp only [Tryz.results39]; go_simp) rfl ?_
        have hbx := HE.out.2.2.2.2
        obtain ⟨is, hO, hil, hrec, hdis⟩ := HC.out.rows
        have hsw := hcb.size
        have hK1 : Keep (fun k => k = w.heap.size + 1) wx (((wx.setCell ⟨w.heap.size + 1, 0, none⟩ (.slice ga S.ins.length gc)).setCell ⟨w.heap.size + 1, 1, none⟩ (.slice oa (S.op.map PDesc.cells).length oc)).setCell ⟨w.heap.size + 1, 2, none⟩ (.slice ma (S.made.map intCells).length mc)) :=
          Keep.setCell (S := fun k => k = w.heap.size + 1) (p := ⟨w.heap.size + 1, 2, none⟩) (Keep.setCell (S := fun k => k = w.heap.size + 1) (p := ⟨w.heap.size + 1, 1, none⟩) (Keep.setCell (S := fun k => k = w.heap.size + 1) (p := ⟨w.heap.size + 1, 0, none⟩) (Keep.refl _ _) (.inl rfl) _) (.inl rfl) _) (.inl rfl) _
        have hK2 : Keep (fun k => k = w.heap.size ∨ k = w.heap.size + 1) wr (((wx.setCell ⟨w.heap.size + 1, 0, none⟩ (.slice ga S.ins.length gc)).setCell ⟨w.heap.size + 1, 1, none⟩ (.slice oa (S.op.map PDesc.cells).length oc)).setCell ⟨w.heap.size + 1, 2, none⟩ (.slice ma (S.made.map intCells).length mc)) :=
          (HE.out.1.mono (fun i _ h => .inl h)).trans (hK1.mono (fun i _ h => .inr h)) (fun i _ h => h)
        have hobl := HE.out.2.2.2.1
        obtain ⟨c', hout', _⟩ := HC.out.out
        simp only [List.length_map] at hK1 hK2
        refine ⟨_, _, _, rfl, hcb.trans (hK2.below hsw (fun i hi h => by omega)), ?_, ?_, is, ?_, hil, ?_, fun p j r r' hpj hp hj => hdis p j r r' hpj ?_ ?_ hp hj⟩
        · have := (HE.out.2.1.keep hK1 (fun k hk => HE.out.2.1.ne_blk hobl (by decide) hk)).mono hsw
          rw [List.length_map] at this
          exact this
        · have := (HE.out.2.2.1.keep hK1 (fun k hk => HE.out.2.2.1.ne_blk hobl (by decide) hk)).mono hsw
          rw [List.length_map] at this
          exact this
        · exact hO.keep hK2 (fun k hk h => by rcases h with h | h <;> first | exact hO.ne_blk HC.out.box (by decide) hk h | exact hO.ne_blk hout' (by decide) hk h)
        · intro j r x hr hx
          obtain ⟨hjl, _⟩ := List.getElem?_eq_some_iff.1 hx
          obtain ⟨a1, a2, a3, a4, _⟩ := hrec j r x hr hx
          have a4 := a4 (by have := HQ.out; omega)
          exact ⟨a1, a2, a3, a4.keep hK2 (fun k hk h => by rcases h with h | h <;> first | exact a4.ne_blk HC.out.box (by decide) hk h | exact a4.ne_blk hout' (by decide) hk h)⟩
        · obtain ⟨h, _⟩ := List.getElem?_eq_some_iff.1 hp
          have := HQ.out
          omega
        · obtain ⟨h, _⟩ := List.getElem?_eq_some_iff.1 hj
          have := HQ.out
          omega
end Go.Proofs.YtjkenolgkkknaaaGreatDoor
/- Codes that are thrown; a path's names or a code. Conditions: none. -/
set_option linter.unusedVariables false
set_option linter.unusedSimpArgs false
namespace Go.Proofs.YtjkenolgkkknaaaGreatDoor
open Go.RowKit
/-- What is thrown with a code. -/
def chainOf (c : Int) : List PanicEntry := [{ v := .iface 78 (.agg #[.int .i64 c]), recovered := false }]
abbrev thrown (c : Int) : Ending := .panicked (chainOf c)
theorem throw_no (c : Int) (w : World) :
    Calls Tryz.prog 115 #[.bool false, .int .i64 c] w fun e w' => e = .returned (.tuple #[]) ∧ Below w.heap.size w w' := by
  go_enter Tryz.func115, Tryz.ntmps115
  go_wp2_with fail
  exact bodyPost_end (v := .tuple #[]) (by simp [results, go_sem]) rfl ⟨rfl, bel _ _⟩
theorem throw_yes (c : Int) (w : World) :
    Calls Tryz.prog 115 #[.bool true, .int .i64 c] w fun e w' => e = thrown c ∧ Below w.heap.size w w' := by
  go_enter Tryz.func115, Tryz.ntmps115
  go_wp2_with fail
  exact ⟨rfl, rfl, Below.refl _ _⟩
theorem own_one' {w : World} {B n k : Nat} {e : TypeId} {v : Value} {xs : List Value} (h : w.ownsRow B e k v n xs) : v.oneCell' = true := by
  obtain ⟨_, ⟨rfl, _⟩ | ⟨g, cap, cur, rfl, _⟩⟩ := h <;> rfl
/-- A path's names; or the code is thrown. -/
def ParsedOr (w : World) (s : ByteArray) (e : Ending) (w' : World) : Prop :=
  ((parseM s).1 = 0 ∧ ∃ v, e = .returned v ∧ Below w.heap.size w w' ∧ RowAt w' 1 v ((parseM s).2.map fun n => [.string n])) ∨ ((parseM s).1 ≠ 0 ∧ e = thrown (codeM (parseM s).1) ∧ Below w.heap.size w w')
theorem flat_one {α β : Type} (f : α → β) : ∀ ns : List α, (ns.map fun n => [f n]).flatten = ns.map f
  | [] => rfl
  | n :: ns => by simp [flat_one f ns]
set_option maxRecDepth 100000 in
theorem parse150 (s : ByteArray) (w : World) : Calls Tryz.prog 150 #[.string s] w (ParsedOr w s) := by
  have hp := parse136 s w
  unfold ParsedOr
  generalize parseM s = F at hp ⊢
  obtain ⟨c, ns⟩ := F
  by_cases h : c = 0
  · subst h
    have hc : ∀ ww, Calls Tryz.prog 167 #[.int .i64 0] ww _ := fun ww => code167 0 ww
    go_enter Tryz.func150, Tryz.ntmps150
    go_wp2_with (first | (go_at_call 136; refine hp.mono ?_; rintro e w1 ⟨v, rfl, hb, hown, hbl⟩; have hone := own_one' hown; have iB : Bel w w1 := ⟨hb⟩; have HO := Lib.hid (And.intro hown hb); clear hown hb hbl) | (go_at_call 167; refine (hc _).mono ?_; rintro e w' ⟨rfl, hb⟩; obtain ⟨p, rfl⟩ := hb.rest; clear hb) | (go_at_call 115; refine (throw_no _ _).mono ?_; rintro e w' ⟨rfl, hb⟩; obtain ⟨p, rfl⟩ := hb.rest; clear hb))
    go_ret
    refine .inl ⟨by simp, _, rfl, bel _ _, ?_⟩
    have := (OwnP.of_own (rows := ns.map fun n => [.string n]) (by rw [List.length_map, flat_one]; exact HO.out.1) (by decide) (by intro cs h; obtain ⟨x, _, rfl⟩ := List.mem_map.1 h; rfl)).row
    exact this.below (bel w1 _) (Nat.le_refl _)
  · have hc : ∀ ww, Calls Tryz.prog 167 #[.int .i64 c] ww _ := fun ww => code167 c ww
    have hcb : (c != 0) = true := by simpa using h
    generalize hcm : codeM c = cm at hc
    go_enter Tryz.func150, Tryz.ntmps150
    go_wp2_with (first | (go_at_call 136; refine hp.mono ?_; rintro e w1 ⟨v, rfl, hb, hown, hbl⟩; have hone := own_one' hown; have iB : Bel w w1 := ⟨hb⟩; clear hown hb hbl) | (go_at_call 167; refine (hc _).mono ?_; rintro e w' ⟨rfl, hb⟩; obtain ⟨p, rfl⟩ := hb.rest; clear hb) | (go_at_call 115; refine (throw_yes _ _).mono ?_; rintro e w' ⟨rfl, hb⟩; obtain ⟨p, rfl⟩ := hb.rest; clear hb))
    exact ⟨rfl, .inr ⟨h, rfl, bel _ _⟩⟩
end Go.Proofs.YtjkenolgkkknaaaGreatDoor
