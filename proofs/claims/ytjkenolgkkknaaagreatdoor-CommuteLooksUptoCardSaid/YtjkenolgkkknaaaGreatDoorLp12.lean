/- Part of the proof that the calls that look alone commute. Conditions: none. -/
import Derived.Test.YtjkenolgkkknaaaGreatDoorLp11
import Derived.Shelf.Strings.Builder1
import Derived.Shelf.Strings.Builder2
import Derived.Shelf.Strings.OnBuilder
import Derived.Shelf.Strconv.Itoa0
import Derived.Shelf.Strconv.Itoa1
import Derived.Shelf.LaysM
import Derived.Shelf.Strconv.Itoa2
import Derived.Shelf.Strconv.Itoa3
import Derived.Shelf.Slices.Turned
import Derived.Shelf.Slices.Empties2
import Derived.Test.YtjkenolgkkknaaaGreatDoorProg
import Derived.Lib.AppendIntMem
set_option linter.unusedVariables false
set_option linter.unusedSimpArgs false
set_option maxRecDepth 100000
set_option maxHeartbeats 8000000
/- Where a new inode's place is. Conditions: none. -/
set_option linter.unusedVariables false
set_option linter.unusedSimpArgs false
namespace Go.Proofs.YtjkenolgkkknaaaGreatDoor
open Go.RowKit
/-- The compare of create's search: at an inode of number x, with n. -/
def cmpD (x n : Int) : Int := wrap64 (x - n)
theorem cmp120 (x n : Int) (d : Bool) (ev : Value) (s : ByteArray) (hev : ev.oneCell' = true) (w : World) :
    Calls Tryz.prog 120 #[.agg #[.int .i64 x, .bool d, ev, .string s], .int .i64 n] w fun e w' => e = .returned (.int .i64 (cmpD x n)) ∧ Below w.heap.size w w' := by
  unfold cmpD
  go_enter Tryz.func120, Tryz.ntmps120
  go_wp2_with fail
  go_ret
  exact ⟨by first | rfl | simp, bel _ _⟩
def cmpAtD (is : List IRec) (n : Int) (q : Nat) : Int := match is[q]? with | some x => cmpD x.num n | none => 0
def bsD (is : List IRec) (n : Int) : Nat := bsFrom (cmpAtD is n) is.length 0 is.length
def bsHitD (is : List IRec) (n : Int) : Bool := decide (bsD is n < is.length) && (cmpAtD is n (bsD is n) == 0)
def cmpND (ns : List Int) (n : Int) (q : Nat) : Int := match ns[q]? with | some x => cmpD x n | none => 0
/-- The place by the numbers alone. -/
def bsND (ns : List Int) (n : Int) : Nat := bsFrom (cmpND ns n) ns.length 0 ns.length
theorem bsD_num (is : List IRec) (n : Int) : bsD is n = bsND (is.map IRec.num) n := by
  have hc : cmpAtD is n = cmpND (is.map IRec.num) n := by
    funext q
    unfold cmpAtD cmpND
    rw [List.getElem?_map]
    cases is[q]? <;> rfl
  unfold bsD bsND
  rw [hc, List.length_map]
set_option maxRecDepth 100000 in
set_option maxHeartbeats 2000000 in
theorem bs119d (is : List IRec) (v : Value) (n : Int) (w : World) (h : RowAt w 4 v (is.map IRec.cells)) (hlen : is.length ≤ 1000000000) :
    Calls Tryz.prog 119 #[v, .int .i64 n, .func (.func 120) #[] #[]] w fun e w' => e = .returned (.tuple #[.int .i64 (bsD is n), .bool (bsHitD is n)]) ∧ Below w.heap.size w w' := by
  obtain ⟨a, cap, rfl, _, hrow⟩ := h
  rw [List.length_map] at hrow ⊢
  have cell : ∀ (wr : World), Below w.heap.size w wr → ∀ (q : Nat), q < is.length → ∃ (b off : Nat) (x : IRec), a = some ⟨b, off, none⟩ ∧ BlockLt b wr ∧ is[q]? = some x ∧ cmpAtD is n q = cmpD x.num n ∧ wr.cell? ⟨b, off + q * 4, none⟩ = some (.int .i64 x.num) ∧ wr.cell? ⟨b, off + q * 4 + 1, none⟩ = some (.bool x.dir) ∧ wr.cell? ⟨b, off + q * 4 + 2, none⟩ = some x.ev ∧ wr.cell? ⟨b, off + q * 4 + 3, none⟩ = some (.string x.data) := by
    intro wr hb q hq
    obtain ⟨b, off, rfl, hlt, hc⟩ := hrow (by omega)
    obtain ⟨x, hx⟩ : ∃ x, is[q]? = some x := ⟨_, List.getElem?_eq_getElem hq⟩
    have hm : (is.map IRec.cells)[q]? = some x.cells := by rw [List.getElem?_map, hx]; rfl
    have hs := hb.size
    have key : ∀ (t : Nat) (u : Value), x.cells[t]? = some u → wr.cell? ⟨b, off + q * 4 + t, none⟩ = some u := fun t u hu => (hb.cell (p := ⟨b, _, none⟩) hlt).trans (hc q _ hm t u hu)
    exact ⟨b, off, x, rfl, ⟨by omega⟩, hx, by unfold cmpAtD; rw [hx], key 0 _ rfl, key 1 _ rfl, key 2 _ rfl, key 3 _ rfl⟩
  have HC := Lib.hid cell
  clear cell hrow
  obtain ⟨P, hP⟩ : ∃ P, bsD is n = P := ⟨_, rfl⟩
  obtain ⟨T, hT⟩ : ∃ T, bsHitD is n = T := ⟨_, rfl⟩
  rw [hP, hT]
  have HP := Lib.hid (And.intro hP hT)
  clear hP hT
  go_enter Tryz.func119, Tryz.ntmps119
  go_wp2_with fail
  go_loopw [9, 10] (fun i j wr => ∃ (lo hi b : Nat), i = .int .i64 lo ∧ j = .int .i64 hi ∧ lo ≤ hi ∧ hi ≤ is.length ∧ hi ≤ lo + b ∧ bsFrom (cmpAtD is n) b lo hi = P ∧ Below w.heap.size w wr) (fun i j _ => (intOf j - intOf i).toNat)
  case atStart => exact ⟨0, is.length, is.length, rfl, rfl, by omega, by omega, by omega, HP.out.1, bel _ _⟩
  case round =>
    obtain ⟨lo, hi, b, rfl, rfl, hlh, hhn, hfu, hbs, hb⟩ := hrel
    have iB : Bel w wr := ⟨hb⟩
    by_cases hlt : lo < hi
    · obtain ⟨b', rfl⟩ : ∃ b', b = b' + 1 := ⟨b - 1, by omega⟩
      obtain ⟨m, hm⟩ : ∃ m, (lo + hi) / 2 = m := ⟨_, rfl⟩
      obtain ⟨b0, off, x, rfl, iG, hx, hcm, c0, c1, c2, c3⟩ := HC.out wr hb m (by omega)
      have hone := x.one
      rw [bsFrom, if_pos hlt, hm, hcm] at hbs
      have HS := Lib.hid hbs
      clear hbs hcm
      have hmI : ((lo : Int) + hi) / 2 = m := by omega
      have hmn : m < is.length := by omega
      have hmnI : (m : Int) < is.length := by omega
      have hcall : ∀ ww, Calls Tryz.prog 120 #[.agg #[.int .i64 x.num, .bool x.dir, x.ev, .string x.data], .int .i64 n] ww fun e w' => e = .returned (.int .i64 (cmpD x.num n)) ∧ Below ww.heap.size ww w' := fun ww => cmp120 x.num n x.dir x.ev x.data hone ww
      have HM := Lib.hid hm
      clear hm
      by_cases hneg : cmpD x.num n < 0
      · generalize hcv : cmpD x.num n = cv at hcall hneg
        go_wp2_with (go_at_call 120; refine (hcall _).mono ?_; rintro e w' ⟨rfl, hb⟩; obtain ⟨p, rfl⟩ := hb.rest; clear hb)
        go_roundw
        case rel => exact ⟨m + 1, hi, b', by go_num, rfl, by have := HM.out; omega, by omega, by have := HM.out; omega, by have := HS.out; rw [hcv, if_pos hneg] at this; exact this, bel _ _⟩
        case measure => have := HM.out; simp [intOf]; omega
      · generalize hcv : cmpD x.num n = cv at hcall hneg
        go_wp2_with (go_at_call 120; refine (hcall _).mono ?_; rintro e w' ⟨rfl, hb⟩; obtain ⟨p, rfl⟩ := hb.rest; clear hb)
        go_roundw
        case rel => exact ⟨lo, m, b', rfl, rfl, by have := HM.out; omega, by omega, by have := HM.out; omega, by have := HS.out; rw [hcv, if_neg (by omega)] at this; exact this, bel _ _⟩
        case measure => have := HM.out; simp [intOf]; omega
    · obtain rfl : lo = hi := by omega
      rw [bsFrom_end _ _ _ _ hlt] at hbs
      have hPl : P = lo := hbs.symm
      subst hPl
      by_cases hln : P < is.length
      · obtain ⟨b0, off, x, rfl, iG, hx, hcm, c0, c1, c2, c3⟩ := HC.out wr hb P hln
        have hone := x.one
        have hlnI : (P : Int) < is.length := by omega
        have hcall : ∀ ww, Calls Tryz.prog 120 #[.agg #[.int .i64 x.num, .bool x.dir, x.ev, .string x.data], .int .i64 n] ww fun e w' => e = .returned (.int .i64 (cmpD x.num n)) ∧ Below ww.heap.size ww w' := fun ww => cmp120 x.num n x.dir x.ev x.data hone ww
        have hTv : T = (cmpD x.num n == 0) := by
          have h1 := HP.out.2
          have h2 := HP.out.1
          rw [← h1]
          unfold bsHitD
          rw [h2, hcm]
          simp [hln]
        clear hcm
        generalize cmpD x.num n = cv at hcall hTv
        subst hTv
        go_wp2_with (go_at_call 120; refine (hcall _).mono ?_; rintro e w' ⟨rfl, hb⟩; obtain ⟨p, rfl⟩ := hb.rest; clear hb)
        refine bodyPost_ret (v := .tuple #[.int .i64 P, .bool (cv == 0)]) (by simp [results, Tryz.results119, go_sem]) rfl ⟨rfl, bel _ _⟩
      · have hlnI : ¬ (P : Int) < is.length := by omega
        have hTv : T = false := by
          have h1 := HP.out.2
          have h2 := HP.out.1
          rw [← h1]
          unfold bsHitD
          rw [h2]
          simp [hln]
        subst hTv
        go_wp2_with fail
        refine bodyPost_ret (v := .tuple #[.int .i64 P, .bool false]) (by simp [results, Tryz.results119, go_sem]) rfl ⟨rfl, bel _ _⟩
end Go.Proofs.YtjkenolgkkknaaaGreatDoor
set_option linter.unusedSimpArgs false
namespace Go.Proofs
open Go.Shelf
def Tryz.lays169_ren : Go.Shelf.Ren := ⟨fun | 169 => 88 | n => n, fun | 70 => 120 | 9 => 9 | 0 => 0 | 72 => 122 | 37 => 43 | 127 => 176 | 3 => 3 | 5 => 5 | n => n, fun | n => n⟩
theorem Tryz.lays169 : Go.Proofs.Lays.n169 Tryz.prog Tryz.lays169_ren := {
  mixed := by kernel_rfl
  f169 := Tryz.func88.trans (congrArg some (by kernel_rfl))
  t0 := Tryz.underlying0
  a0 := Tryz.isAgg0
  z0 := Tryz.sizeOf0
  v0 := Tryz.zeroValue0
  t3 := Tryz.underlying3
  a3 := Tryz.isAgg3
  z3 := Tryz.sizeOf3
  v3 := Tryz.zeroValue3
  t9 := Tryz.underlying9
  a9 := Tryz.isAgg9
  z9 := Tryz.sizeOf9
  v9 := Tryz.zeroValue9
  t37 := Tryz.underlying43
  a37 := Tryz.isAgg43
  z37 := Tryz.sizeOf43
  v37 := Tryz.zeroValue43
  t70 := Tryz.underlying120
  a70 := Tryz.isAgg120
  z70 := Tryz.sizeOf120
  v70 := Tryz.zeroValue120
  t72 := Tryz.underlying122
  a72 := Tryz.isAgg122
  z72 := Tryz.sizeOf122
  v72 := Tryz.zeroValue122
  t127 := Tryz.underlying176
  a127 := Tryz.isAgg176
  z127 := Tryz.sizeOf176
  v127 := Tryz.zeroValue176 }
theorem Tryz.Builder_Extra_169 : Builder.Extra Tryz.prog Tryz.lays169_ren := {
  sizeBuilder := by kernel_rfl
  liesBuilder := by kernel_rfl
  t5 := Tryz.underlying5
  a5 := Tryz.isAgg5
  z5 := Tryz.sizeOf5
  v5 := Tryz.zeroValue5
  infoByte := by kernel_rfl
  cellsByte := by kernel_rfl
  sizeByte := by kernel_rfl
  neB5 := by decide }
open Go.RowKit in
theorem Tryz.Builder_String_any (B b : Nat) (l : List UInt8) (w : World) (h : Lib.IsBuilder 122 5 B b (Lib.byteCells l) w) (hBw : B ≤ w.heap.size) :
    Calls Tryz.prog 88 #[.pointer (some ⟨b, 0, none⟩)] w fun e w' => e = .returned (.string ⟨l.toArray⟩) ∧ Below B w w' := Any.Builder_String_any Tryz.lays169 Tryz.Builder_Extra_169 B b l w h hBw
def Tryz.lays156_ren : Go.Shelf.Ren := ⟨fun | 156 => 133 | 165 => 162 | 166 => 87 | 169 => 88 | 240 => 135 | 241 => 175 | 276 => 164 | 277 => 185 | n => n, fun | 31 => 44 | 9 => 9 | 3 => 3 | 4 => 4 | 0 => 0 | 20 => 20 | 72 => 122 | 76 => 130 | 70 => 120 | 37 => 43 | 75 => 128 | 127 => 176 | 164 => 202 | 5 => 5 | 80 => 132 | n => n, fun | n => n⟩
theorem Tryz.lays156 : Go.Proofs.Lays.n156 Tryz.prog Tryz.lays156_ren := {
  mixed := by kernel_rfl
  f156 := Tryz.func133.trans (congrArg some (by kernel_rfl))
  f165 := Tryz.func162.trans (congrArg some (by kernel_rfl))
  f166 := Tryz.func87.trans (congrArg some (by kernel_rfl))
  f169 := Tryz.func88.trans (congrArg some (by kernel_rfl))
  f240 := Tryz.func135.trans (congrArg some (by kernel_rfl))
  f241 := Tryz.func175.trans (congrArg some (by kernel_rfl))
  f276 := Tryz.func164.trans (congrArg some (by kernel_rfl))
  f277 := Tryz.func185.trans (congrArg some (by kernel_rfl))
  t0 := Tryz.underlying0
  a0 := Tryz.isAgg0
  z0 := Tryz.sizeOf0
  v0 := Tryz.zeroValue0
  t3 := Tryz.underlying3
  a3 := Tryz.isAgg3
  z3 := Tryz.sizeOf3
  v3 := Tryz.zeroValue3
  t4 := Tryz.underlying4
  a4 := Tryz.isAgg4
  z4 := Tryz.sizeOf4
  v4 := Tryz.zeroValue4
  t9 := Tryz.underlying9
  a9 := Tryz.isAgg9
  z9 := Tryz.sizeOf9
  v9 := Tryz.zeroValue9
  t20 := Tryz.underlying20
  a20 := Tryz.isAgg20
  z20 := Tryz.sizeOf20
  v20 := Tryz.zeroValue20
  t31 := Tryz.underlying44
  a31 := Tryz.isAgg44
  z31 := Tryz.sizeOf44
  v31 := Tryz.zeroValue44
  t37 := Tryz.underlying43
  a37 := Tryz.isAgg43
  z37 := Tryz.sizeOf43
  v37 := Tryz.zeroValue43
  t70 := Tryz.underlying120
  a70 := Tryz.isAgg120
  z70 := Tryz.sizeOf120
  v70 := Tryz.zeroValue120
  t72 := Tryz.underlying122
  a72 := Tryz.isAgg122
  z72 := Tryz.sizeOf122
  v72 := Tryz.zeroValue122
  t75 := Tryz.underlying128
  a75 := Tryz.isAgg128
  z75 := Tryz.sizeOf128
  v75 := Tryz.zeroValue128
  t76 := Tryz.underlying130
  a76 := Tryz.isAgg130
  z76 := Tryz.sizeOf130
  v76 := Tryz.zeroValue130
  t127 := Tryz.underlying176
  a127 := Tryz.isAgg176
  z127 := Tryz.sizeOf176
  v127 := Tryz.zeroValue176
  t164 := Tryz.underlying202
  a164 := Tryz.isAgg202
  z164 := Tryz.sizeOf202
  v164 := Tryz.zeroValue202 }
theorem Tryz.Builder_Extra_156 : Builder.Extra Tryz.prog Tryz.lays156_ren := {
  sizeBuilder := by kernel_rfl
  liesBuilder := by kernel_rfl
  t5 := Tryz.underlying5
  a5 := Tryz.isAgg5
  z5 := Tryz.sizeOf5
  v5 := Tryz.zeroValue5
  infoByte := by kernel_rfl
  cellsByte := by kernel_rfl
  sizeByte := by kernel_rfl
  neB5 := by decide }
open Go.RowKit in
theorem Tryz.strings_Join (bk o c : Nat) (xs : List ByteArray) (sep : ByteArray) (w : World) (hcells : ∀ (j : Nat) x, xs[j]? = some x → w.cell? ⟨bk, o + j, none⟩ = some (.string x)) (hbk : bk < w.heap.size) (hN : xs.length ≤ 140737488355328) (hcap : xs.length ≤ c) (hlen : (Lib.join (xs.map (·.data.toList)) sep.data.toList).length ≤ 140737488355328) :
    Calls Tryz.prog 133 #[.slice (some ⟨bk, o, none⟩) xs.length c, .string sep] w fun e w' => e = .returned (.string ⟨(Lib.join (xs.map (·.data.toList)) sep.data.toList).toArray⟩) ∧ Below w.heap.size w w' := Any.strings_Join Tryz.lays156 Tryz.Builder_Extra_156 bk o c xs sep w hcells hbk hN hcap hlen
def Tryz.laysM171_ren : Go.Shelf.Ren := ⟨fun | 171 => 84 | 243 => 134 | 246 => 163 | 283 => 176 | 284 => 177 | 285 => 178 | 286 => 179 | 129 => 187 | 317 => 186 | 318 => 188 | 319 => 189 | 320 => 190 | 337 => 193 | 338 => 194 | n => n, fun | 3 => 3 | 9 => 9 | 2 => 2 | 4 => 4 | 171 => 209 | 0 => 0 | 53 => 101 | 37 => 43 | 5 => 5 | 173 => 212 | 212 => 219 | 51 => 214 | 20 => 20 | 213 => 220 | 46 => 39 | 232 => 224 | 233 => 225 | n => n, fun | 17 => 1 | 18 => 2 | 19 => 3 | n => n⟩
theorem Tryz.laysM171 : Go.Proofs.LaysM.n171 Tryz.prog Tryz.laysM171_ren := {
  mixed := by kernel_rfl
  f129 := Tryz.func187.trans (congrArg some (by kernel_rfl))
  f171 := Tryz.func84.trans (congrArg some (by kernel_rfl))
  f243 := Tryz.func134.trans (congrArg some (by kernel_rfl))
  f246 := Tryz.func163.trans (congrArg some (by kernel_rfl))
  f283 := Tryz.func176.trans (congrArg some (by kernel_rfl))
  f284 := Tryz.func177.trans (congrArg some (by kernel_rfl))
  f285 := Tryz.func178.trans (congrArg some (by kernel_rfl))
  f286 := Tryz.func179.trans (congrArg some (by kernel_rfl))
  f317 := Tryz.func186.trans (congrArg some (by kernel_rfl))
  f318 := Tryz.func188.trans (congrArg some (by kernel_rfl))
  f319 := Tryz.func189.trans (congrArg some (by kernel_rfl))
  f320 := Tryz.func190.trans (congrArg some (by kernel_rfl))
  f337 := Tryz.func193.trans (congrArg some (by kernel_rfl))
  f338 := Tryz.func194.trans (congrArg some (by kernel_rfl))
  t0 := Tryz.underlying0
  a0 := Tryz.isAgg0
  z0 := Tryz.sizeOf0
  v0 := Tryz.zeroValue0
  t2 := Tryz.underlying2
  a2 := Tryz.isAgg2
  z2 := Tryz.sizeOf2
  v2 := Tryz.zeroValue2
  t3 := Tryz.underlying3
  a3 := Tryz.isAgg3
  z3 := Tryz.sizeOf3
  v3 := Tryz.zeroValue3
  t4 := Tryz.underlying4
  a4 := Tryz.isAgg4
  z4 := Tryz.sizeOf4
  v4 := Tryz.zeroValue4
  t5 := Tryz.underlying5
  a5 := Tryz.isAgg5
  z5 := Tryz.sizeOf5
  v5 := Tryz.zeroValue5
  t9 := Tryz.underlying9
  a9 := Tryz.isAgg9
  z9 := Tryz.sizeOf9
  v9 := Tryz.zeroValue9
  t20 := Tryz.underlying20
  a20 := Tryz.isAgg20
  z20 := Tryz.sizeOf20
  v20 := Tryz.zeroValue20
  t37 := Tryz.underlying43
  a37 := Tryz.isAgg43
  z37 := Tryz.sizeOf43
  v37 := Tryz.zeroValue43
  t46 := Tryz.underlying39
  a46 := Tryz.isAgg39
  z46 := Tryz.sizeOf39
  v46 := Tryz.zeroValue39
  t51 := Tryz.underlying214
  a51 := Tryz.isAgg214
  z51 := Tryz.sizeOf214
  v51 := Tryz.zeroValue214
  t53 := Tryz.underlying101
  a53 := Tryz.isAgg101
  z53 := Tryz.sizeOf101
  v53 := Tryz.zeroValue101
  t171 := Tryz.underlying209
  a171 := Tryz.isAgg209
  z171 := Tryz.sizeOf209
  v171 := Tryz.zeroValue209
  t173 := Tryz.underlying212
  a173 := Tryz.isAgg212
  z173 := Tryz.sizeOf212
  v173 := Tryz.zeroValue212
  t212 := Tryz.underlying219
  a212 := Tryz.isAgg219
  z212 := Tryz.sizeOf219
  v212 := Tryz.zeroValue219
  t213 := Tryz.underlying220
  a213 := Tryz.isAgg220
  z213 := Tryz.sizeOf220
  t232 := Tryz.underlying224
  a232 := Tryz.isAgg224
  z232 := Tryz.sizeOf224
  v232 := Tryz.zeroValue224
  t233 := Tryz.underlying225
  a233 := Tryz.isAgg225
  z233 := Tryz.sizeOf225
  v233 := Tryz.zeroValue225
  g17 := by kernel_rfl
  g18 := by kernel_rfl
  g19 := by kernel_rfl
  i0 := by kernel_rfl
  i2 := by kernel_rfl
  i3 := by kernel_rfl
  i4 := by kernel_rfl
  i5 := by kernel_rfl
  i9 := by kernel_rfl
  i20 := by kernel_rfl
  i37 := by kernel_rfl
  i46 := by kernel_rfl
  i51 := by kernel_rfl
  i53 := by kernel_rfl
  i171 := by kernel_rfl
  i173 := by kernel_rfl
  i212 := by kernel_rfl
  i232 := by kernel_rfl
  i233 := by kernel_rfl
  m17 := by kernel_rfl
  m18 := by kernel_rfl
  m19 := by kernel_rfl }
open Go.RowKit Go.Sort Go.Lib in
theorem Tryz.strconv_Itoa (n : Int) (h0 : -9223372036854775808 ≤ n) (h1 : n ≤ 9223372036854775807) (w : World) (htab : Lib.TabIs Tryz.prog w "internal/strconv.uint64pow10" .u64 Lib.pow10Tab) :
    Calls Tryz.prog 84 #[.int .i64 n] w fun e w' => e = .returned (.string ⟨(Lib.itoa n).toArray⟩) ∧ ∃ k os, w' = grow (w.drewN k) os := Any.strconv_Itoa Tryz.laysM171 n h0 h1 w htab
def Tryz.lays240_ren : Go.Shelf.Ren := ⟨fun | 240 => 135 | 276 => 164 | 166 => 87 | 167 => 86 | n => n, fun | 31 => 44 | 9 => 9 | 3 => 3 | 4 => 4 | 0 => 0 | 20 => 20 | 72 => 122 | 76 => 130 | 70 => 120 | 37 => 43 | 75 => 128 | 127 => 176 | 164 => 202 | 5 => 5 | 80 => 132 | n => n, fun | n => n⟩
theorem Tryz.lays167 : Go.Proofs.Lays.n167 Tryz.prog Tryz.lays240_ren := {
  mixed := by kernel_rfl
  f167 := Tryz.func86.trans (congrArg some (by kernel_rfl))
  f240 := Tryz.func135.trans (congrArg some (by kernel_rfl))
  f276 := Tryz.func164.trans (congrArg some (by kernel_rfl))
  t0 := Tryz.underlying0
  a0 := Tryz.isAgg0
  z0 := Tryz.sizeOf0
  v0 := Tryz.zeroValue0
  t4 := Tryz.underlying4
  a4 := Tryz.isAgg4
  z4 := Tryz.sizeOf4
  v4 := Tryz.zeroValue4
  t5 := Tryz.underlying5
  a5 := Tryz.isAgg5
  z5 := Tryz.sizeOf5
  v5 := Tryz.zeroValue5
  t9 := Tryz.underlying9
  a9 := Tryz.isAgg9
  z9 := Tryz.sizeOf9
  v9 := Tryz.zeroValue9
  t20 := Tryz.underlying20
  a20 := Tryz.isAgg20
  z20 := Tryz.sizeOf20
  v20 := Tryz.zeroValue20
  t37 := Tryz.underlying43
  a37 := Tryz.isAgg43
  z37 := Tryz.sizeOf43
  v37 := Tryz.zeroValue43
  t70 := Tryz.underlying120
  a70 := Tryz.isAgg120
  z70 := Tryz.sizeOf120
  v70 := Tryz.zeroValue120
  t72 := Tryz.underlying122
  a72 := Tryz.isAgg122
  z72 := Tryz.sizeOf122
  v72 := Tryz.zeroValue122
  t75 := Tryz.underlying128
  a75 := Tryz.isAgg128
  z75 := Tryz.sizeOf128
  v75 := Tryz.zeroValue128
  t164 := Tryz.underlying202
  a164 := Tryz.isAgg202
  z164 := Tryz.sizeOf202
  v164 := Tryz.zeroValue202 }
theorem Tryz.Builder_Extra_240 : Builder.Extra Tryz.prog Tryz.lays240_ren := {
  sizeBuilder := by kernel_rfl
  liesBuilder := by kernel_rfl
  t5 := Tryz.underlying5
  a5 := Tryz.isAgg5
  z5 := Tryz.sizeOf5
  v5 := Tryz.zeroValue5
  infoByte := by kernel_rfl
  cellsByte := by kernel_rfl
  sizeByte := by kernel_rfl
  neB5 := by decide }
open Go.RowKit in
theorem Tryz.Builder_WriteByte (B b : Nat) (bs : List Value) (c : Int) (w : World) (h : Lib.IsBuilder 122 5 B b bs w) (hlen : bs.length + 1 ≤ 140737488355328) (hBw : B ≤ w.heap.size) :
    Calls Tryz.prog 86 #[.pointer (some ⟨b, 0, none⟩), .int .u8 c] w fun e w' => e = .returned .nilIface ∧ (Lib.BuilderAt 122 5 B b (.pointer (some ⟨b, 0, none⟩)) (bs ++ [.int .u8 c]) w' ∧ Below B w w') := Any.Builder_WriteByte Tryz.lays167 Tryz.Builder_Extra_240 B b bs c w h hlen hBw
end Go.Proofs
/- The writer of package shape: a strings.Builder within a struct. Conditions: none. -/
set_option linter.unusedVariables false
set_option linter.unusedSimpArgs false
namespace Go.Proofs.YtjkenolgkkknaaaGreatDoor
open Go.RowKit
/-- A writer at block b: what it writes of, the builder's own address, its bytes in a row that it owns. -/
def WrAt (B b : Nat) (sv p : Value) (bs : List Value) (w : World) : Prop := B ≤ b ∧ ∃ v, w.heap[b]? = some (.cells #[sv, p, v] 124 (0, 0)) ∧ w.ownsRow B 5 1 v bs.length bs
def IsWr (B b : Nat) (sv : Value) (bs : List Value) (w : World) : Prop := WrAt B b sv (.pointer none) bs w ∨ WrAt B b sv (.pointer (some ⟨b, 1, none⟩)) bs w
theorem WrAt.lt {B b : Nat} {sv p : Value} {bs : List Value} {w : World} (h : WrAt B b sv p bs w) : b < w.heap.size := by
  obtain ⟨_, v, hb, _⟩ := h
  rcases Nat.lt_or_ge b w.heap.size with h' | h'
  · exact h'
  · simp [Array.getElem?_eq_none h'] at hb
theorem WrAt.used {B b : Nat} {sv p : Value} {bs : List Value} {w : World} (h : WrAt B b sv p bs w) (q : Value) : WrAt B b sv q bs (w.setCell ⟨b, 1, none⟩ q) := by
  obtain ⟨hB, v, hb, hown⟩ := h
  refine ⟨hB, v, ?_, ?_⟩
  · simp [World.setCell, Array.getElem?_modify, hb]
  · exact hown.kept (row := some b) ⟨rfl, rfl, rfl, by simp [World.setCell], fun k _ hk => Below.heap_setCell _ _ _ _ (fun e => hk (by simp [e]))⟩ (Or.inr (Lib.ownBlock_ne hown hb (by decide)))
theorem WrAt.put {B b : Nat} {sv p v v' : Value} {bs' : List Value} {w : World} (hB : B ≤ b) (hb : w.heap[b]? = some (.cells #[sv, p, v] 124 (0, 0))) (hown : w.ownsRow B 5 1 v' bs'.length bs') : WrAt B b sv p bs' (w.setCell ⟨b, 2, none⟩ v') := by
  refine ⟨hB, v', ?_, ?_⟩
  · simp [World.setCell, Array.getElem?_modify, hb]
  · exact hown.kept (row := some b) ⟨rfl, rfl, rfl, by simp [World.setCell], fun k _ hk => Below.heap_setCell _ _ _ _ (fun e => hk (by simp [e]))⟩ (Or.inr (Lib.ownBlock_ne hown hb (by decide)))
set_option maxRecDepth 100000 in
set_option maxHeartbeats 1000000 in
theorem wr_used (B b : Nat) (sv : Value) (bs : List Value) (w : World) (h : WrAt B b sv (.pointer (some ⟨b, 1, none⟩)) bs w) :
    Calls Tryz.prog 135 #[.pointer (some ⟨b, 1, none⟩)] w fun e w' => e = .returned (.tuple #[]) ∧ w' = w := by
  obtain ⟨_, v, hb, _⟩ := h
  have h0 : w.cell? ⟨b, 1, none⟩ = some (.pointer (some ⟨b, 1, none⟩)) := by rw [Lib.cell_of_heap hb]; rfl
  obtain ⟨j, hj, _⟩ := Option.map_eq_some_iff.1 Tryz.Builder_Extra_240.sizeBuilder
  go_enter Tryz.func135, Tryz.ntmps135
  go_wp2
  rw [Lib.run_neq_ptr_same w _ Tryz.underlying120 hj]
  go_wp2
  go_end0
  exact ⟨rfl, rfl⟩
set_option maxRecDepth 100000 in
set_option maxHeartbeats 1000000 in
theorem wr_fresh (B b : Nat) (sv : Value) (bs : List Value) (w : World) (h : WrAt B b sv (.pointer none) bs w) :
    Calls Tryz.prog 135 #[.pointer (some ⟨b, 1, none⟩)] w fun e w' => e = .returned (.tuple #[]) ∧ w' = w.setCell ⟨b, 1, none⟩ (.pointer (some ⟨b, 1, none⟩)) := by
  obtain ⟨_, v, hb, _⟩ := h
  have h0 : w.cell? ⟨b, 1, none⟩ = some (.pointer none) := by rw [Lib.cell_of_heap hb]; rfl
  have hsh : w.shape? b = some (124, 3) := by simp [World.shape?, hb]
  have hfz : w.frozen? ⟨b, 1, none⟩ = false := Lib.frozen_of_heap hb 1
  obtain ⟨j, hj, hjs⟩ := Option.map_eq_some_iff.1 Tryz.Builder_Extra_240.sizeBuilder
  go_enter Tryz.func135, Tryz.ntmps135
  go_wp2
  rw [Lib.run_to_unsafe w ⟨b, 1, none⟩ Tryz.underlying120 Tryz.underlying202 hj (by rw [hjs]; decide) hsh (by show 1 < 3; omega)]
  simp only [Result.andThen]
  rw [Oper.upon_value]
  go_wp2
  rw [run_callFunc_extern Tryz.func164 (by kernel_rfl) (by kernel_rfl) (by kernel_rfl) (e := Extern.AbiNoEscape.same) (by kernel_rfl)]
  rw [Lib.run_noEscape]
  simp only [Result.andThen]
  rw [Oper.upon_value]
  go_wp2
  rw [Lib.run_from_unsafe w ⟨b, 1, none⟩ Tryz.underlying202 Tryz.underlying120 hj hsh (by kernel_rfl)]
  simp only [Result.andThen]
  rw [Oper.upon_value]
  go_wp2
  go_end0
  exact ⟨rfl, rfl⟩
theorem wr_check (B b : Nat) (sv : Value) (bs : List Value) (w : World) (h : IsWr B b sv bs w) :
    Calls Tryz.prog 135 #[.pointer (some ⟨b, 1, none⟩)] w fun e w' => e = .returned (.tuple #[]) ∧ WrAt B b sv (.pointer (some ⟨b, 1, none⟩)) bs w' ∧ Below B w w' := by
  rcases h with h | h
  · refine (wr_fresh B b sv bs w h).mono ?_
    rintro e w' ⟨rfl, rfl⟩
    exact ⟨rfl, h.used _, (Below.refl B w).setCell (p := ⟨b, 1, none⟩) h.1 _⟩
  · refine (wr_used B b sv bs w h).mono ?_
    rintro e w' ⟨rfl, rfl⟩
    exact ⟨rfl, h, Below.refl B _⟩
set_option maxRecDepth 100000 in
set_option maxHeartbeats 2000000 in
theorem wr_str (B b : Nat) (sv : Value) (bs : List Value) (s : ByteArray) (w : World) (h : IsWr B b sv bs w) (hlen : bs.length + s.size ≤ 140737488355328) (hBw : B ≤ w.heap.size) :
    Calls Tryz.prog 87 #[.pointer (some ⟨b, 1, none⟩), .string s] w fun e w' => e = .returned (.tuple #[.int .i64 s.size, .nilIface]) ∧ WrAt B b sv (.pointer (some ⟨b, 1, none⟩)) (bs ++ Lib.strCells s) w' ∧ Below B w w' := by
  obtain ⟨i0, hi, hz0, hz1, hz2⟩ := info_parts Tryz.Builder_Extra_240.infoByte
  go_enter Tryz.func87, Tryz.ntmps87
  go_wp2_with (go_at_call 135; refine (wr_check B b sv bs _ h).mono ?_)
  rintro e w1 ⟨rfl, h1, hb1⟩
  obtain ⟨hB, v, hbk, hown⟩ := h1
  have hne := Lib.ownBlock_ne hown hbk (by decide)
  have c0 : w1.cell? ⟨b, 1, none⟩ = some (.pointer (some ⟨b, 1, none⟩)) := by rw [Lib.cell_of_heap hbk]; rfl
  have c1 : w1.cell? ⟨b, 2, none⟩ = some v := by rw [Lib.cell_of_heap hbk]; rfl
  go_wp2_with (at_builtin; refine Lib.wpList_append_own_string _ rfl _ _ 43 9 rfl B 5 i0 Tryz.underlying43 Tryz.underlying9 hi hz0 hz1 hz2 _ _ _ rfl hown s rfl ?c3 ?c4 ?c5 ?_)
  case c3 => unfold maxLen; omega
  case c4 => omega
  case c5 => have := hb1.size; omega
  intro v' w2 hown' hgrow _
  have hlt : b < w1.heap.size := by
    rcases Nat.lt_or_ge b w1.heap.size with h' | h'
    · exact h'
    · simp [Array.getElem?_eq_none h'] at hbk
  have hb2 : w2.heap[b]? = some (.cells #[sv, .pointer (some ⟨b, 1, none⟩), v] 124 (0, 0)) := by
    rw [hgrow.block b hlt (fun e => hne e.symm)]
    exact hbk
  have d0 : w2.cell? ⟨b, 1, none⟩ = some (.pointer (some ⟨b, 1, none⟩)) := by rw [Lib.cell_of_heap hb2]; rfl
  have d1 : w2.cell? ⟨b, 2, none⟩ = some v := by rw [Lib.cell_of_heap hb2]; rfl
  have f1 : w2.frozen? ⟨b, 2, none⟩ = false := Lib.frozen_of_heap hb2 2
  obtain ⟨ao, n', cap, rfl⟩ : ∃ ao n' cap, v' = .slice ao n' cap := by
    rcases hown'.2 with ⟨hv, _⟩ | ⟨g, cap, cur, hv, _⟩
    · exact ⟨_, _, _, hv⟩
    · exact ⟨_, _, _, hv⟩
  go_wp2
  go_ret2
  refine ⟨rfl, ?_, ?_⟩
  · exact WrAt.put hB hb2 (bs' := bs ++ Lib.strCells s) (by simpa [Lib.strCells_length] using hown')
  · exact (hb1.grown hgrow (by have := hb1.size; omega) (fun k hk => (hown.lt k hk).1)).setCell (p := ⟨b, 2, none⟩) hB _
set_option maxRecDepth 100000 in
set_option maxHeartbeats 2000000 in
theorem wr_byte (B b : Nat) (sv : Value) (bs : List Value) (c : Int) (w : World) (h : IsWr B b sv bs w) (hlen : bs.length + 1 ≤ 140737488355328) (hBw : B ≤ w.heap.size) :
    Calls Tryz.prog 86 #[.pointer (some ⟨b, 1, none⟩), .int .u8 c] w fun e w' => e = .returned .nilIface ∧ WrAt B b sv (.pointer (some ⟨b, 1, none⟩)) (bs ++ [.int .u8 c]) w' ∧ Below B w w' := by
  obtain ⟨i0, hi, hz0, hz1, hz2⟩ := info_parts Tryz.Builder_Extra_240.infoByte
  go_enter Tryz.func86, Tryz.ntmps86
  go_wp2_with (go_at_call 135; refine (wr_check B b sv bs _ h).mono ?_)
  rintro e w1 ⟨rfl, h1, hb1⟩
  obtain ⟨hB, v, hbk, hown⟩ := h1
  have hne := Lib.ownBlock_ne hown hbk (by decide)
  have c0 : w1.cell? ⟨b, 1, none⟩ = some (.pointer (some ⟨b, 1, none⟩)) := by rw [Lib.cell_of_heap hbk]; rfl
  have c1 : w1.cell? ⟨b, 2, none⟩ = some v := by rw [Lib.cell_of_heap hbk]; rfl
  go_wp2_with (at_builtin; refine wpList_append_own _ rfl _ _ 43 rfl B 5 i0 (.int .u8 0) 1 1 Tryz.underlying43 hi hz0 hz1 hz2 rfl (by decide) _ _ _ rfl (hown.alloc _) ⟨w1.heap.size, 0, none⟩ 1 1 [.int .u8 c] rfl rfl ?c1 ?c2 ?c3 ?c4 ?c5 ?_)
  case c1 =>
    intro j u hj
    match j, hj with
    | 0, hj => simp at hj; subst hj; simp [Addr.add]
  case c2 => intro u hu; simp at hu; subst hu; rfl
  case c3 => unfold maxLen; omega
  case c4 => omega
  case c5 => have := hb1.size; simp; omega
  intro v' w2 hown' hgrow _
  have hlt : b < w1.heap.size := by
    rcases Nat.lt_or_ge b w1.heap.size with h' | h'
    · exact h'
    · simp [Array.getElem?_eq_none h'] at hbk
  have hb2 : w2.heap[b]? = some (.cells #[sv, .pointer (some ⟨b, 1, none⟩), v] 124 (0, 0)) := by
    rw [hgrow.block b (by simp; omega) (fun e => hne e.symm), Lib.alloc_old w1 _ b hlt]
    exact hbk
  have d0 : w2.cell? ⟨b, 1, none⟩ = some (.pointer (some ⟨b, 1, none⟩)) := by rw [Lib.cell_of_heap hb2]; rfl
  have d1 : w2.cell? ⟨b, 2, none⟩ = some v := by rw [Lib.cell_of_heap hb2]; rfl
  have f1 : w2.frozen? ⟨b, 2, none⟩ = false := Lib.frozen_of_heap hb2 2
  obtain ⟨g, cap, rfl⟩ : ∃ g cap, v' = .slice (some ⟨g, 0, none⟩) (bs.length + 1) cap := by
    rcases hown'.2 with ⟨_, h0⟩ | ⟨g, cap, cur, hv, _⟩
    · omega
    · exact ⟨g, cap, hv⟩
  go_wp2
  go_ret
  refine ⟨rfl, ?_, ?_⟩
  · exact WrAt.put hB hb2 (bs' := bs ++ [.int .u8 c]) (by simpa using hown')
  · exact ((hb1.alloc (by have := hb1.size; omega) _).grown hgrow (by have := hb1.size; simp; omega) (fun k hk => (hown.lt k hk).1)).setCell (p := ⟨b, 2, none⟩) hB _
set_option maxRecDepth 100000 in
set_option maxHeartbeats 2000000 in
theorem wr_text (B b : Nat) (sv : Value) (l : List UInt8) (w : World) (h : IsWr B b sv (Lib.byteCells l) w) (h0 : l ≠ []) :
    Calls Tryz.prog 88 #[.pointer (some ⟨b, 1, none⟩)] w fun e w' => e = .returned (.string ⟨l.toArray⟩) ∧ Below B w w' := by
  obtain ⟨p, hB, v, hbk, hown⟩ : ∃ p, WrAt B b sv p (Lib.byteCells l) w := by
    rcases h with h | h
    · exact ⟨_, h⟩
    · exact ⟨_, h⟩
  have hl0 : l.length ≠ 0 := by simpa using h0
  rw [Lib.byteCells_length] at hown
  obtain ⟨g, cap, cur, rfl, hbg, hg, hnc, hcm, hcs, htake⟩ : ∃ g cap cur, v = .slice (some ⟨g, 0, none⟩) l.length cap ∧ B ≤ g ∧ w.heap[g]? = some (.cells cur 5 (0, 0)) ∧ l.length ≤ cap ∧ cap ≤ maxLen ∧ cur.size = cap * 1 ∧ cur.toList.take (l.length * 1) = Lib.byteCells l := by
    rcases hown.2 with ⟨_, hz⟩ | ⟨g, cap, cur, hv, r⟩
    · exact absurd hz hl0
    · exact ⟨g, cap, cur, hv, r⟩
  have c1 : w.drew.cell? ⟨b, 2, none⟩ = some (.slice (some ⟨g, 0, none⟩) l.length cap) := by
    have : w.drew.heap[b]? = some (.cells #[sv, p, .slice (some ⟨g, 0, none⟩) l.length cap] 124 (0, 0)) := hbk
    rw [Lib.cell_of_heap this]; rfl
  have hSD : (Builtin.unsafeSliceData_ #[43] 176 #[.slice (some ⟨g, 0, none⟩) l.length cap]).run Tryz.prog w.drew = .ok (.pointer (some ⟨g, 0, none⟩)) w.drew :=
    Lib.run_unsafeSliceData_row _ _ _ _ _ _ (by omega)
  have hUS : (Builtin.unsafeString_ #[176, 3] 9 #[.pointer (some ⟨g, 0, none⟩), .int .i64 l.length]).run Tryz.prog w.drew = .ok (.string ⟨l.toArray⟩) (w.drew.freeze ⟨g, 0, none⟩ l.length) := by
    refine Lib.run_unsafeString_row w.drew 176 3 9 5 Tryz.underlying176 Tryz.Builder_Extra_240.cellsByte g cur.size (by have hg' : w.drew.heap[g]? = some (.cells cur 5 (0, 0)) := hg; simp [World.shape?, hg']) l h0 (by omega) (by unfold maxLen at hcm; omega) ?_
    intro j x hx
    have := hown.cells (g := g) rfl j (.int .u8 x.toNat) (by simp [Lib.byteCells, hx])
    exact this
  go_enter Tryz.func88, Tryz.ntmps88
  go_wp2
  go_region
  all_goals (go_wp2; go_ret; exact ⟨rfl, Lib.below_freeze (Below.drew (Below.refl B w)) (p := ⟨g, 0, none⟩) hbg _⟩)
end Go.Proofs.YtjkenolgkkknaaaGreatDoor
/- Links of the model: how many names an inode has. Conditions: none. -/
set_option linter.unusedVariables false
set_option linter.unusedSimpArgs false
namespace Go.Proofs.YtjkenolgkkknaaaGreatDoor
open Go.RowKit
def linkE (n : Int) (x : PIn) : List PEnt → Nat
  | [] => 0
  | e :: r => (if (x.dir && (e.num == n)) = true then 1 else 0) + linkE n x r
def linkI (n : Int) : List PIn → Nat
  | [] => 0
  | x :: r => linkE n x x.ents + linkI n r
def linksM (S : PSt) (n : Int) : Nat := linkI n S.ins
theorem linkE_le (n : Int) (x : PIn) : ∀ es, linkE n x es ≤ es.length
  | [] => Nat.le_refl _
  | e :: r => by
    have := linkE_le n x r
    unfold linkE
    split <;> simp <;> omega
theorem linkI_le (n : Int) : ∀ xs : List PIn, (∀ x ∈ xs, x.ents.length ≤ 1000000000) → linkI n xs ≤ xs.length * 1000000000
  | [], _ => Nat.le_refl _
  | x :: r, h => by
    have h1 := linkI_le n r (fun y hy => h y (List.mem_cons_of_mem _ hy))
    have h2 := linkE_le n x x.ents
    have h3 := h x List.mem_cons_self
    unfold linkI
    simp only [List.length_cons]
    omega
theorem linksM_le {S : PSt} (h : S.wf) (n : Int) : linksM S n ≤ 1000000000000000000 := by
  have h1 := linkI_le n S.ins (fun x hx => (h.2.2.2.1 x hx).2.1)
  have h2 := h.1
  have h3 : S.ins.length * 1000000000 ≤ 1000000000 * 1000000000 := Nat.mul_le_mul_right _ h2
  unfold linksM
  omega
theorem linkI_drop {n : Int} {xs : List PIn} {q : Nat} {z : PIn} (h : xs[q]? = some z) : linkI n (xs.drop q) = linkE n z z.ents + linkI n (xs.drop (q + 1)) := by rw [drop_at h]; rfl
theorem linkE_drop {n : Int} {x : PIn} {es : List PEnt} {q : Nat} {z : PEnt} (h : es[q]? = some z) : linkE n x (es.drop q) = (if (x.dir && (z.num == n)) = true then 1 else 0) + linkE n x (es.drop (q + 1)) := by rw [drop_at h]; rfl
set_option maxRecDepth 100000 in
set_option maxHeartbeats 4000000 in
theorem links82 (iv ov mv : Value) (S : PSt) (n : Int) (w : World) (h : StRead w iv ov mv S) (hwf : S.wf) :
    Calls Tryz.prog 82 #[.agg #[iv, ov, mv], .int .i64 n] w fun e w' => e = .returned (.int .i64 (linksM S n)) ∧ Below w.heap.size w w' := by
  have hoo := h.1.one
  have hmo := h.2.1.one
  obtain ⟨ai, capi, rfl, hati⟩ := h.ins_at2
  have HI := Lib.hid hati
  have hNl := linksM_le hwf n
  have hlin := hwf.1
  unfold linksM at *
  obtain ⟨N, hN⟩ : ∃ N, linkI n S.ins = N := ⟨_, rfl⟩
  rw [hN] at hNl ⊢
  have HN := Lib.hid hN
  have HW := Lib.hid hwf.2.2.2.1
  clear h hati hN hwf
  go_enter Tryz.func82, Tryz.ntmps82
  go_wp2_with fail
  go_loopw [5, 13] (fun vn vi wr => ∃ (q a : Nat), vi = .int .i64 q ∧ vn = .int .i64 a ∧ q ≤ S.ins.length ∧ a + linkI n (S.ins.drop q) = N ∧ Below w.heap.size w wr) (fun _ vi _ => (S.ins.length - intOf vi).toNat)
  case atStart => exact ⟨0, 0, rfl, rfl, by omega, by simpa using HN.out, bel _ _⟩
  case round =>
    obtain ⟨q, a, rfl, rfl, hq, hre, hb⟩ := hrel
    rename World => wo
    have iB : Bel w wo := ⟨hb⟩
    by_cases hlt : q < S.ins.length
    · obtain ⟨z, hz⟩ : ∃ z, S.ins[q]? = some z := ⟨_, List.getElem?_eq_getElem hlt⟩
      rw [linkI_drop hz] at hre
      obtain ⟨bi, off, ev1, rfl, iG0, ho1, hev, hcl⟩ := HI.out q z hz
      obtain ⟨iGr, y0, y1, y2, y3⟩ := hcl wo hb
      obtain ⟨ae, ce, rfl, hat⟩ := hev.at_
      rw [List.length_map] at y2
      have HE := Lib.hid hat
      have hzl := (HW.out z (List.mem_of_getElem? hz)).2.1
      have HR := Lib.hid hre
      clear hat hev hz hre hcl
      go_wp2_with fail
      go_loopw [5, 20] (fun vn vi w2 => ∃ (k a2 : Nat), vi = .int .i64 k ∧ vn = .int .i64 a2 ∧ k ≤ z.ents.length ∧ a2 + linkE n z (z.ents.drop k) = a + linkE n z z.ents ∧ Below wo.heap.size wo w2 ∧ Blk w2 wo.heap.size #[.int .i64 z.num, .bool z.dir, .slice ae z.ents.length ce, .string z.data] 65) (fun _ vi _ => (z.ents.length - intOf vi).toNat)
      case atStart => exact ⟨0, a, rfl, rfl, by omega, rfl, bel _ _, Blk.new _ _ _⟩
      case round =>
        obtain ⟨k, a2, rfl, rfl, hk, hre2, hb2, hblk⟩ := hrel
        have iB2 : Bel w wr := ⟨hb.trans (hb2.mono hb.size)⟩
        have iB3 : Bel wo wr := ⟨hb2⟩
        have z0 := hblk.cell 1
        have iK := hblk.lt
        have HK := Lib.hid hblk
        by_cases hlk : k < z.ents.length
        · obtain ⟨e, he⟩ : ∃ e, z.ents[k]? = some e := ⟨_, List.getElem?_eq_getElem hlk⟩
          rw [linkE_drop he] at hre2
          obtain ⟨be, offe, rfl, iE0, iE, hce⟩ := HE.out wr iB2.below k e.cells (by rw [List.getElem?_map, he]; rfl)
          have e0 := hce 0 _ rfl
          have e1 := hce 1 _ rfl
          rw [Nat.add_zero] at e0
          have ha2 : a2 + 1 ≤ 1000000000000000001 := by have := HR.out; omega
          have ew : wrap64 ((a2 : Int) + 1) = (a2 : Int) + 1 := by simp only [wrap64]; omega
          generalize hd : z.dir = dd at *
          generalize hg : (e.num == n) = gg at hre2
          have HR2 := Lib.hid hre2
          clear hre2 hce he hblk
          rcases dd with _ | _ <;> rcases gg with _ | _
          · go_wp2_with fail
            go_roundw
            case rel => exact ⟨k + 1, a2, by go_num, rfl, by omega, by have := HR2.out; simpa using this, bel _ _, (HK.out.alloc _)⟩
            case measure => simp [intOf]; omega
          · go_wp2_with fail
            go_roundw
            case rel => exact ⟨k + 1, a2, by go_num, rfl, by omega, by have := HR2.out; simpa using this, bel _ _, (HK.out.alloc _)⟩
            case measure => simp [intOf]; omega
          · go_wp2_with fail
            go_roundw
            case rel => exact ⟨k + 1, a2, by go_num, rfl, by omega, by have := HR2.out; simpa using this, bel _ _, (HK.out.alloc _)⟩
            case measure => simp [intOf]; omega
          · go_wp2_with fail
            go_roundw
            case rel => exact ⟨k + 1, a2 + 1, by go_num, by go_num, by omega, by have := HR2.out; simp at this; omega, bel _ _, (HK.out.alloc _)⟩
            case measure => simp [intOf]; omega
        · rw [List.drop_of_length_le (by omega)] at hre2
          clear hblk
          go_wp2_with fail
          go_roundw
          case rel => exact ⟨q + 1, a2, by go_num, rfl, by omega, by have := HR.out; have e : a2 + linkE n z [] = _ := hre2; simp only [linkE] at e; omega, iB2.below⟩
          case measure => simp [intOf]; omega
    · rw [List.drop_of_length_le (by omega)] at hre
      have e : a = N := by simpa [linkI] using hre
      clear hre
      subst e
      go_wp2_with fail
      go_ret
      exact ⟨rfl, bel _ _⟩
end Go.Proofs.YtjkenolgkkknaaaGreatDoor
/- Finding an inode by its number in a slice of inodes, as package shape does. Conditions: none. -/
set_option linter.unusedVariables false
set_option linter.unusedSimpArgs false
namespace Go.Proofs.YtjkenolgkkknaaaGreatDoor
open Go.RowKit
set_option maxRecDepth 100000 in
theorem index173 (zs : List IRec) (v : Value) (l0 : Value) (p : IRec → Bool) (w : World) (h : RowAt w 4 v (zs.map IRec.cells)) (hlen : zs.length ≤ 1000000000)
    (hg : ∀ (z : IRec) (ww : World), z ∈ zs → Below w.heap.size w ww → Calls Tryz.prog 174 #[.agg #[.int .i64 z.num, .bool z.dir, z.ev, .string z.data], l0] ww fun e w' => e = .returned (.bool (p z)) ∧ Below ww.heap.size ww w') :
    Calls Tryz.prog 173 #[v, .func (.func 174) #[] #[l0]] w fun e w' => e = .returned (.int .i64 (idxM p zs)) ∧ Below w.heap.size w w' := by
  obtain ⟨a, cap, rfl, hat⟩ := h.at_
  rw [List.length_map]
  have HA := Lib.hid hat
  clear hat h
  unfold idxM
  obtain ⟨R, hR⟩ : ∃ R, idxFrom p zs 0 = R := ⟨_, rfl⟩
  rw [hR]
  have HR := Lib.hid hR
  clear hR
  go_enter Tryz.func173, Tryz.ntmps173
  go_wp2_with fail
  go_loopw [8] (fun i wr => ∃ (q : Nat), i = .int .i64 q ∧ q ≤ zs.length ∧ idxFrom p (zs.drop q) q = R ∧ Below w.heap.size w wr) (fun i _ => (zs.length - intOf i).toNat)
  case atStart => exact ⟨0, rfl, by omega, HR.out, bel _ _⟩
  case round =>
    obtain ⟨q, rfl, hq, hre, hb⟩ := hrel
    have iB : Bel w wr := ⟨hb⟩
    by_cases hlt : q < zs.length
    · obtain ⟨z, hz⟩ : ∃ z, zs[q]? = some z := ⟨_, List.getElem?_eq_getElem hlt⟩
      obtain ⟨b, off, rfl, iG0, iG, hc⟩ := HA.out wr hb q (IRec.cells z) (by rw [List.getElem?_map, hz]; rfl)
      have c0 := hc 0 _ rfl
      have c1 := hc 1 _ rfl
      have c2 := hc 2 _ rfl
      have c3 := hc 3 _ rfl
      rw [idxFrom_drop p zs q z hz] at hre
      have hcall : ∀ ww, Below w.heap.size w ww → Calls Tryz.prog 174 #[.agg #[.int .i64 z.num, .bool z.dir, z.ev, .string z.data], l0] ww fun e w' => e = .returned (.bool (p z)) ∧ Below ww.heap.size ww w' := fun ww hww => hg z ww (List.mem_of_getElem? hz) hww
      have HZ := Lib.hid (And.intro hz hre)
      clear hc hz hre hg
      rw [Nat.add_zero] at c0
      generalize hpz : p z = t at hcall HZ
      rcases t with _ | _
      · go_wp2_with (go_at_call 174; refine (hcall _ (bel _ _)).mono ?_; rintro e w' ⟨rfl, hb⟩; obtain ⟨p, rfl⟩ := hb.rest; clear hb)
        go_roundw
        case rel => exact ⟨q + 1, by go_num, by omega, by have := HZ.out.2; simpa using this, bel _ _⟩
        case measure => simp [intOf]; omega
      · have hv : R = q := by have := HZ.out.2; simpa using this.symm
        subst hv
        go_wp2_with (go_at_call 174; refine (hcall _ (bel _ _)).mono ?_; rintro e w' ⟨rfl, hb⟩; obtain ⟨p, rfl⟩ := hb.rest; clear hb)
        exact bodyPost_ret (v := .int .i64 q) (by simp [results, Tryz.results173, go_sem]) rfl ⟨rfl, bel _ _⟩
    · rw [idxFrom_end p zs q hlt] at hre
      subst hre
      clear hg
      go_wp2_with fail
      exact bodyPost_ret (v := .int .i64 (-1)) (by simp [results, Tryz.results173, go_sem]) rfl ⟨rfl, bel _ _⟩
set_option maxRecDepth 100000 in
theorem clo174 (r : IRec) (bx : Nat) (n : Int) (w : World) (ib : BlockLt bx w) (hx : w.cell? ⟨bx, 0, none⟩ = some (.int .i64 n)) :
    Calls Tryz.prog 174 #[.agg #[.int .i64 r.num, .bool r.dir, r.ev, .string r.data], .pointer (some ⟨bx, 0, none⟩)] w fun e w' => e = .returned (.bool (r.num == n)) ∧ Below w.heap.size w w' := by
  have ho := r.one
  go_enter Tryz.func174, Tryz.ntmps174
  go_wp2_with fail
  go_ret
  exact ⟨by first | rfl | simp_all, bel _ _⟩
def isNum (n : Int) (x : PIn) : Bool := x.num == n
theorem idx_recs (is : List IRec) (xs : List PIn) (n : Int) (hl : is.length = xs.length) (h : ∀ (q : Nat) (r : IRec) (x : PIn), is[q]? = some r → xs[q]? = some x → r.num = x.num) : idxM (fun r : IRec => r.num == n) is = idxM (isNum n) xs := by
  have key : ∀ (is : List IRec) (xs : List PIn) (q : Nat), is.length = xs.length → (∀ (q : Nat) (r : IRec) (x : PIn), is[q]? = some r → xs[q]? = some x → r.num = x.num) → idxFrom (fun r : IRec => r.num == n) is q = idxFrom (isNum n) xs q := by
    intro is
    induction is with
    | nil =>
      intro xs q hl _
      obtain rfl : xs = [] := List.eq_nil_of_length_eq_zero hl.symm
      rfl
    | cons r is ih =>
      intro xs q hl h
      obtain ⟨x, xs, rfl⟩ : ∃ x ys, xs = x :: ys := by
        rcases xs with _ | ⟨x, ys⟩
        · simp at hl
        · exact ⟨x, ys, rfl⟩
      have h0 := h 0 r x rfl rfl
      unfold idxFrom
      rw [ih xs (q + 1) (by simpa using hl) (fun k r' x' hr hx => h (k + 1) r' x' (by simpa using hr) (by simpa using hx))]
      simp only [isNum, h0]
      rfl
  exact key is xs 0 hl h
set_option maxRecDepth 100000 in
set_option maxHeartbeats 2000000 in
theorem inode161 (b p : Nat) (S : PSt) (n : Int) (w : World) (iB : BlockLt b w) (hb0 : w.cell? ⟨b, 0, none⟩ = some (.pointer (some ⟨p, 0, none⟩))) (h : SP w p S) (hlen : S.ins.length ≤ 1000000000) (K : Nat) (hK : idxM (isNum n) S.ins = K) (hKl : K < S.ins.length) :
    Calls Tryz.prog 161 #[.pointer (some ⟨b, 0, none⟩), .int .i64 n] w fun e w' => (∃ bi off cap, w.cell? ⟨p, 0, none⟩ = some (.slice (some ⟨bi, off, none⟩) S.ins.length cap) ∧ e = .returned (.pointer (some ⟨bi, off + K * 4, none⟩))) ∧ Below w.heap.size w w' := by
  obtain ⟨hl, iv, ov, mv, c0, c1, c2, hr⟩ := h
  have iP : BlockLt p w := ⟨hl⟩
  obtain ⟨_, _, is, h3, h4, h5⟩ := hr
  have hidx : ∀ ww bx, Below w.heap.size w ww → BlockLt bx ww → ww.cell? ⟨bx, 0, none⟩ = some (.int .i64 n) → Calls Tryz.prog 173 #[iv, .func (.func 174) #[] #[.pointer (some ⟨bx, 0, none⟩)]] ww fun e w' => e = .returned (.int .i64 K) ∧ Below ww.heap.size ww w' := fun ww bx hb ib hx => by
    have := index173 is iv (.pointer (some ⟨bx, 0, none⟩)) (fun r => r.num == n) ww (h3.below hb (Nat.le_refl _)) (by omega) (fun z wz _ hz => clo174 z bx n wz ⟨by have := ib.lt; have := hz.size; omega⟩ ((hz.cell (p := ⟨bx, 0, none⟩) ib.lt).trans hx))
    rw [idx_recs is S.ins n h4 (fun q r x hr hx => (h5 q r x hr hx).1), hK] at this
    exact this
  obtain ⟨ai, capi, rfl, hati⟩ := h3.at_
  rw [List.length_map, h4] at c0 hidx
  obtain ⟨r, hr⟩ : ∃ r, is[K]? = some r := ⟨_, List.getElem?_eq_getElem (by omega)⟩
  obtain ⟨bi, off, rfl, iG0, -, -⟩ := hati w (bel _ _) K r.cells (by rw [List.getElem?_map, hr]; rfl)
  have HC := Lib.hid c0
  have hKI : (K : Int) < S.ins.length := by omega
  clear h3 h5 hati hr c1 c2 hK
  go_enter Tryz.func161, Tryz.ntmps161
  go_wp2_with (go_at_call 173; refine (hidx _ _ (bel _ _) inferInstance (by go_simp)).mono ?_; rintro e w' ⟨rfl, hb⟩; obtain ⟨p, rfl⟩ := hb.rest; clear hb)
  go_ret
  exact ⟨⟨_, _, _, HC.out, rfl⟩, bel _ _⟩
end Go.Proofs.YtjkenolgkkknaaaGreatDoor
/- Lines, numbers and hex digits, as package shape writes them. Conditions: none. -/
set_option linter.unusedVariables false
set_option linter.unusedSimpArgs false
namespace Go.Proofs.YtjkenolgkkknaaaGreatDoor
open Go.RowKit
theorem byteCells_app (t : List UInt8) (s : ByteArray) : Lib.byteCells t ++ Lib.strCells s = Lib.byteCells (t ++ s.data.toList) := by rw [Lib.strCells_eq, Lib.byteCells_append]
/-- What holds at a world whose blocks lie all below B, and since then none of these was touched. -/
def Laid (B : Nat) (P : World → Prop) (w : World) : Prop := ∃ w0, P w0 ∧ w0.heap.size ≤ B ∧ Below w0.heap.size w0 w
theorem Laid.below {B : Nat} {P : World → Prop} {w w' : World} (h : Laid B P w) (hb : Below B w w') : Laid B P w' := by
  obtain ⟨w0, h0, h1, h2⟩ := h
  exact ⟨w0, h0, h1, h2.trans (hb.mono h1)⟩
theorem Laid.at_ {P : World → Prop} {w : World} (h : P w) : Laid w.heap.size P w := ⟨w, h, Nat.le_refl _, Below.refl _ _⟩
theorem Laid.imp {B : Nat} {P Q : World → Prop} {w : World} (h : Laid B P w) (hpq : ∀ w, P w → Q w) : Laid B Q w := by
  obtain ⟨w0, h0, h1, h2⟩ := h
  exact ⟨w0, hpq _ h0, h1, h2⟩
theorem Laid.up {B B' : Nat} {P : World → Prop} {w : World} (h : Laid B P w) (hB : B ≤ B') : Laid B' P w := by
  obtain ⟨w0, h0, h1, h2⟩ := h
  exact ⟨w0, h0, Nat.le_trans h1 hB, h2⟩
/-- The table of powers of ten. -/
def Pow10 (w : World) : Prop := Lib.TabIs Tryz.prog w "internal/strconv.uint64pow10" .u64 Lib.pow10Tab
theorem itoa84 (B : Nat) (n : Int) (hn : I64 n) (w : World) (h : Laid B Pow10 w) :
    Calls Tryz.prog 84 #[.int .i64 n] w fun e w' => e = .returned (.string ⟨(Lib.itoa n).toArray⟩) ∧ Below w.heap.size w w' := by
  obtain ⟨w0, h0, h1, h2⟩ := h
  have ht : Lib.TabIs Tryz.prog w "internal/strconv.uint64pow10" .u64 Lib.pow10Tab := Lib.tabBelow_of_tabIs h0 w h2
  refine (Tryz.strconv_Itoa n hn.1 hn.2 w ht).mono ?_
  rintro e w' ⟨rfl, k, os, rfl⟩
  exact ⟨rfl, Lib.below_grow _ _ (Nat.le_refl _) k os⟩
def lineM (ws : List ByteArray) : List UInt8 := Lib.join (ws.map (·.data.toList)) [32] ++ [10]
theorem IsWr.below {B b : Nat} {sv : Value} {bs : List Value} {w w' : World} (h : IsWr B b sv bs w) (hb : Below w.heap.size w w') : IsWr B b sv bs w' := by
  have key : ∀ p, WrAt B b sv p bs w → WrAt B b sv p bs w' := by
    intro p h
    have hl := h.lt
    obtain ⟨hB, v, hbk, hown⟩ := h
    exact ⟨hB, v, (hb.block b hl).trans hbk, hown.kept (row := none) ⟨hb.os, hb.tape, hb.output, hb.size, fun k hk _ => hb.block k hk⟩ (by cases v.ownBlock <;> simp)⟩
  rcases h with h | h
  · exact .inl (key _ h)
  · exact .inr (key _ h)
theorem IsWr.lt {B b : Nat} {sv : Value} {bs : List Value} {w : World} (h : IsWr B b sv bs w) : b < w.heap.size := by
  rcases h with h | h <;> exact h.lt
set_option maxRecDepth 100000 in
set_option maxHeartbeats 2000000 in
theorem line83 (B b : Nat) (sv : Value) (t : List UInt8) (ws : List ByteArray) (bk c : Nat) (w : World) (h : IsWr B b sv (Lib.byteCells t) w)
    (hcells : ∀ (j : Nat) (x : ByteArray), ws[j]? = some x → w.cell? ⟨bk, 0 + j, none⟩ = some (.string x)) (hbk : bk < w.heap.size) (hcap : ws.length ≤ c) (hN : ws.length ≤ 1000) (hlen : (t ++ lineM ws).length ≤ 140737488355328) (hB : B ≤ w.heap.size) :
    Calls Tryz.prog 83 #[.pointer (some ⟨b, 0, none⟩), .slice (some ⟨bk, 0, none⟩) ws.length c] w fun e w' => e = .returned (.tuple #[]) ∧ IsWr B b sv (Lib.byteCells (t ++ lineM ws)) w' ∧ Below B w w' := by
  have hj := Tryz.strings_Join bk 0 c ws ⟨#[32]⟩ w.drew hcells hbk (by omega) hcap (by simp only [lineM, List.length_append] at hlen; show (Lib.join _ [32]).length ≤ _; omega)
  generalize hJ : Lib.join (ws.map (·.data.toList)) (⟨#[32]⟩ : ByteArray).data.toList = J at hj
  have hL : lineM ws = J ++ [10] := by rw [← hJ]; rfl
  rw [hL] at hlen ⊢
  have hS : ∀ ww (s : ByteArray), s.data.toList = J ++ [10] → Below w.heap.size w ww → Calls Tryz.prog 87 #[.pointer (some ⟨b, 1, none⟩), .string s] ww fun e w' => ∃ n : Int, e = .returned (.tuple #[.int .i64 n, .nilIface]) ∧ IsWr B b sv (Lib.byteCells (t ++ (J ++ [10]))) w' ∧ Below B ww w' := fun ww s hs hb => by
    refine (wr_str B b sv (Lib.byteCells t) s ww (h.below hb) ?_ (Nat.le_trans hB hb.size)).mono ?_
    · rw [Lib.byteCells_length]
      have hsz : s.size = (J ++ [10]).length := by rw [← hs, Array.length_toList]; rfl
      rw [hsz]
      rw [List.length_append] at hlen
      exact hlen
    · rintro e w' ⟨rfl, h1, h2⟩
      rw [byteCells_app, hs] at h1
      exact ⟨_, rfl, .inr h1, h2⟩
  have hJl : ¬ 9223372036854775807 < J.length + 1 := by simp only [List.length_append, List.length_cons, List.length_nil] at hlen; omega
  have iL : BlockLt b w := ⟨h.lt⟩
  have hb0 : Below w.heap.size w w.drew := (Below.refl _ _).drew
  clear hcells hJ hL h
  go_enter Tryz.func83, Tryz.ntmps83
  refine wp_region_eff [4, 6] true (fun w' => True) (by kernel_rfl) (by kernel_rfl) trivial ?_
  repeat
    refine wpL_look rfl rfl ?_
    apply Exists.intro
    refine ⟨?_, ?_⟩
    focus
      rintro w' _
      go_simp
      first | done | rfl
    simp only [Act.put, List.setIfInBounds_toArray, List.set_cons_zero, List.set_cons_succ]
  refine wpL_act rfl rfl ?_
  refine eff_call 133 #[.slice (some ⟨bk, 0, none⟩) ws.length c, .string ⟨#[32]⟩] ?hr ?_
  case hr =>
    go_simp
    first | done | rfl
  refine hj.mono ?_
  rintro e w1 ⟨rfl, hb1⟩
  refine ⟨_, rfl, .inl trivial, ?_⟩
  simp only [Act.put, List.setIfInBounds_toArray, List.set_cons_zero, List.set_cons_succ]
  refine wpL_look rfl rfl ?_
  apply Exists.intro
  refine ⟨?_, ?_⟩
  focus
    rintro w' _
    go_simp
    first | done | rfl
  simp only [Act.put, List.setIfInBounds_toArray, List.set_cons_zero, List.set_cons_succ]
  refine wpL_act rfl rfl ?_
  refine eff_call 87 #[.pointer (some ⟨b, 1, none⟩), .string (({ data := J.toArray } : ByteArray) ++ { data := #[10] })] ?hr2 ?_
  case hr2 =>
    go_simp
    first | done | rfl
  refine (hS w1 _ (by simp) (hb0.trans hb1)).mono ?_
  rintro e w2 ⟨n, rfl, h2, hb2⟩
  refine ⟨_, rfl, .inl trivial, ?_⟩
  simp only [Act.put, List.setIfInBounds_toArray, List.set_cons_zero, List.set_cons_succ]
  refine wpL_end ?_
  refine bodyPost_end (v := .tuple #[]) (by simp [results, go_sem]) rfl ⟨rfl, h2, ((hb0.trans hb1).mono hB).trans hb2⟩
def hexTab : Array UInt8 := #[48, 49, 50, 51, 52, 53, 54, 55, 56, 57, 97, 98, 99, 100, 101, 102]
def hexD (n : Nat) : UInt8 := hexTab[n]?.getD 0
def hexL : List UInt8 → List UInt8
  | [] => []
  | b :: r => hexD (b.toNat / 16) :: hexD (b.toNat % 16) :: hexL r
def hexM (s : ByteArray) : ByteArray := if s.data.toList = [] then ⟨#[45]⟩ else ⟨(hexL s.data.toList).toArray⟩
theorem hexL_snoc (l : List UInt8) (b : UInt8) : hexL (l ++ [b]) = hexL l ++ [hexD (b.toNat / 16), hexD (b.toNat % 16)] := by
  induction l with
  | nil => rfl
  | cons a l ih => simp [hexL, ih]
theorem hexL_len (l : List UInt8) : (hexL l).length = 2 * l.length := by
  induction l with
  | nil => rfl
  | cons a l ih => simp [hexL, ih]; omega
theorem hex_at (n : Nat) (h : n < 16) : (({ data := #[48, 49, 50, 51, 52, 53, 54, 55, 56, 57, 97, 98, 99, 100, 101, 102] } : ByteArray)[n]'h) = hexD n := by
  have e : hexTab[n]? = some (hexTab[n]'h) := Array.getElem?_eq_getElem h
  unfold hexD
  rw [e]
  rfl
theorem hexL_take (l : List UInt8) (q : Nat) (h : q < l.length) : hexL (l.take (q + 1)) = hexL (l.take q) ++ [hexD (l[q].toNat / 16)] ++ [hexD (l[q].toNat % 16)] := by
  rw [List.take_succ_eq_append_getElem h, hexL_snoc]
  simp
theorem hexW (B : Nat) (l : List UInt8) (c : UInt8) (w : World) (h : Lib.IsBuilder 122 5 B B (Lib.byteCells l) w) (hl : l.length + 1 ≤ 140737488355328) (hBw : B ≤ w.heap.size) :
    Calls Tryz.prog 86 #[.pointer (some ⟨B, 0, none⟩), .int .u8 c.toNat] w fun e w' => e = .returned .nilIface ∧ Lib.IsBuilder 122 5 B B (Lib.byteCells (l ++ [c])) w' ∧ Below B w w' := by
  refine (Tryz.Builder_WriteByte B B (Lib.byteCells l) c.toNat w h (by rw [Lib.byteCells_length]; exact hl) hBw).mono ?_
  rintro e w' ⟨rfl, h1, h2⟩
  refine ⟨rfl, .inr ?_, h2⟩
  rw [Lib.byteCells_append]
  exact h1
set_option maxRecDepth 100000 in
set_option maxHeartbeats 2000000 in
theorem hex85 (s : ByteArray) (hs : s.size ≤ 1000000000000) (w : World) :
    Calls Tryz.prog 85 #[.string s] w fun e w' => e = .returned (.string (hexM s)) ∧ Below w.heap.size w w' := by
  generalize hR : hexM s = R
  have HR := Lib.hid hR
  clear hR
  by_cases h0 : s.data.toList = []
  · obtain rfl : s = ⟨#[]⟩ := by
      rcases s with ⟨⟨l⟩⟩
      simp at h0
      rw [h0]
    clear h0
    go_enter Tryz.func85, Tryz.ntmps85
    go_wp2_with fail
    go_ret
    exact ⟨by rw [← HR.out]; rfl, bel _ _⟩
  · have hne : s.toList.isEmpty = false := by
      rw [ByteArray.toList_eq]
      rcases h : s.data.toList with _ | ⟨a, r⟩
      · exact absurd h h0
      · rfl
    go_enter Tryz.func85, Tryz.ntmps85
    go_wp2_with fail
    go_loopw [9] (fun i wr => ∃ (q : Nat), i = .int .i64 q ∧ q ≤ s.size ∧ Lib.IsBuilder 122 5 w.heap.size w.heap.size (Lib.byteCells (hexL (s.data.toList.take q))) wr ∧ Below w.heap.size w wr) (fun i _ => (s.size - intOf i).toNat)
    case atStart => exact ⟨0, rfl, by omega, .inl ⟨Nat.le_refl _, _, heap_alloc_new w _, ⟨by simp [hexL, Lib.byteCells], .inl ⟨rfl, rfl⟩⟩, by simp [Value.ownBlock]⟩, bel _ _⟩
    case round =>
      obtain ⟨q, rfl, hq, hbu, hb⟩ := hrel
      have iB : Bel w wr := ⟨hb⟩
      by_cases hlt : q < s.size
      · have hb8 : s[q].toNat < 256 := s[q].toNat_lt
        have hc1 : (0 : Int) ≤ (s[q].toNat : Int) / 16 ∧ (s[q].toNat : Int) / 16 < 16 := by omega
        have hc2 : (0 : Int) ≤ (s[q].toNat : Int) % 16 ∧ (s[q].toNat : Int) % 16 < 16 := by omega
        have hsl : s.data.toList.length = s.size := by rw [Array.length_toList]; rfl
        have hll := hexL_len (s.data.toList.take q)
        have htl : (s.data.toList.take q).length ≤ q := by rw [List.length_take]; omega
        have htk := hexL_take s.data.toList q (by omega)
        have hg : (s.data.toList)[q]'(by omega) = s[q] := by simp [ByteArray.getElem_eq_getElem_data]
        rw [hg] at htk
        generalize hexL (s.data.toList.take q) = L at hbu htk hll
        go_wp2_with (go_at_call 86; refine (hexW w.heap.size L _ wr hbu (by omega) hb.size).mono ?_; rintro e w1 ⟨rfl, hbu1, hb1⟩)
        go_wp2_with (go_at_call 86; refine (hexW w.heap.size _ _ w1 hbu1 (by rw [List.length_append]; simp; omega) (by have := hb.size; have := hb1.size; omega)).mono ?_; rintro e w2 ⟨rfl, hbu2, hb2⟩)
        rw [hex_at _ (by omega), hex_at _ (by omega), ← htk] at hbu2
        go_roundw
        case rel => exact ⟨q + 1, by go_num, by omega, hbu2, (hb.trans hb1).trans hb2⟩
        case measure => simp [intOf]; omega
      · have hsl : s.data.toList.length = s.size := by rw [Array.length_toList]; rfl
        rw [List.take_of_length_le (by omega)] at hbu
        have hm : hexM s = ⟨(hexL s.data.toList).toArray⟩ := by unfold hexM; rw [if_neg h0]
        rw [HR.out] at hm
        subst hm
        go_wp2_with (go_at_call 88; refine (Tryz.Builder_String_any w.heap.size w.heap.size _ wr hbu hb.size).mono ?_; rintro e w1 ⟨rfl, hb1⟩)
        go_ret
        exact ⟨rfl, hb.trans hb1⟩
end Go.Proofs.YtjkenolgkkknaaaGreatDoor
/- The text of what is below an inode, as package shape walks it. Conditions: none. -/
set_option linter.unusedVariables false
set_option linter.unusedSimpArgs false
namespace Go.Proofs.YtjkenolgkkknaaaGreatDoor
open Go.RowKit
def itoaB (n : Int) : ByteArray := ⟨(Lib.itoa n).toArray⟩
def shownM (p : ByteArray) : ByteArray := if p.toList.isEmpty = true then ⟨#[47]⟩ else p
def wlkT (S : PSt) : Nat → Int → ByteArray → List UInt8
  | 0, _, _ => []
  | f + 1, n, p => match S.ins[(idxM (isNum n) S.ins).toNat]? with
    | none => []
    | some x => if x.dir = true then lineM [⟨#[100]⟩, shownM p, itoaB n] ++ x.ents.flatMap (fun e => wlkT S f e.num (p ++ ⟨#[47]⟩ ++ e.name)) else lineM [⟨#[102]⟩, shownM p, itoaB n, hexM x.data]
def wlkOk (S : PSt) : Nat → Int → Bool
  | 0, _ => false
  | f + 1, n => decide (0 ≤ idxM (isNum n) S.ins) && match S.ins[(idxM (isNum n) S.ins).toNat]? with
    | none => false
    | some x => !x.dir || x.ents.all (fun e => wlkOk S f e.num)
theorem lineM_mem (ws : List ByteArray) (s : ByteArray) (h : s ∈ ws) : s.size ≤ (lineM ws).length := by
  have key : ∀ (ls : List (List UInt8)) (l : List UInt8), l ∈ ls → l.length ≤ (Lib.join ls [32]).length := by
    intro ls
    unfold Lib.join
    induction ls with
    | nil => intro l hl; cases hl
    | cons a r ih =>
      intro l hl
      rcases r with _ | ⟨b, r⟩
      · simp only [List.mem_singleton] at hl
        subst hl
        simp [List.intercalate]
      · rcases List.mem_cons.1 hl with rfl | hl
        · simp [List.intercalate, List.intersperse]
        · have := ih l hl
          simp only [List.intercalate, List.intersperse, List.flatten_cons, List.length_append] at this ⊢
          omega
  have := key (ws.map (·.data.toList)) s.data.toList (List.mem_map.2 ⟨s, h, rfl⟩)
  unfold lineM
  rw [List.length_append]
  have e : s.size = s.data.toList.length := by rw [Array.length_toList]; rfl
  omega
theorem shownM_le (p : ByteArray) : p.size ≤ (shownM p).size := by
  unfold shownM
  by_cases h : p.toList.isEmpty = true
  · rw [ByteArray.toList_eq] at h
    have h2 : p.data.toList = [] := by simpa using h
    have e : p.size = p.data.toList.length := by rw [Array.length_toList]; rfl
    rw [e, h2]
    simp
  · rw [if_neg h]
    exact Nat.le_refl _
theorem wlkT_path {S : PSt} {f : Nat} {n : Int} (p : ByteArray) (h : wlkOk S f n = true) : p.size ≤ (wlkT S f n p).length := by
  rcases f with _ | f
  · cases h
  unfold wlkOk at h
  simp only [Bool.and_eq_true] at h
  unfold wlkT
  rcases hx : S.ins[(idxM (isNum n) S.ins).toNat]? with _ | x
  · rw [hx] at h; simp at h
  · simp only
    have h1 := shownM_le p
    by_cases hd : x.dir = true
    · rw [if_pos hd, List.length_append]
      have := lineM_mem [⟨#[100]⟩, shownM p, itoaB n] (shownM p) (by simp)
      omega
    · rw [if_neg hd]
      have := lineM_mem [⟨#[102]⟩, shownM p, itoaB n, hexM x.data] (shownM p) (by simp)
      omega
theorem strs_at {w : World} {bk : Nat} {t : TypeId} (ws : List ByteArray) (h : Blk w bk (ws.map Value.string).toArray t) : ∀ (j : Nat) (x : ByteArray), ws[j]? = some x → w.cell? ⟨bk, 0 + j, none⟩ = some (.string x) := by
  intro j x hj
  rw [h.cell]
  simp [hj]
theorem flatMap_take {α β : Type} (F : α → List β) (l : List α) (q : Nat) (z : α) (h : l[q]? = some z) : (l.take (q + 1)).flatMap F = (l.take q).flatMap F ++ F z := by
  obtain ⟨hlt, rfl⟩ := List.getElem?_eq_some_iff.1 h
  rw [List.take_succ_eq_append_getElem hlt, List.flatMap_append]
  congr 1
  simp
theorem flatMap_take_le {α β : Type} (F : α → List β) (l : List α) (q : Nat) : ((l.take q).flatMap F).length ≤ (l.flatMap F).length := by
  conv => rhs; rw [← List.take_append_drop q l]
  rw [List.flatMap_append, List.length_append]
  omega
/-- What a walk of package shape wants of a world: a state below B, the table of Itoa. -/
def Shw (p0 : Nat) (S : PSt) (w : World) : Prop := SP w p0 S ∧ Pow10 w
set_option maxRecDepth 100000 in
set_option maxHeartbeats 4000000 in
theorem walk132 (B b p0 : Nat) (S : PSt) (hwf : S.wf) (hd : ∀ x ∈ S.ins, x.data.size ≤ 1000000) : ∀ (f : Nat) (n : Int) (s : ByteArray) (t : List UInt8) (w : World), wlkOk S f n = true → I64 n → (t ++ wlkT S f n s).length ≤ 1000000000000 →
    Laid B (Shw p0 S) w → IsWr B b (.pointer (some ⟨p0, 0, none⟩)) (Lib.byteCells t) w → B ≤ w.heap.size →
    Calls Tryz.prog 132 #[.pointer (some ⟨b, 0, none⟩), .int .i64 n, .string s] w fun e w' => e = .returned (.tuple #[]) ∧ IsWr B b (.pointer (some ⟨p0, 0, none⟩)) (Lib.byteCells (t ++ wlkT S f n s)) w' ∧ Below B w w' := by
  intro f
  induction f with
  | zero => intro n s t w hok; cases hok
  | succ f ih =>
    intro n s t w hok hn hlen hL hW hBw
    have hL0 := hL
    obtain ⟨w0, ⟨hsp, h10⟩, hB0, hb0⟩ := hL0
    unfold wlkOk at hok
    unfold wlkT at hlen ⊢
    obtain ⟨K, hK⟩ : ∃ K : Nat, idxM (isNum n) S.ins = K := ⟨(idxM (isNum n) S.ins).toNat, by simp at hok; omega⟩
    rw [hK] at hok hlen ⊢
    simp only [Int.toNat_natCast] at hok hlen ⊢
    obtain ⟨x, hx⟩ : ∃ x, S.ins[K]? = some x := by
      rcases h : S.ins[K]? with _ | x
      · rw [h] at hok; simp at hok
      · exact ⟨x, rfl⟩
    rw [hx] at hok hlen ⊢
    simp only at hok hlen ⊢
    obtain ⟨hKl, _⟩ := List.getElem?_eq_some_iff.1 hx
    have hxm := List.mem_of_getElem? hx
    have iW := hW.lt
    have hsz := hb0.size
    obtain ⟨hl0, iv, ov, mv, c0, c1, c2, hr⟩ := hsp
    obtain ⟨ai, capi, rfl, hati⟩ := hr.ins_at2
    obtain ⟨bi, off, ev, rfl, iG0, ho1, hev, hcl⟩ := hati K x hx
    have hino : ∀ ww, Below w.heap.size w ww → Calls Tryz.prog 161 #[.pointer (some ⟨b, 0, none⟩), .int .i64 n] ww fun e w' => e = .returned (.pointer (some ⟨bi, off + K * 4, none⟩)) ∧ Below ww.heap.size ww w' := fun ww hb => by
      have hbb : Below w0.heap.size w0 ww := hb0.trans (hb.mono hsz)
      have hcw : ww.cell? ⟨b, 0, none⟩ = some (.pointer (some ⟨p0, 0, none⟩)) := by
        rw [hb.cell (p := ⟨b, 0, none⟩) iW]
        rcases hW with ⟨_, v, h, _⟩ | ⟨_, v, h, _⟩ <;> (rw [Lib.cell_of_heap h]; rfl)
      refine (inode161 b p0 S n ww ⟨by have := hb.size; omega⟩ hcw (SP.below ⟨hl0, _, ov, mv, c0, c1, c2, hr⟩ hbb (Nat.le_refl _)) hwf.1 K hK hKl).mono ?_
      rintro e w' ⟨⟨bi', off', cap', h1, rfl⟩, h2⟩
      have h3 := (hbb.cell (p := ⟨p0, 0, none⟩) hl0).trans c0
      rw [h3] at h1
      simp only [Option.some.injEq, Value.slice.injEq, Addr.mk.injEq] at h1
      obtain ⟨⟨rfl, rfl, -⟩, -, rfl⟩ := h1
      exact ⟨rfl, h2⟩
    have hito : ∀ ww, Below B w ww → Calls Tryz.prog 84 #[.int .i64 n] ww fun e w' => e = .returned (.string (itoaB n)) ∧ Below ww.heap.size ww w' := fun ww hb => itoa84 B n hn ww ((hL.below hb).imp (fun _ h => h.2))
    obtain ⟨iGw, y0, y1, y2, y3⟩ := hcl w hb0
    have iL : BlockLt b w := ⟨iW⟩
    have iBB : ∀ ww, Below w.heap.size w ww → Below B w ww := fun ww h => h.mono hBw
    have hlin : ∀ ws ww t' bk c, Below w.heap.size w ww → Blk ww bk (ws.map Value.string).toArray 9 → ws.length ≤ c → ws.length ≤ 1000 → t' = t → (t ++ lineM ws).length ≤ 1000000000000 → Calls Tryz.prog 83 #[.pointer (some ⟨b, 0, none⟩), .slice (some ⟨bk, 0, none⟩) ws.length c] ww fun e w' => e = .returned (.tuple #[]) ∧ IsWr B b (.pointer (some ⟨p0, 0, none⟩)) (Lib.byteCells (t ++ lineM ws)) w' ∧ Below B ww w' := fun ws ww t' bk c hb hbk h1 h2 _ h3 =>
      line83 B b _ t ws bk c ww (hW.below hb) (strs_at ws hbk) hbk.lt.lt h1 h2 (by omega) (Nat.le_trans hBw hb.size)
    obtain ⟨xn, xd, xe, xdat⟩ := x
    simp only at hok hlen y0 y1 y2 y3 hev hcl ⊢
    rcases xd with _ | _
    · simp only [Bool.false_eq_true, if_false] at hlen ⊢
      have hhex : ∀ ww, Calls Tryz.prog 85 #[.string xdat] ww fun e w' => e = .returned (.string (hexM xdat)) ∧ Below ww.heap.size ww w' := fun ww => hex85 xdat (by have := hd _ hxm; simp only at this; omega) ww
      clear hok hL hW hcl hati hr hev ih hd hwf
      rcases hemp : s.toList.isEmpty with _ | _
      · have hs : shownM s = s := by unfold shownM; rw [hemp]; rfl
        rw [hs] at hlen ⊢
        have HL := Lib.hid hlen
        clear hlen
        go_enter Tryz.func132, Tryz.ntmps132
        go_wp2_with (go_at_call 161; refine (hino _ (bel _ _)).mono ?_; rintro e w' ⟨rfl, hb⟩; obtain ⟨p, rfl⟩ := hb.rest; clear hb)
        refine wp_region_eff [3, 8, 9, 10] true (fun w' => w'.cell? ⟨bi, off + K * 4 + 3, none⟩ = some (.string xdat)) (by kernel_rfl) (by kernel_rfl) (by go_simp) ?_
        repeat
          refine wpL_look rfl rfl ?_
          apply Exists.intro
          refine ⟨?_, ?_⟩
          focus
            rintro w' s0
            go_simp
            first | done | rfl
          simp only [Act.put, List.setIfInBounds_toArray, List.set_cons_zero, List.set_cons_succ]
        refine wpL_act rfl rfl ?_
        refine eff_call 84 #[.int .i64 n] ?hrq1 ?_
        case hrq1 =>
          go_simp
          first | done | rfl
        refine (hito _ (iBB _ (bel w _))).mono ?_
        rintro e w' ⟨rfl, hb⟩
        obtain ⟨q1, rfl⟩ := hb.rest
        clear hb
        refine ⟨_, rfl, .inl (by go_simp), ?_⟩
        simp only [Act.put, List.setIfInBounds_toArray, List.set_cons_zero, List.set_cons_succ]
        repeat
          refine wpL_look rfl rfl ?_
          apply Exists.intro
          refine ⟨?_, ?_⟩
          focus
            rintro w' s0
            go_simp
            first | done | rfl
          simp only [Act.put, List.setIfInBounds_toArray, List.set_cons_zero, List.set_cons_succ]
        refine wpL_act rfl rfl ?_
        refine eff_call 85 #[.string xdat] ?hrq2 ?_
        case hrq2 =>
          go_simp
          first | done | rfl
        refine (hhex _).mono ?_
        rintro e w' ⟨rfl, hb⟩
        obtain ⟨q2, rfl⟩ := hb.rest
        clear hb
        refine ⟨_, rfl, .inl (by go_simp), ?_⟩
        simp only [Act.put, List.setIfInBounds_toArray, List.set_cons_zero, List.set_cons_succ]
        refine wpL_do rfl rfl ?_
        apply Exists.intro
        apply Exists.intro
        refine ⟨?_, ?_, ?_⟩
        focus
          go_simp
          exact ⟨rfl, rfl⟩
        focus
          refine .inl ?_
          go_simp
        simp only [Act.put, List.setIfInBounds_toArray, List.set_cons_zero, List.set_cons_succ]
        refine wpL_act rfl rfl ?_
        refine eff_call 83 #[.pointer (some ⟨b, 0, none⟩), .slice (some ⟨w.heap.size + ((p.drew.more q1).more q2).len, 0, none⟩) 4 4] ?hr3 ?_
        case hr3 =>
          go_simp
          first | done | rfl
        refine (hlin [⟨#[102]⟩, s, itoaB n, hexM xdat] _ t _ 4 (bel w _) (Blk.new_i _ _ _ _) (by simp) (by simp) rfl HL.out).mono ?_
        rintro e w2 ⟨rfl, h2, hb2⟩
        refine ⟨_, rfl, .inr ⟨rfl, rfl⟩, ?_⟩
        simp only [Act.put, List.setIfInBounds_toArray, List.set_cons_zero, List.set_cons_succ]
        refine wpL_end ?_
        have HW2 := Lib.hid (And.intro h2 ((iBB _ (bel w _)).trans hb2))
        clear h2 hb2
        go_wp2_with fail
        exact bodyPost_ret (v := .tuple #[]) (by simp [results, go_sem]) rfl ⟨rfl, HW2.out⟩
      · have hs : shownM s = ⟨#[47]⟩ := by unfold shownM; rw [hemp]; rfl
        rw [hs] at hlen ⊢
        have HL := Lib.hid hlen
        clear hlen
        go_enter Tryz.func132, Tryz.ntmps132
        go_wp2_with (go_at_call 161; refine (hino _ (bel _ _)).mono ?_; rintro e w' ⟨rfl, hb⟩; obtain ⟨p, rfl⟩ := hb.rest; clear hb)
        refine wp_region_eff [3, 8, 9, 10] true (fun w' => w'.cell? ⟨bi, off + K * 4 + 3, none⟩ = some (.string xdat)) (by kernel_rfl) (by kernel_rfl) (by go_simp) ?_
        repeat
          refine wpL_look rfl rfl ?_
          apply Exists.intro
          refine ⟨?_, ?_⟩
          focus
            rintro w' s0
            go_simp
            first | done | rfl
          simp only [Act.put, List.setIfInBounds_toArray, List.set_cons_zero, List.set_cons_succ]
        refine wpL_act rfl rfl ?_
        refine eff_call 84 #[.int .i64 n] ?hrq1 ?_
        case hrq1 =>
          go_simp
          first | done | rfl
        refine (hito _ (iBB _ (bel w _))).mono ?_
        rintro e w' ⟨rfl, hb⟩
        obtain ⟨q1, rfl⟩ := hb.rest
        clear hb
        refine ⟨_, rfl, .inl (by go_simp), ?_⟩
        simp only [Act.put, List.setIfInBounds_toArray, List.set_cons_zero, List.set_cons_succ]
        repeat
          refine wpL_look rfl rfl ?_
          apply Exists.intro
          refine ⟨?_, ?_⟩
          focus
            rintro w' s0
            go_simp
            first | done | rfl
          simp only [Act.put, List.setIfInBounds_toArray, List.set_cons_zero, List.set_cons_succ]
        refine wpL_act rfl rfl ?_
        refine eff_call 85 #[.string xdat] ?hrq2 ?_
        case hrq2 =>
          go_simp
          first | done | rfl
        refine (hhex _).mono ?_
        rintro e w' ⟨rfl, hb⟩
        obtain ⟨q2, rfl⟩ := hb.rest
        clear hb
        refine ⟨_, rfl, .inl (by go_simp), ?_⟩
        simp only [Act.put, List.setIfInBounds_toArray, List.set_cons_zero, List.set_cons_succ]
        refine wpL_do rfl rfl ?_
        apply Exists.intro
        apply Exists.intro
        refine ⟨?_, ?_, ?_⟩
        focus
          go_simp
          exact ⟨rfl, rfl⟩
        focus
          refine .inl ?_
          go_simp
        simp only [Act.put, List.setIfInBounds_toArray, List.set_cons_zero, List.set_cons_succ]
        refine wpL_act rfl rfl ?_
        refine eff_call 83 #[.pointer (some ⟨b, 0, none⟩), .slice (some ⟨w.heap.size + ((p.drew.more q1).more q2).len, 0, none⟩) 4 4] ?hr3 ?_
        case hr3 =>
          go_simp
          first | done | rfl
        refine (hlin [⟨#[102]⟩, ⟨#[47]⟩, itoaB n, hexM xdat] _ t _ 4 (bel w _) (Blk.new_i _ _ _ _) (by simp) (by simp) rfl HL.out).mono ?_
        rintro e w2 ⟨rfl, h2, hb2⟩
        refine ⟨_, rfl, .inr ⟨rfl, rfl⟩, ?_⟩
        simp only [Act.put, List.setIfInBounds_toArray, List.set_cons_zero, List.set_cons_succ]
        refine wpL_end ?_
        have HW2 := Lib.hid (And.intro h2 ((iBB _ (bel w _)).trans hb2))
        clear h2 hb2
        go_wp2_with fail
        exact bodyPost_ret (v := .tuple #[]) (by simp [results, go_sem]) rfl ⟨rfl, HW2.out⟩
    · simp only [if_true] at hlen ⊢
      have hokE : ∀ e ∈ xe, wlkOk S f e.num = true := by
        intro e he
        simp at hok
        exact hok e he
      have hnE : ∀ e ∈ xe, I64 e.num := (hwf.2.2.2.1 _ hxm).2.2
      have hxl : xe.length ≤ 1000000000 := (hwf.2.2.2.1 _ hxm).2.1
      generalize hF : (fun e : PEnt => wlkT S f e.num (s ++ ⟨#[47]⟩ ++ e.name)) = F at hlen ⊢
      have hlF : ∀ (q : Nat) (e : PEnt) (T0 : List UInt8), (t ++ (T0 ++ xe.flatMap F)).length ≤ 1000000000000 → xe[q]? = some e → (t ++ (T0 ++ (xe.take q).flatMap F) ++ wlkT S f e.num (s ++ ⟨#[47]⟩ ++ e.name)).length ≤ 1000000000000 ∧ (s ++ ⟨#[47]⟩ ++ e.name).size ≤ 1000000000000 ∧ t ++ (T0 ++ (xe.take q).flatMap F) ++ wlkT S f e.num (s ++ ⟨#[47]⟩ ++ e.name) = t ++ (T0 ++ (xe.take (q + 1)).flatMap F) := by
        intro q e T0 hl he
        have h1 := flatMap_take F xe q e he
        have h2 := flatMap_take_le F xe (q + 1)
        have h3 := wlkT_path (S := S) (f := f) (n := e.num) (s ++ ⟨#[47]⟩ ++ e.name) (hokE e (List.mem_of_getElem? he))
        have h4 : F e = wlkT S f e.num (s ++ ⟨#[47]⟩ ++ e.name) := by rw [← hF]
        rw [h1, h4, List.length_append] at h2
        simp only [List.length_append] at hl ⊢
        refine ⟨by omega, by omega, ?_⟩
        rw [h1, h4]
        simp
      have hre : ∀ wr, Below B w wr → Below w0.heap.size w0 wr := fun wr h => hb0.trans (h.mono hB0)
      have hevn := hev.at_
      obtain ⟨ae, ce, rfl, hat⟩ := hevn
      rw [List.length_map] at y2
      have hcel : ∀ wr, Below B w wr → BlockLt bi wr ∧ wr.cell? ⟨bi, off + K * 4 + 2, none⟩ = some (.slice ae xe.length ce) := fun wr h => by
        obtain ⟨h1, _, _, h2, _⟩ := hcl wr (hre wr h)
        rw [List.length_map] at h2
        exact ⟨h1, h2⟩
      have hrec : ∀ (q : Nat) (e : PEnt) (T0 : List UInt8) (ww : World), xe[q]? = some e → Below B w ww → (t ++ (T0 ++ xe.flatMap F)).length ≤ 1000000000000 → IsWr B b (.pointer (some ⟨p0, 0, none⟩)) (Lib.byteCells (t ++ (T0 ++ (xe.take q).flatMap F))) ww → B ≤ ww.heap.size →
          Calls Tryz.prog 132 #[.pointer (some ⟨b, 0, none⟩), .int .i64 e.num, .string (s ++ ⟨#[47]⟩ ++ e.name)] ww fun e w' => e = .returned (.tuple #[]) ∧ IsWr B b (.pointer (some ⟨p0, 0, none⟩)) (Lib.byteCells (t ++ (T0 ++ (xe.take (q + 1)).flatMap F))) w' ∧ Below B ww w' := fun q e T0 ww he hb hl hw hB => by
        obtain ⟨h1, h2, h3⟩ := hlF q e T0 hl he
        have := ih e.num (s ++ ⟨#[47]⟩ ++ e.name) _ ww (hokE e (List.mem_of_getElem? he)) (hnE e (List.mem_of_getElem? he)) h1 (hL.below hb) hw hB
        rw [h3] at this
        exact this
      have hszE : ∀ (q : Nat) (e : PEnt) (T0 : List UInt8), (t ++ (T0 ++ xe.flatMap F)).length ≤ 1000000000000 → xe[q]? = some e → (s ++ ⟨#[47]⟩ ++ e.name).size ≤ 1000000000000 := fun q e T0 hl he => (hlF q e T0 hl he).2.1
      have HE := Lib.hid hat
      clear hok hL hW hcl hati hr hev ih hd hwf hlF hat hokE hnE hF
      rcases hemp : s.toList.isEmpty with _ | _
      · have hs : shownM s = s := by unfold shownM; rw [hemp]; rfl
        rw [hs] at hlen ⊢
        have HL := Lib.hid hlen
        have hl0 : (t ++ lineM [⟨#[100]⟩, s, itoaB n]).length ≤ 1000000000000 := by simp only [List.length_append] at hlen ⊢; omega
        generalize hT : lineM [⟨#[100]⟩, s, itoaB n] = T0 at HL
        clear hlen
        go_enter Tryz.func132, Tryz.ntmps132
        go_upto_region 7 with (first | (go_at_call 161; refine (hino _ (bel _ _)).mono ?_; rintro e w' ⟨rfl, hb⟩; obtain ⟨p, rfl⟩ := hb.rest; clear hb) | (go_at_call 84; refine (hito _ (iBB _ (bel w _))).mono ?_; rintro e w' ⟨rfl, hb⟩; obtain ⟨q1, rfl⟩ := hb.rest; clear hb) | (go_at_call 83; refine (hlin [⟨#[100]⟩, s, itoaB n] _ t _ 3 (bel w _) (Blk.new_i _ _ _ _) (by simp) (by simp) rfl hl0).mono ?_; rintro e w2 ⟨rfl, h2, hb2⟩))
        rw [hT] at h2
        have hbw2 := (iBB _ (bel w _)).trans hb2
        obtain ⟨iG2, y2'⟩ := hcel w2 hbw2
        have iW2 : BlockLt b w2 := ⟨h2.lt⟩
        have HW2 := Lib.hid h2
        clear h2 y2 hcel
        go_wp2_with fail
        go_loopw [43] (fun i wr => ∃ q : Nat, i = .int .i64 q ∧ q ≤ xe.length ∧ IsWr B b (.pointer (some ⟨p0, 0, none⟩)) (Lib.byteCells (t ++ (T0 ++ (xe.take q).flatMap F))) wr ∧ Below B w wr) (fun i _ => (xe.length - intOf i).toNat)
        case atStart => exact ⟨0, rfl, by omega, by simpa using HW2.out, hbw2⟩
        case round =>
          obtain ⟨q, rfl, hq, hwr, hbr⟩ := hrel
          have hBr : B ≤ wr.heap.size := Nat.le_trans hBw hbr.size
          by_cases hlt : q < xe.length
          · obtain ⟨e, he⟩ : ∃ e, xe[q]? = some e := ⟨_, List.getElem?_eq_getElem hlt⟩
            obtain ⟨be, oe, rfl, iE0, iE, hce⟩ := HE.out wr (hre wr hbr) q e.cells (by rw [List.getElem?_map, he]; rfl)
            have e0 := hce 0 _ rfl
            have e1 := hce 1 _ rfl
            rw [Nat.add_zero] at e0
            have hsz1 := hszE q e T0 HL.out he
            rw [ByteArray.size_append, ByteArray.size_append] at hsz1
            have hone : (⟨#[47]⟩ : ByteArray).size = 1 := rfl
            rw [hone] at hsz1
            have g1 : ¬ 9223372036854775807 < s.size + 1 := by omega
            have g2 : ¬ 9223372036854775807 < s.size + 1 + e.name.size := by omega
            have hcall : ∀ ww, Below wr.heap.size wr ww → Calls Tryz.prog 132 #[.pointer (some ⟨b, 0, none⟩), .int .i64 e.num, .string (s ++ ⟨#[47]⟩ ++ e.name)] ww _ := fun ww hb => hrec q e T0 ww he (hbr.trans (hb.mono hBr)) HL.out (hwr.below hb) (Nat.le_trans hBr hb.size)
            have HC := Lib.hid hcall
            have iB : Bel wr wr := inferInstance
            clear hce he hsz1 hwr
            go_wp2_with (go_at_call 132; refine (hcall _ (bel wr _)).mono ?_; rintro e w3 ⟨rfl, h3, hb3⟩)
            go_roundw
            case rel => exact ⟨q + 1, by go_num, by omega, h3, hbr.trans (((bel wr _).mono hBr).trans hb3)⟩
            case measure => simp [intOf]; omega
          · rw [List.take_of_length_le (by omega)] at hwr
            have HW3 := Lib.hid (And.intro hwr hbr)
            clear hwr hbr
            go_wp2_with fail
            exact bodyPost_end (v := .tuple #[]) (by simp [results, go_sem]) rfl ⟨rfl, HW3.out⟩
      · have hs : shownM s = ⟨#[47]⟩ := by unfold shownM; rw [hemp]; rfl
        rw [hs] at hlen ⊢
        have HL := Lib.hid hlen
        have hl0 : (t ++ lineM [⟨#[100]⟩, ⟨#[47]⟩, itoaB n]).length ≤ 1000000000000 := by simp only [List.length_append] at hlen ⊢; omega
        generalize hT : lineM [⟨#[100]⟩, ⟨#[47]⟩, itoaB n] = T0 at HL
        clear hlen
        go_enter Tryz.func132, Tryz.ntmps132
        go_upto_region 7 with (first | (go_at_call 161; refine (hino _ (bel _ _)).mono ?_; rintro e w' ⟨rfl, hb⟩; obtain ⟨p, rfl⟩ := hb.rest; clear hb) | (go_at_call 84; refine (hito _ (iBB _ (bel w _))).mono ?_; rintro e w' ⟨rfl, hb⟩; obtain ⟨q1, rfl⟩ := hb.rest; clear hb) | (go_at_call 83; refine (hlin [⟨#[100]⟩, ⟨#[47]⟩, itoaB n] _ t _ 3 (bel w _) (Blk.new_i _ _ _ _) (by simp) (by simp) rfl hl0).mono ?_; rintro e w2 ⟨rfl, h2, hb2⟩))
        rw [hT] at h2
        have hbw2 := (iBB _ (bel w _)).trans hb2
        obtain ⟨iG2, y2'⟩ := hcel w2 hbw2
        have iW2 : BlockLt b w2 := ⟨h2.lt⟩
        have HW2 := Lib.hid h2
        clear h2 y2 hcel
        go_wp2_with fail
        go_loopw [43] (fun i wr => ∃ q : Nat, i = .int .i64 q ∧ q ≤ xe.length ∧ IsWr B b (.pointer (some ⟨p0, 0, none⟩)) (Lib.byteCells (t ++ (T0 ++ (xe.take q).flatMap F))) wr ∧ Below B w wr) (fun i _ => (xe.length - intOf i).toNat)
        case atStart => exact ⟨0, rfl, by omega, by simpa using HW2.out, hbw2⟩
        case round =>
          obtain ⟨q, rfl, hq, hwr, hbr⟩ := hrel
          have hBr : B ≤ wr.heap.size := Nat.le_trans hBw hbr.size
          by_cases hlt : q < xe.length
          · obtain ⟨e, he⟩ : ∃ e, xe[q]? = some e := ⟨_, List.getElem?_eq_getElem hlt⟩
            obtain ⟨be, oe, rfl, iE0, iE, hce⟩ := HE.out wr (hre wr hbr) q e.cells (by rw [List.getElem?_map, he]; rfl)
            have e0 := hce 0 _ rfl
            have e1 := hce 1 _ rfl
            rw [Nat.add_zero] at e0
            have hsz1 := hszE q e T0 HL.out he
            rw [ByteArray.size_append, ByteArray.size_append] at hsz1
            have hone : (⟨#[47]⟩ : ByteArray).size = 1 := rfl
            rw [hone] at hsz1
            have g1 : ¬ 9223372036854775807 < s.size + 1 := by omega
            have g2 : ¬ 9223372036854775807 < s.size + 1 + e.name.size := by omega
            have hcall : ∀ ww, Below wr.heap.size wr ww → Calls Tryz.prog 132 #[.pointer (some ⟨b, 0, none⟩), .int .i64 e.num, .string (s ++ ⟨#[47]⟩ ++ e.name)] ww _ := fun ww hb => hrec q e T0 ww he (hbr.trans (hb.mono hBr)) HL.out (hwr.below hb) (Nat.le_trans hBr hb.size)
            have HC := Lib.hid hcall
            have iB : Bel wr wr := inferInstance
            clear hce he hsz1 hwr
            go_wp2_with (go_at_call 132; refine (hcall _ (bel wr _)).mono ?_; rintro e w3 ⟨rfl, h3, hb3⟩)
            go_roundw
            case rel => exact ⟨q + 1, by go_num, by omega, h3, hbr.trans (((bel wr _).mono hBr).trans hb3)⟩
            case measure => simp [intOf]; omega
          · rw [List.take_of_length_le (by omega)] at hwr
            have HW3 := Lib.hid (And.intro hwr hbr)
            clear hwr hbr
            go_wp2_with fail
            exact bodyPost_end (v := .tuple #[]) (by simp [results, go_sem]) rfl ⟨rfl, HW3.out⟩
end Go.Proofs.YtjkenolgkkknaaaGreatDoor
