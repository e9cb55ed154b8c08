/- Part of the proof that the calls that look alone commute. Conditions: none. -/
import Derived.Test.YtjkenolgkkknaaaGreatDoorLp44
set_option linter.unusedVariables false
set_option linter.unusedSimpArgs false
set_option maxRecDepth 100000
set_option maxHeartbeats 8000000
/- The reference's looks at a state: given, Links. Conditions: none. -/
set_option linter.unusedVariables false
set_option linter.unusedSimpArgs false
namespace Go.Proofs.YtjkenolgkkknaaaGreatDoor
open Go.RowKit
def givenR (S : PSt) (n : Int) : Bool := if n < 2 then false else match S.made[((n - 2) % 8).toNat]? with | some m => decide ((n - 2) / 8 < m) | none => false
set_option maxRecDepth 100000 in
theorem given29 (S : PSt) (iv ov mv : Value) (n : Int) (hn : I64 n) (w : World) (h : StRead w iv ov mv S) (hwf : S.wf) :
    Calls Tryz.prog 29 #[.agg #[iv, ov, mv], .int .i64 n] w fun e w' => e = .returned (.bool (givenR S n)) ∧ Below w.heap.size w w' := by
  obtain ⟨ai, ni, ci, ao, no, co, am, nm, cm, rfl, rfl, rfl⟩ := h.slices
  obtain ⟨a, cap, e1, hat⟩ := h.2.1.at_
  rw [List.length_map] at e1
  cases e1
  have hml := hwf.2.2.1
  obtain ⟨R, hR⟩ : ∃ R, givenR S n = R := ⟨_, rfl⟩
  rw [hR]
  unfold givenR at hR
  clear h hwf
  by_cases h2 : n < 2
  · rw [if_pos h2] at hR
    subst hR
    clear hat
    go_enter Tryz.func29, Tryz.ntmps29
    go_wp2_with fail
    exact bodyPost_ret (v := .bool false) (by simp [results, Tryz.results29, go_sem]) rfl ⟨rfl, bel _ _⟩
  · rw [if_neg h2] at hR
    have hn2 := hn.2
    have w1 : IntKind.i64.wrap (n - 2) = n - 2 := I64.wrap ⟨by omega, by omega⟩
    have w2 : (n - 2).tmod 8 = (n - 2) % 8 := Int.tmod_eq_emod_of_nonneg (by omega)
    have w3 : (n - 2).tdiv 8 = (n - 2) / 8 := Int.tdiv_eq_ediv_of_nonneg (by omega)
    obtain ⟨k, hk⟩ : ∃ k : Nat, (n - 2) % 8 = k := ⟨((n - 2) % 8).toNat, by omega⟩
    obtain ⟨d, hd⟩ : ∃ d : Int, (n - 2) / 8 = d := ⟨_, rfl⟩
    have hd64 : IntKind.i64.wrap d = d := I64.wrap ⟨by omega, by omega⟩
    have hk8 : k < 8 := by omega
    have hk64 : IntKind.i64.wrap (k : Int) = k := I64.wrap ⟨by omega, by omega⟩
    rw [hk, hd, Int.toNat_natCast] at hR
    rw [hk] at w2
    rw [hd] at w3
    clear hk hd
    by_cases hlt : k < S.made.length
    · obtain ⟨m, hm⟩ : ∃ m, S.made[k]? = some m := ⟨_, List.getElem?_eq_getElem hlt⟩
      rw [hm] at hR
      simp only at hR
      obtain ⟨b, off, rfl, iG0, -, hc⟩ := hat w (bel _ _) k (intCells m) (by rw [List.getElem?_map, hm]; rfl)
      have c0 := hc 0 _ rfl
      rw [Nat.mul_one, Nat.add_zero] at c0
      subst hR
      clear hc hat hm hn
      have hltI : (k : Int) < S.made.length := by omega
      go_enter Tryz.func29, Tryz.ntmps29
      go_wp2_with fail
      exact bodyPost_ret (v := .bool (decide (d < m))) (by simp [results, Tryz.results29, go_sem]) rfl ⟨rfl, bel _ _⟩
    · rw [List.getElem?_eq_none (by omega)] at hR
      simp only at hR
      subst hR
      clear hat hn
      have hltI : ¬ (k : Int) < S.made.length := by omega
      go_enter Tryz.func29, Tryz.ntmps29
      go_wp2_with fail
      exact bodyPost_ret (v := .bool false) (by simp [results, Tryz.results29, go_sem]) rfl ⟨rfl, bel _ _⟩
def lkE (n : Int) : List PEnt → Int → Int
  | [], a => a
  | e :: r, a => lkE n r (if (e.num == n) = true then a + 1 else a)
def lkI (n : Int) : List PIn → Int → Int
  | [], a => a
  | x :: r, a => lkI n r (if x.dir = true then lkE n x.ents a else a)
def linksR (S : PSt) (n : Int) : Int := lkI n S.ins 0
set_option maxRecDepth 100000 in
set_option maxHeartbeats 1000000 in
theorem links31 (S : PSt) (iv ov mv : Value) (n : Int) (w : World) (h : StRead w iv ov mv S) (hwf : S.wf) :
    Calls Tryz.prog 31 #[.agg #[iv, ov, mv], .int .i64 n] w fun e w' => e = .returned (.int .i64 (linksR S n)) ∧ Below w.heap.size w w' := by
  obtain ⟨ai, ni, ci, ao, no, co, am, nm, cm, rfl, rfl, rfl⟩ := h.slices
  obtain ⟨a, cap, e1, hat⟩ := h.ins_at2
  cases e1
  have hlen := hwf.1
  have HWF := Lib.hid hwf
  have HAt := Lib.hid hat
  clear hat h hwf
  obtain ⟨R, hR⟩ : ∃ R, linksR S n = R := ⟨_, rfl⟩
  rw [hR]
  unfold linksR at hR
  have HR := Lib.hid hR
  clear hR
  go_enter Tryz.func31, Tryz.ntmps31
  go_wp2_with fail
  go_loopw [5, 6] (fun v i wr => ∃ (q : Nat) (m : Int), i = .int .i64 q ∧ v = .int .i64 m ∧ 0 ≤ m ∧ m ≤ 1000000000 * q ∧ q ≤ S.ins.length ∧ lkI n (S.ins.drop q) m = R ∧ Below w.heap.size w wr ∧ Blk wr w.heap.size #[.slice ai S.ins.length ci, .slice ao no co, .slice am nm cm] 27) (fun _ i _ => (S.ins.length - intOf i).toNat)
  case atStart => exact ⟨0, 0, rfl, rfl, by omega, by omega, by omega, HR.out, bel _ _, Blk.new w _ 27⟩
  case round =>
    obtain ⟨q, m, rfl, rfl, hm0, hm1, hq, hre, hb, hblk⟩ := hrel
    have iB : Bel w wr := ⟨hb⟩
    have iL := hblk.lt
    have s0 := hblk.cell 0
    simp at s0
    by_cases hlt : q < S.ins.length
    · obtain ⟨x, hx⟩ : ∃ x, S.ins[q]? = some x := ⟨_, List.getElem?_eq_getElem hlt⟩
      obtain ⟨b, off, ev, rfl, iG0, ho, her, hc⟩ := HAt.out q x hx
      obtain ⟨ae, ce, rfl, hae⟩ := her.at_
      rw [List.length_map] at hc
      have hel := (HWF.out.2.2.2.1 x (List.mem_of_getElem? hx)).2.1
      have HA := Lib.hid (And.intro hae hc)
      obtain ⟨iG, c0, c1, c2, c3⟩ := hc wr hb
      have HB := Lib.hid hblk
      rw [drop_at hx, lkI] at hre
      clear her hae hc ho hblk c0 c3 c1 c2 hx
      obtain ⟨xn, xd, xe, xs⟩ := x
      simp only at hre HA hel
      rcases xd with _ | _
      · rw [if_neg (by decide)] at hre
        obtain ⟨_, _, c1, c2, _⟩ := HA.out.2 wr hb
        have HRE := Lib.hid hre
        clear hre
        by_cases h0 : 0 < xe.length
        · have h0I : (0 : Int) < xe.length := by omega
          go_wp2_with fail
          go_loopw [5, 7] (fun v i wr' => v = .int .i64 m ∧ i = .int .i64 0 ∧ wr' = wr) (fun _ i _ => 0)
          case atStart => exact ⟨rfl, rfl, rfl⟩
          case round =>
            obtain ⟨rfl, rfl, rfl⟩ := hrel
            go_wp2_with fail
            go_roundw
            case rel => exact ⟨q + 1, m, by rfl, rfl, hm0, by omega, by omega, HRE.out, bel _ _, HB.out⟩
            case measure => simp [intOf]; omega
        · have h0I : ¬ (0 : Int) < xe.length := by omega
          go_wp2_with fail
          go_loopw [5, 7] (fun v i wr' => v = .int .i64 m ∧ i = .int .i64 0 ∧ wr' = wr) (fun _ i _ => 0)
          case atStart => exact ⟨rfl, rfl, rfl⟩
          case round =>
            obtain ⟨rfl, rfl, rfl⟩ := hrel
            go_wp2_with fail
            go_roundw
            case rel => exact ⟨q + 1, m, by rfl, rfl, hm0, by omega, by omega, HRE.out, bel _ _, HB.out⟩
            case measure => simp [intOf]; omega
      · rw [if_pos rfl] at hre
        have HRE := Lib.hid hre
        clear hre
        go_wp2_with fail
        go_loopw [5, 7] (fun v i wr' => ∃ (j : Nat) (m' : Int), i = .int .i64 j ∧ v = .int .i64 m' ∧ 0 ≤ m' ∧ m' ≤ 1000000000 * q + j ∧ j ≤ xe.length ∧ lkI n (S.ins.drop (q + 1)) (lkE n (xe.drop j) m') = R ∧ Below w.heap.size w wr' ∧ Blk wr' w.heap.size #[.slice (some ⟨b, off, none⟩) S.ins.length ci, .slice ao no co, .slice am nm cm] 27) (fun _ i _ => (xe.length - intOf i).toNat)
        case atStart => exact ⟨0, m, rfl, rfl, by omega, by omega, by omega, HRE.out, bel _ _, HB.out⟩
        case round =>
          clear HRE HB iB iL s0 hb iG
          obtain ⟨j, m', rfl, rfl, hm2, hm3, hj, hre, hb, hblk⟩ := hrel
          have iB : Bel w wr := ⟨hb⟩
          have iL := hblk.lt
          have s0 := hblk.cell 0
          simp at s0
          obtain ⟨iG, c0, c1, c2, c3⟩ := HA.out.2 wr hb
          have HB := Lib.hid hblk
          clear hblk c0 c3
          by_cases hlj : j < xe.length
          · obtain ⟨z, hz⟩ : ∃ z, xe[j]? = some z := ⟨_, List.getElem?_eq_getElem hlj⟩
            obtain ⟨be, oe, rfl, iE0, iE, hce⟩ := HA.out.1 wr hb j z.cells (by rw [List.getElem?_map, hz]; rfl)
            have e1 := hce 1 _ rfl
            rw [drop_at hz, lkE] at hre
            clear hz hce
            have hljI : (j : Int) < xe.length := by omega
            have w1 : IntKind.i64.wrap (m' + 1) = m' + 1 := I64.wrap ⟨by omega, by omega⟩
            rcases hpz : (z.num == n) with _ | _
            · rw [hpz, if_neg (by decide)] at hre
              have HZ := Lib.hid hre
              clear hre
              go_wp2_with fail
              go_roundw
              case rel => exact ⟨j + 1, m', by rfl, rfl, by omega, by omega, by omega, HZ.out, bel _ _, HB.out⟩
              case measure => simp [intOf]; omega
            · rw [hpz, if_pos (by decide)] at hre
              have HZ := Lib.hid hre
              clear hre
              go_wp2_with fail
              go_roundw
              case rel => exact ⟨j + 1, m' + 1, by rfl, rfl, by omega, by omega, by omega, HZ.out, bel _ _, HB.out⟩
              case measure => simp [intOf]; omega
          · rw [show xe.drop j = [] from List.drop_of_length_le (by omega), lkE] at hre
            have hljI : ¬ (j : Int) < xe.length := by omega
            have HZ := Lib.hid hre
            clear hre
            go_wp2_with fail
            go_roundw
            case rel => exact ⟨q + 1, m', by rfl, rfl, hm2, by omega, by omega, HZ.out, bel _ _, HB.out⟩
            case measure => simp [intOf]; omega
    · rw [List.drop_of_length_le (by omega), lkI] at hre
      subst hre
      go_wp2_with fail
      exact bodyPost_ret (v := .int .i64 m) (by simp [results, Tryz.results31, go_sem]) rfl ⟨rfl, bel _ _⟩
end Go.Proofs.YtjkenolgkkknaaaGreatDoor
/- The reference's search from the root: Reached. Conditions: none. -/
set_option linter.unusedVariables false
set_option linter.unusedSimpArgs false
namespace Go.Proofs.YtjkenolgkkknaaaGreatDoor
open Go.RowKit
/-- A stack: a slice of ints in a block that is none of X. -/
def TodoI (X : Nat → Prop) (w : World) (v : Value) (xs : List Int) : Prop :=
  ∃ g off cap arr, v = .slice (some ⟨g, off, none⟩) xs.length cap ∧ ¬ X g ∧ Blk w g arr 3 ∧ xs.length ≤ cap ∧ off + cap ≤ arr.size ∧ ∀ (i : Nat) (x : Int), xs[i]? = some x → arr[off + i]? = some (.int .i64 x)
theorem TodoI.alloc {X : Nat → Prop} {w : World} {v : Value} {xs : List Int} (h : TodoI X w v xs) (o : Obj) : TodoI X (w.alloc o) v xs := by
  obtain ⟨g, off, cap, arr, e, hx, hb, r⟩ := h
  exact ⟨g, off, cap, arr, e, hx, hb.alloc o, r⟩
theorem TodoI.junk {X : Nat → Prop} {w : World} {v : Value} {xs : List Int} (h : TodoI X w v xs) (o : Behind) : TodoI X (w.junk o) v xs := by
  obtain ⟨g, off, cap, arr, e, hx, hb, r⟩ := h
  exact ⟨g, off, cap, arr, e, hx, hb.junk o, r⟩
theorem TodoI.far {X : Nat → Prop} {w : World} {v : Value} {xs : List Int} (h : TodoI X w v xs) {a : Addr} (ha : X a.block) (u : Value) : TodoI X (w.setCell a u) v xs := by
  obtain ⟨g, off, cap, arr, e, hx, hb, r⟩ := h
  exact ⟨g, off, cap, arr, e, hx, hb.far (fun e => hx (by rw [e]; exact ha)) u, r⟩
theorem wpList_append_todoI {P : Program} (hP : P.underlying 25 = some (.slice 3)) (hI : (P.info? 3).map (fun i => (i.zero, i.size, i.bytes)) = some (some (.int .i64 0), 1, 8))
    (w : World) {ops : Array Oper} {rest : List Oper} {o : Oper} {a : Act} {Q : Exit → Act → World → Prop} (hg : o.guard = none) (s x : Operand)
    (hop : o.op = Op.call { callee := Callee.builtin Builtin.append, args := #[s, x], argTypes := #[25, 25] }) (X : Nat → Prop) (v : Value) (xs : List Int) (hs : a.eval s = v) (ht : TodoI X w v xs) (hX : ∀ g, w.heap.size ≤ g → ¬ X g)
    (ad : Addr) (c : Nat) (k : Int) (hx : a.eval x = .slice (some ad) 1 c) (hc : w.cell? ad = some (.int .i64 k)) (hlen : xs.length ≤ 1000000000000)
    (hK : ∀ v' w', TodoI X w' v' (xs ++ [k]) → Keep (fun g => ¬ X g) w w' → wpList P ops Q rest (a.put o.dst v') w') :
    wpList P ops Q (o :: rest) a w := by
  obtain ⟨i0, hi, hz0, hz1, hz2⟩ := info_parts hI
  obtain ⟨g, off, cap, arr, rfl, hnx, hb, hle, har, hel⟩ := ht
  refine wpList_append_arg w hg s x 25 hop 3 i0 (.int .i64 0) 1 8 hP hi hz0 hz1 hz2 rfl (by decide) g off xs.length cap (xs.map fun y : Int => .int .i64 y) hs (by simp) ?_ ad 1 c [.int .i64 k] hx rfl ?_ ?_ ?_ (by unfold maxLen; omega) (by omega) ?_ ?_
  · intro j u hj
    rw [List.getElem?_map] at hj
    obtain ⟨y, hy, rfl⟩ := Option.map_eq_some_iff.1 hj
    rw [hb.cell]
    exact hel j y hy
  · intro j u hj
    have : j = 0 := by
      rcases j with _ | j
      · rfl
      · simp at hj
    subst this
    simp only [List.getElem?_cons_zero, Option.some.injEq] at hj
    subst hj
    have e : ad.add 0 = ad := by unfold Addr.add; split <;> simp_all
    rw [e]; exact hc
  · intro u hu
    simp only [List.mem_singleton] at hu
    subst hu; rfl
  · intro hr j hj
    simp only [List.length_cons, List.length_nil] at hj
    obtain rfl : j = 0 := by omega
    rw [hb.cell, hb.frozen, Nat.add_zero, Nat.mul_one]
    refine ⟨?_, rfl⟩
    rw [Array.getElem?_eq_getElem (by omega)]
    rfl
  · intro hr
    refine hK _ _ ⟨g, off, cap, arr.setIfInBounds (off + xs.length) (.int .i64 k), by simp, hnx, ?_, by simp; omega, by simp; omega, ?_⟩ ?_
    · simp only [Nat.mul_one, World.setCells]
      exact hb.set_ _ _
    · intro i y hy
      rw [Array.getElem?_setIfInBounds]
      by_cases hi : i < xs.length
      · rw [List.getElem?_append_left hi] at hy
        rw [if_neg (by omega)]
        exact hel i y hy
      · rw [List.getElem?_append_right (by omega)] at hy
        have h0 : i - xs.length = 0 := by
          rcases hq : i - xs.length with _ | j
          · rfl
          · rw [hq] at hy; simp at hy
        rw [h0] at hy
        simp only [List.getElem?_cons_zero, Option.some.injEq] at hy
        subst hy
        obtain rfl : i = xs.length := by omega
        rw [if_pos rfl, if_pos (by omega)]
    · simp only [Nat.mul_one, World.setCells]
      exact (Keep.refl _ w).setCell (p := ⟨g, _, none⟩) (.inl hnx) _
  · intro hr v' w' hown hgr
    refine hK _ _ ?_ ((Keep.refl _ w).grown hgr (by simp))
    obtain ⟨hl, h0 | ⟨g', cap', cur, rfl, hge, hcur, hnc, hcm, hsz, htk⟩⟩ := hown
    · omega
    · refine ⟨g', 0, cap', cur, by simp, hX g' hge, hcur, by simp; omega, by omega, ?_⟩
      intro i y hy
      have hil : i < xs.length + 1 := by
        obtain ⟨h, _⟩ := List.getElem?_eq_some_iff.1 hy
        simpa using h
      have h2 : (cur.toList.take ((xs.length + 1) * 1))[i]? = some (.int .i64 y) := by
        rw [htk]
        have : (xs.map (fun y : Int => Value.int .i64 y) ++ [.int .i64 k]) = (xs ++ [k]).map (fun y : Int => Value.int .i64 y) := by simp
        rw [this, List.getElem?_map, hy]
        rfl
      rw [List.getElem?_take, if_pos (by omega)] at h2
      rw [Nat.zero_add]
      simpa using h2
def potF : List PIn → List Bool → Nat
  | x :: r, b :: fd => (if b = true then 0 else x.ents.length) + potF r fd
  | _, _ => 0
theorem potF_set : ∀ (xs : List PIn) (fd : List Bool) (k : Nat) (x : PIn), xs[k]? = some x → fd[k]? = some false → potF xs (fd.set k true) + x.ents.length = potF xs fd
  | [], _, _, _, h, _ => by simp at h
  | _ :: _, [], _, _, _, h => by simp at h
  | y :: r, b :: fd, 0, x, h1, h2 => by
    simp at h1 h2
    subst h1; subst h2
    simp [potF]
    omega
  | y :: r, b :: fd, k + 1, x, h1, h2 => by
    have := potF_set r fd k x (by simpa using h1) (by simpa using h2)
    simp only [List.set_cons_succ, potF]
    omega
def numsIf (x : PIn) : List Int := if x.dir = true then x.ents.map PEnt.num else []
def reachF (S : PSt) : Nat → List Int → List Bool → List Bool
  | 0, _, fd => fd
  | _ + 1, [], fd => fd
  | g + 1, n :: st, fd =>
    if atR S n < 0 then reachF S g st fd
    else if fd.getD (atR S n).toNat true = true then reachF S g st fd
    else match S.ins[(atR S n).toNat]? with
      | some x => reachF S g ((numsIf x).reverse ++ st) (fd.set (atR S n).toNat true)
      | none => fd
def reachR (S : PSt) : List Bool := reachF S (1 + potF S.ins (List.replicate S.ins.length false)) [1] (List.replicate S.ins.length false)
theorem potF_le (B : Nat) : ∀ (xs : List PIn) (fd : List Bool), (∀ x ∈ xs, x.ents.length ≤ B) → potF xs fd ≤ B * xs.length
  | [], _, _ => by simp [potF]
  | _ :: _, [], _ => by simp [potF]
  | x :: r, b :: fd, h => by
    have h1 := potF_le B r fd (fun y hy => h y (List.mem_cons_of_mem _ hy))
    have h2 := h x (by simp)
    have h3 : B * (r.length + 1) = B * r.length + B := by rw [Nat.mul_add, Nat.mul_one]
    simp only [potF, List.length_cons]
    rw [h3]
    split <;> omega
set_option maxRecDepth 100000 in
set_option maxHeartbeats 4000000 in
theorem reached28 (S : PSt) (iv ov mv : Value) (w : World) (h : StRead w iv ov mv S) (hwf : S.wf) (hsm : S.ins.length ≤ 300) :
    Calls Tryz.prog 28 #[.agg #[iv, ov, mv]] w fun e w' => ∃ F : Nat, e = .returned (.slice (some ⟨F, 0, none⟩) S.ins.length S.ins.length) ∧ Below w.heap.size w w' ∧ RowAt w' 1 (.slice (some ⟨F, 0, none⟩) S.ins.length S.ins.length) ((reachR S).map boolCells) := by
  have h51 : ∀ n ww, Below w.heap.size w ww → Calls Tryz.prog 51 #[.agg #[iv, ov, mv], .int .i64 n] ww fun e w' => e = .returned (.int .i64 (atR S n)) ∧ Below ww.heap.size ww w' := fun n ww hb => at51 S iv ov mv n ww (h.below hb (Nat.le_refl _)) hwf.1
  obtain ⟨ai, ni, ci, ao, no, co, am, nm, cm, rfl, rfl, rfl⟩ := h.slices
  obtain ⟨a, cap, e1, hai⟩ := h.ins_at2
  cases e1
  have HI := Lib.hid hai
  have HWF := Lib.hid hwf.2.2.2.1
  have hp12 : potF S.ins (List.replicate S.ins.length false) ≤ 300000000000 := by
    have h1 := potF_le 1000000000 S.ins (List.replicate S.ins.length false) (fun x hx => (hwf.2.2.2.1 x hx).2.1)
    have h2 : 1000000000 * S.ins.length ≤ 1000000000 * 300 := Nat.mul_le_mul_left _ hsm
    omega
  clear h hai hwf
  obtain ⟨j0, ji, jz0, jz1, jz2⟩ := info_parts info4
  have hmk2 : ∀ u : World, (Instr.makeSlice 66 (.int .i64 S.ins.length) (.int .i64 S.ins.length)).run Tryz.prog u = .ok (.slice (some ⟨u.heap.size, 0, none⟩) S.ins.length S.ins.length) (u.alloc (.cells ((List.replicate S.ins.length false).map fun x => Value.bool x).toArray 4)) := fun u => by
    have := run_makeSlice (P := Tryz.prog) u 66 4 j0 _ Tryz.underlying66 ji jz0 .i64 .i64 S.ins.length S.ins.length (by omega) (Int.le_refl _) (by rw [jz1]; omega) (by rw [jz2]; omega) (by omega)
    rw [← made_map (fun x => Value.bool x)]
    simpa [jz1, Value.cells] using this
  clear ji jz0 jz1 jz2
  obtain ⟨FF, hFF⟩ : ∃ FF, reachR S = FF := ⟨_, rfl⟩
  rw [hFF]
  unfold reachR at hFF
  obtain ⟨N, hN⟩ : ∃ N, 1 + potF S.ins (List.replicate S.ins.length false) = N := ⟨_, rfl⟩
  rw [hN] at hFF
  have hN12 : N ≤ 400000000000 := by omega
  have HFF := Lib.hid (And.intro hFF hN)
  clear hFF hN hp12
  obtain ⟨X, hX⟩ : ∃ X : Nat → Prop, X = fun g => g < w.heap.size + 1 + 1 := ⟨_, rfl⟩
  have hXX : ∀ g, X g ↔ g < w.heap.size + 1 + 1 := fun g => by rw [hX]
  have HX := Lib.hid hXX
  clear hXX
  clear hX
  go_enter Tryz.func28, Tryz.ntmps28
  go_wp2_with fail
  go_loopg [4] N (fun gk td wr => ∃ (st : List Int) (fd : List Bool), TodoI X wr td st.reverse ∧ fd.length = S.ins.length ∧ potF S.ins fd + st.length ≤ gk ∧ reachF S gk st fd = FF ∧ Below w.heap.size w wr ∧ Blk wr w.heap.size #[.slice ai S.ins.length ci, .slice ao no co, .slice am nm cm] 27 ∧ Blk wr (w.heap.size + 1) (fd.map fun x => Value.bool x).toArray 4 ∧ gk ≤ N)
  case atStart =>
    refine ⟨[1], List.replicate S.ins.length false, ?_, by simp, ?_, HFF.out.1, bel _ _, ((Blk.new w _ 27).alloc _).alloc _, ?_, Nat.le_refl _⟩
    · exact ⟨w.heap.size + 1 + 1, 0, 1, #[.int .i64 1], rfl, fun e => by have := (HX.out _).1 e; omega, Blk.new_i _ _ _ _, by simp, by simp, fun i x hx => by
        rcases i with _ | i
        · simp at hx; subst hx; rfl
        · simp at hx⟩
    · have := HFF.out.2; simp only [List.length_cons, List.length_nil]; omega
    · have := (Blk.new_i (w.alloc (.cells #[.slice ai S.ins.length ci, .slice ao no co, .slice am nm cm] 27)) (Array.replicate S.ins.length (.bool false)) 4 (w.heap.size + 1)).alloc (.cells #[.int .i64 1] 3)
      simpa using this
  case round =>
    obtain ⟨st, fd, hT, hfl, hpot, hre, hb, hbs, hbf, hgk⟩ := hrel
    rename World => wq
    have iB : Bel w wq := ⟨hb⟩
    have iL := hbs.lt
    have iF := hbf.lt
    have s0 := hbs.cell 0
    have s1 := hbs.cell 1
    have s2 := hbs.cell 2
    simp at s0 s1 s2
    obtain ⟨g, off, cap, arr, rfl, hng, hbk, hle, har, hel⟩ := hT
    rcases st with _ | ⟨n, st⟩
    · have hff : fd = FF := by rw [← hre]; rcases gk with _ | gk <;> rfl
      subst hff
      have HP := Lib.hid (And.intro hbf (And.intro hfl hb))
      clear hbs hbf hre hpot hel
      simp only [List.reverse_nil, List.length_nil] at *
      go_wp2_with fail
      refine bodyPost_ret (v := .slice (some ⟨w.heap.size + 1, 0, none⟩) S.ins.length S.ins.length) (by simp [results, Tryz.results28, go_sem]) rfl ⟨_, rfl, bel _ _, ?_⟩
      have := RowAt.of_blk (cap := S.ins.length) (fun x => Value.bool x) fd HP.out.1 (by unfold maxLen; have := HP.out.2.1; omega)
      rw [HP.out.2.1] at this
      exact this
    · rcases gk with _ | gk
      · simp at hpot
      obtain ⟨L, hL⟩ : ∃ L, st.length + 1 = L := ⟨_, rfl⟩
      have hlr : (n :: st).reverse.length = L := by simp [hL]
      have hn : arr[off + st.length]? = some (.int .i64 n) := hel st.length n (by simp)
      have hel' : ∀ (i : Nat) (x : Int), st.reverse[i]? = some x → arr[off + i]? = some (.int .i64 x) := fun i x hx => hel i x (by
        rw [List.reverse_cons, List.getElem?_append_left (by obtain ⟨h, _⟩ := List.getElem?_eq_some_iff.1 hx; exact h)]; exact hx)
      rw [hlr] at hle ⊢
      have cg : wq.cell? ⟨g, off + st.length, none⟩ = some (.int .i64 n) := by rw [hbk.cell]; exact hn
      have iG := hbk.lt
      have hTn : ∀ wr, Blk wr g arr 3 → TodoI X wr (.slice (some ⟨g, off, none⟩) st.length cap) st.reverse := fun wr hbk => ⟨g, off, cap, arr, by simp, hng, hbk, by simp; omega, har, hel'⟩
      have hb1 : (L : Int) - 1 = st.length := by omega
      have hmL : st.length < L := by omega
      have hLp : 0 < L := by omega
      have hsl : (st.length : Int) ≤ 400000000000 := by simp only [List.length_cons] at hpot; omega
      have w1 : IntKind.i64.wrap (st.length : Int) = st.length := I64.wrap ⟨by omega, by omega⟩
      have hcap : (st.length : Int) ≤ cap := by omega
      have hcapN : st.length ≤ cap := by omega
      have h51n := fun ww hww => h51 n ww hww
      have hKb := atR_bounds S n
      rw [reachF] at hre
      have hc0 : ¬ cap = 0 := by omega
      have HB := Lib.hid (And.intro hbk (And.intro hbs (And.intro hbf (And.intro hfl (And.intro hTn hng)))))
      have hpot' : potF S.ins fd + st.length ≤ gk := by simp only [List.length_cons] at hpot; omega
      clear hL hel hel' hn hlr har hle hbk hbs hbf hTn hng hpot h51
      generalize atR S n = K at hre h51n hKb
      go_upto_region 4 with fail
      refine wp_region_quiet_rest (by kernel_rfl) (by kernel_rfl) (WQ.out ?_)
      repeat
        refine WQ_step (fun K hK => ?_)
        go_simp
        first
          | (refine hK _ ?_; clear hK K)
          | (apply Exists.intro
             refine ⟨fun _ => ?_, hK _ ?_⟩
             focus ((with_reducible refine calls_in (h51n _ (bel _ _)) (fun w' hb => ?_); first | exact hb.rest | exact rest1 hb | exact rest2 hb))
             clear hK K)
      refine WQ_nil ?_
      intro w1 hw1
      obtain ⟨p, hw1⟩ := hw1
      subst hw1
      by_cases hK : K < 0
      · rw [if_pos hK] at hre
        have HRE := Lib.hid hre
        clear hre hKb
        go_wp2_with fail
        go_roundg gk
        case rel => exact ⟨st, fd, HB.out.2.2.2.2.1 _ (HB.out.1.junk _), HB.out.2.2.2.1, by omega, HRE.out, bel _ _, HB.out.2.1.junk _, HB.out.2.2.1.junk _, by omega⟩
        case measure => omega
      · rw [if_neg hK] at hre
        obtain ⟨k, rfl⟩ : ∃ k : Nat, K = k := ⟨K.toNat, by omega⟩
        have hk : k < S.ins.length := by omega
        obtain ⟨x, hx⟩ : ∃ x, S.ins[k]? = some x := ⟨_, List.getElem?_eq_getElem hk⟩
        obtain ⟨y, hy⟩ : ∃ y, fd[k]? = some y := ⟨_, List.getElem?_eq_getElem (by have := HB.out.2.2.2.1; omega)⟩
        have c3 : wq.cell? ⟨w.heap.size + 1, k, none⟩ = some (.bool y) := by rw [HB.out.2.2.1.cell k]; simp [hy]
        have f3 : wq.frozen? ⟨w.heap.size + 1, k, none⟩ = false := HB.out.2.2.1.frozen k
        rw [Int.toNat_natCast, List.getD_eq_getElem?_getD, hy, Option.getD_some, hx] at hre
        simp only at hre
        have hkI : (k : Int) < S.ins.length := by omega
        clear hKb hK
        rcases y with _ | _
        · rw [if_neg (by decide)] at hre
          have hps := potF_set S.ins fd k x hx hy
          obtain ⟨bi, oi, ev, rfl, iI0, hoi, her, hci⟩ := HI.out k x hx
          obtain ⟨iI, x0, x1, x2, x3⟩ := hci wq hb
          have hel := (HWF.out x (List.mem_of_getElem? hx)).2.1
          obtain ⟨ae, ce, rfl, hae⟩ := her.at_
          rw [List.length_map] at hci x2
          obtain ⟨xn, xd, xe, xs⟩ := x
          simp only at x1 x2 hae hci hel hps
          have HC := Lib.hid (And.intro hae hci)
          have HRE := Lib.hid (And.intro hre hps)
          clear her hoi hae hci x0 x1 x2 x3 hx hy hre hps
          go_upto_region 9 with fail
          have hs0 : w.heap.size ≤ wq.heap.size := hb.size
          have hTi : TodoI X (((wq.setCell ⟨w.heap.size + 1, k, none⟩ (.bool true)).junk p)) (.slice (some ⟨g, off, none⟩) st.length cap) st.reverse := HB.out.2.2.2.2.1 _ ((HB.out.1.far (fun e => HB.out.2.2.2.2.2 ((HX.out g).2 (by simp at e; omega))) _).junk _)
          have iFg : BlockGe (w.heap.size + 1) w := ⟨by omega⟩
          have hF2 : Blk ((wq.setCell ⟨w.heap.size + 1, k, none⟩ (.bool true)).junk p) (w.heap.size + 1) ((fd.set k true).map fun x => Value.bool x).toArray 4 := by
            have := (HB.out.2.2.1.set_ k (.bool true)).junk p
            rw [List.setIfInBounds_toArray, ← List.map_set (f := fun x => Value.bool x)] at this
            exact this
          have hS2 : Blk ((wq.setCell ⟨w.heap.size + 1, k, none⟩ (.bool true)).junk p) w.heap.size #[.slice (some ⟨bi, oi, none⟩) S.ins.length ci, .slice ao no co, .slice am nm cm] 27 := (HB.out.2.1.far (by show _ ≠ _; simp) _).junk p
          have hb2 : Below w.heap.size w ((wq.setCell ⟨w.heap.size + 1, k, none⟩ (.bool true)).junk p) := bel _ _
          have H2 := Lib.hid (And.intro hTi (And.intro hb2 (And.intro hS2 hF2)))
          clear hTi hF2 hS2 hb2 hs0
          go_loopw [4, 6] (fun v4 i wr => ∃ (j : Nat), i = .int .i64 j ∧ j ≤ xe.length ∧ (xd = false → j = 0) ∧ TodoI X wr v4 (st.reverse ++ (xe.take j).map PEnt.num) ∧ Below w.heap.size w wr ∧ Blk wr w.heap.size #[.slice (some ⟨bi, oi, none⟩) S.ins.length ci, .slice ao no co, .slice am nm cm] 27 ∧ Blk wr (w.heap.size + 1) ((fd.set k true).map fun x => Value.bool x).toArray 4) (fun _ i _ => (xe.length - intOf i).toNat)
          case atStart => exact ⟨0, rfl, by omega, fun _ => rfl, by simpa using H2.out.1, H2.out.2.1, H2.out.2.2.1, H2.out.2.2.2⟩
          case round =>
            clear s0 s1 s2 iB iL iF iI cg c3 f3 iG
            obtain ⟨j, rfl, hj, hjd, hT, hb2, hS2, hF2⟩ := hrel
            have iB : Bel w wr := ⟨hb2⟩
            have iL := hS2.lt
            have iF := hF2.lt
            have s0 := hS2.cell 0
            simp at s0
            obtain ⟨iI, x0, x1, x2, x3⟩ := HC.out.2 wr hb2
            clear x0 x3
            obtain ⟨g2, off2, cap2, arr2, rfl, -⟩ := id hT
            have htl : (st.reverse ++ (xe.take j).map PEnt.num).length ≤ 1000000000000 := by
              rw [List.length_append, List.length_map, List.length_take, List.length_reverse]
              omega
            generalize hxl : (st.reverse ++ (xe.take j).map PEnt.num).length = xl at hT htl ⊢
            have hend : ∀ (wz : World), Bel w wz → (xd = false ∨ j = xe.length) → TodoI X wz (.slice (some ⟨g2, off2, none⟩) xl cap2) (st.reverse ++ (xe.take j).map PEnt.num) → Blk wz w.heap.size #[.slice (some ⟨bi, oi, none⟩) S.ins.length ci, .slice ao no co, .slice am nm cm] 27 → Blk wz (w.heap.size + 1) ((fd.set k true).map fun x => Value.bool x).toArray 4 →
                ∃ (st' : List Int) (fd' : List Bool), TodoI X wz (.slice (some ⟨g2, off2, none⟩) xl cap2) st'.reverse ∧ fd'.length = S.ins.length ∧ potF S.ins fd' + st'.length ≤ gk ∧ reachF S gk st' fd' = FF ∧ Below w.heap.size w wz ∧ Blk wz w.heap.size #[.slice (some ⟨bi, oi, none⟩) S.ins.length ci, .slice ao no co, .slice am nm cm] 27 ∧ Blk wz (w.heap.size + 1) (fd'.map fun x => Value.bool x).toArray 4 ∧ gk ≤ N := by
              intro wz i1 hc h1 h2 h3
              have hL2 : (xe.take j).map PEnt.num = numsIf ⟨xn, xd, xe, xs⟩ := by
                rcases hc with rfl | rfl
                · rw [hjd rfl]; rfl
                · rcases xd with _ | _
                  · rw [hjd rfl]; rfl
                  · simp [numsIf]
              have hl3 : (numsIf ⟨xn, xd, xe, xs⟩).length ≤ xe.length := by rw [← hL2]; simp; omega
              refine ⟨(numsIf ⟨xn, xd, xe, xs⟩).reverse ++ st, fd.set k true, ?_, by rw [List.length_set]; exact HB.out.2.2.2.1, ?_, HRE.out.1, i1.below, h2, h3, by omega⟩
              · have e : ((numsIf ⟨xn, xd, xe, xs⟩).reverse ++ st).reverse = st.reverse ++ (xe.take j).map PEnt.num := by rw [hL2]; simp
                rw [e]
                exact h1
              · have := HRE.out.2
                rw [List.length_append, List.length_reverse]
                omega
            have HE := Lib.hid hend
            have HT := Lib.hid (And.intro hT (And.intro hS2 hF2))
            have hXX : ∀ (wz : World), Bel w wz → BlockLt (w.heap.size + 1) wz → ∀ g, wz.heap.size ≤ g → ¬ X g := by
              intro wz i1 i2 g hg hx
              have := (HX.out g).1 hx
              have := i2.lt
              omega
            have HXX := Lib.hid hXX
            have HXL := Lib.hid hxl
            clear hend hT hS2 hF2 hXX hxl
            rcases xd with _ | _
            · obtain rfl := hjd rfl
              by_cases h0 : 0 < xe.length
              · go_wp2_with fail
                go_roundg gk
                case rel => exact HE.out _ ⟨bel _ _⟩ (by simp) HT.out.1 HT.out.2.1 HT.out.2.2
                case measure => omega
              · go_wp2_with fail
                go_roundg gk
                case rel => exact HE.out _ ⟨bel _ _⟩ (by simp) HT.out.1 HT.out.2.1 HT.out.2.2
                case measure => omega
            · by_cases hlj : j < xe.length
              · obtain ⟨z, hz⟩ : ∃ z, xe[j]? = some z := ⟨_, List.getElem?_eq_getElem hlj⟩
                obtain ⟨be, oe, rfl, iE0, iE, hce⟩ := HC.out.1 wr hb2 j z.cells (by rw [List.getElem?_map, hz]; rfl)
                have e1 := hce 1 _ rfl
                have htk : (xe.take (j + 1)).map PEnt.num = (xe.take j).map PEnt.num ++ [z.num] := by
                  rw [List.take_add_one, hz]; simp
                have HK := Lib.hid htk
                clear hce hz htk
                have hljI : (j : Int) < xe.length := by omega
                go_wp2_with (at_builtin; refine wpList_append_todoI (by kernel_rfl) info3 _ rfl (.tmp 58) (.tmp 69) rfl X _ (st.reverse ++ (xe.take j).map PEnt.num) rfl (HT.out.1.alloc _) (HXX.out _ ⟨bel _ _⟩ inferInstance) _ _ z.num rfl (by go_simp) (by rw [HXL.out]; exact htl) ?_)
                intro v' w' hT3 hkp3
                have HT3 := Lib.hid (And.intro hT3 hkp3)
                obtain ⟨g3, off3, cap3, arr3, rfl, -⟩ := id hT3
                clear hT3 hkp3
                go_wp2_with fail
                go_roundw
                case rel =>
                  refine ⟨j + 1, by rfl, by omega, (fun h => by cases h), ?_, (bel w _).trans (HT3.out.2.below (bel w _).size (fun i hi hn => hn ((HX.out i).2 (by omega)))), ?_, ?_⟩
                  · rw [HK.out]; simpa using HT3.out.1
                  · exact HT3.out.2.blk (HT.out.2.1.alloc _) (fun hn => hn ((HX.out _).2 (by omega)))
                  · exact HT3.out.2.blk (HT.out.2.2.alloc _) (fun hn => hn ((HX.out _).2 (by omega)))
                case measure => simp [intOf]; omega
              · have hje : j = xe.length := by omega
                have hljI : ¬ (j : Int) < xe.length := by omega
                go_wp2_with fail
                go_roundg gk
                case rel => have hz := HE.out _ ⟨bel _ _⟩ (.inr hje) HT.out.1 HT.out.2.1 HT.out.2.2; first | exact hz | simpa using hz
                case measure => omega
        · rw [if_pos rfl] at hre
          have HRE := Lib.hid hre
          clear hre hx hy
          go_wp2_with fail
          go_roundg gk
          case rel => exact ⟨st, fd, HB.out.2.2.2.2.1 _ (HB.out.1.junk _), HB.out.2.2.2.1, by omega, HRE.out, bel _ _, HB.out.2.1.junk _, HB.out.2.2.1.junk _, by omega⟩
          case measure => omega
end Go.Proofs.YtjkenolgkkknaaaGreatDoor
/- A binary search finds what a look one by one finds; texts are compared alike. Conditions: none. -/
set_option linter.unusedVariables false
set_option linter.unusedSimpArgs false
namespace Go.Proofs.YtjkenolgkkknaaaGreatDoor
open Go.RowKit
theorem bsFrom_spec (f : Nat → Int) : ∀ (b lo hi : Nat), lo ≤ hi → hi - lo ≤ b → (∀ i j, lo ≤ i → i ≤ j → j < hi → f j < 0 → f i < 0) →
    lo ≤ bsFrom f b lo hi ∧ bsFrom f b lo hi ≤ hi ∧ (∀ i, lo ≤ i → i < bsFrom f b lo hi → f i < 0) ∧ (∀ i, bsFrom f b lo hi ≤ i → i < hi → ¬ f i < 0)
  | 0, lo, hi, h, hb, _ => by
    have : hi = lo := by omega
    subst this
    exact ⟨Nat.le_refl _, Nat.le_refl _, fun i h1 h2 => absurd h2 (by show ¬ i < hi; omega), fun i h1 h2 => absurd h2 (by have : hi ≤ i := h1; omega)⟩
  | b + 1, lo, hi, h, hb, hm => by
    unfold bsFrom
    by_cases hl : lo < hi
    · rw [if_pos hl]
      by_cases hf : f ((lo + hi) / 2) < 0
      · rw [if_pos hf]
        obtain ⟨h1, h2, h3, h4⟩ := bsFrom_spec f b ((lo + hi) / 2 + 1) hi (by omega) (by omega) (fun i j a c d e => hm i j (by omega) c d e)
        refine ⟨by omega, h2, fun i a c => ?_, h4⟩
        by_cases hi' : i ≤ (lo + hi) / 2
        · exact hm i ((lo + hi) / 2) a hi' (by omega) hf
        · exact h3 i (by omega) c
      · rw [if_neg hf]
        obtain ⟨h1, h2, h3, h4⟩ := bsFrom_spec f b lo ((lo + hi) / 2) (by omega) (by omega) (fun i j a c d e => hm i j a c (by omega) e)
        refine ⟨h1, by omega, h3, fun i a c => ?_⟩
        by_cases hi' : i < (lo + hi) / 2
        · exact h4 i a hi'
        · exact fun hn => hf (hm ((lo + hi) / 2) i (by omega) (by omega) c hn)
    · rw [if_neg hl]
      exact ⟨Nat.le_refl _, h, fun i h1 h2 => absurd h2 (by omega), fun i h1 h2 => absurd h2 (by omega)⟩
/-- Numbers rise. -/
def Rise (ns : List Int) : Prop := ∀ (i j : Nat) (x y : Int), ns[i]? = some x → ns[j]? = some y → i < j → x < y
theorem Rise.inj {ns : List Int} (h : Rise ns) {i j : Nat} {x : Int} (hi : ns[i]? = some x) (hj : ns[j]? = some x) : i = j := by
  rcases Nat.lt_trichotomy i j with h1 | h1 | h1
  · have := h i j _ _ hi hj h1; omega
  · exact h1
  · have := h j i _ _ hj hi h1; omega
theorem findN_hit {ns : List Int} (h : Rise ns) {k : Nat} {n : Int} (hk : ns[k]? = some n) : findN ns n = k := by
  obtain ⟨hl, _⟩ := List.getElem?_eq_some_iff.1 hk
  have hc : ∀ j (hj : j < ns.length), cmpN ns n j = cmpM ns[j] n := fun j hj => by unfold cmpN; rw [List.getElem?_eq_getElem hj]
  obtain ⟨h1, h2, h3, h4⟩ := bsFrom_spec (cmpN ns n) ns.length 0 ns.length (by omega) (by omega) (fun i j a c d e => by
    rw [hc j d] at e
    rw [hc i (by omega)]
    unfold cmpM at e ⊢
    by_cases hij : i = j
    · subst hij; exact e
    · have := h i j _ _ (List.getElem?_eq_getElem (by omega)) (List.getElem?_eq_getElem d) (by omega)
      split at e
      · rw [if_pos (by omega)]; omega
      · split at e <;> omega)
  have hz : cmpN ns n k = 0 := by
    rw [hc k hl]
    have : ns[k] = n := by have := List.getElem?_eq_getElem hl; rw [hk] at this; exact (Option.some.inj this).symm
    rw [this]
    simp [cmpM]
  have e : bsN ns n = k := by
    unfold bsN
    generalize bsFrom (cmpN ns n) ns.length 0 ns.length = r at *
    rcases Nat.lt_trichotomy r k with hrk | hrk | hrk
    · have := h4 r (Nat.le_refl _) (by omega)
      rw [hc r (by omega)] at this
      have h5 := h r k _ _ (List.getElem?_eq_getElem (by omega)) hk hrk
      unfold cmpM at this
      rw [if_pos h5] at this
      omega
    · exact hrk
    · have := h3 k (Nat.zero_le _) hrk
      omega
  unfold findN
  rw [e, hz]
  rw [if_pos (by simp [hl])]
theorem findN_miss {ns : List Int} {n : Int} (hn : ∀ x ∈ ns, x ≠ n) : findN ns n = -1 := by
  unfold findN
  rw [if_neg]
  intro h
  simp only [Bool.and_eq_true, decide_eq_true_eq, beq_iff_eq] at h
  obtain ⟨h1, h2⟩ := h
  unfold cmpN at h2
  rw [List.getElem?_eq_getElem h1] at h2
  simp only at h2
  have := hn _ (List.getElem_mem h1)
  unfold cmpM at h2
  split at h2
  · omega
  · split at h2 <;> omega
theorem idxF_hit {α : Type} (p : α → Bool) : ∀ (zs : List α) (q k : Nat) (z : α), zs[k]? = some z → p z = true → (∀ j y, j < k → zs[j]? = some y → p y = false) → idxFrom p zs q = ((q + k : Nat) : Int)
  | [], _, _, _, h, _, _ => by simp at h
  | x :: r, q, 0, z, h, hp, _ => by
    simp at h; subst h
    unfold idxFrom
    rw [if_pos hp]; simp
  | x :: r, q, k + 1, z, h, hp, hl => by
    unfold idxFrom
    rw [if_neg (by rw [hl 0 x (by omega) rfl]; simp), idxF_hit p r (q + 1) k z (by simpa using h) hp (fun j y hj hy => hl (j + 1) y (by omega) (by simpa using hy))]
    omega
theorem idxF_miss {α : Type} (p : α → Bool) : ∀ (zs : List α) (q : Nat), (∀ z ∈ zs, p z = false) → idxFrom p zs q = -1
  | [], _, _ => rfl
  | x :: r, q, h => by
    unfold idxFrom
    rw [if_neg (by rw [h x List.mem_cons_self]; simp)]
    exact idxF_miss p r (q + 1) fun z hz => h z (List.mem_cons_of_mem _ hz)
theorem atR_hit {S : PSt} (h : Rise S.nums) {k : Nat} {x : PIn} (hk : S.ins[k]? = some x) : atR S x.num = k := by
  unfold atR idxM
  rw [idxF_hit (isNum x.num) S.ins 0 k x hk (by simp [isNum]) (fun j y hj hy => by
    unfold isNum
    rw [beq_eq_false_iff_ne]
    intro e
    have := h j k y.num x.num (by unfold PSt.nums; rw [List.getElem?_map, hy]; rfl) (by unfold PSt.nums; rw [List.getElem?_map, hk]; rfl) hj
    omega)]
  simp
theorem atR_cases (S : PSt) (n : Int) : (∃ (k : Nat) (x : PIn), S.ins[k]? = some x ∧ x.num = n) ∨ ((∀ x ∈ S.ins, x.num ≠ n) ∧ atR S n = -1) := by
  by_cases h : ∃ x ∈ S.ins, x.num = n
  · obtain ⟨x, hx, e⟩ := h
    obtain ⟨k, hk⟩ := List.mem_iff_getElem?.1 hx
    exact .inl ⟨k, x, hk, e⟩
  · have h' : ∀ x ∈ S.ins, x.num ≠ n := fun x hx e => h ⟨x, hx, e⟩
    refine .inr ⟨h', ?_⟩
    unfold atR idxM
    exact idxF_miss _ _ _ fun z hz => by unfold isNum; rw [beq_eq_false_iff_ne]; exact h' z hz
theorem find_atR {S : PSt} (h : Rise S.nums) (n : Int) : findN S.nums n = atR S n := by
  rcases atR_cases S n with ⟨k, x, hk, rfl⟩ | ⟨h1, h2⟩
  · rw [atR_hit h hk]
    exact findN_hit h (by unfold PSt.nums; rw [List.getElem?_map, hk]; rfl)
  · rw [h2]
    exact findN_miss fun y hy => by
      obtain ⟨x, hx, rfl⟩ := List.mem_map.1 hy
      exact h1 x hx
theorem byteAt_list {s : ByteArray} {p : Nat} (h : p < s.size) : ∃ b, s.toList.drop p = b :: s.toList.drop (p + 1) ∧ byteAt s p = (b.toNat : Int) := by
  have hl : p < s.data.toList.length := by simpa using h
  refine ⟨s.data.toList[p], ?_, ?_⟩
  · rw [ByteArray.toList_eq]
    exact List.drop_eq_getElem_cons hl
  · unfold byteAt
    rw [dif_pos h]
    rfl
theorem below_less (x y : ByteArray) : ∀ m p, x.size ≤ p + m → p ≤ x.size → p ≤ y.size → belowRF x y m p = Op.bytesLess (x.toList.drop p) (y.toList.drop p) := by
  have hend : ∀ p, p ≤ x.size → p ≤ y.size → ¬ (p < x.size ∧ p < y.size) → decide (x.size < y.size) = Op.bytesLess (x.toList.drop p) (y.toList.drop p) := by
    intro p h1 h2 h
    have lx : x.toList.length = x.size := by rw [ByteArray.toList_eq]; simp
    have ly : y.toList.length = y.size := by rw [ByteArray.toList_eq]; simp
    by_cases hy : p < y.size
    · obtain ⟨b, hb, _⟩ := byteAt_list hy
      have : x.toList.drop p = [] := List.drop_of_length_le (by omega)
      rw [this, hb]
      rw [decide_eq_true (by omega)]
      rfl
    · have : y.toList.drop p = [] := List.drop_of_length_le (by omega)
      rw [this, decide_eq_false (by omega)]
      cases x.toList.drop p <;> rfl
  intro m
  induction m with
  | zero =>
    intro p h h1 h2
    exact hend p h1 h2 (by omega)
  | succ m ih =>
    intro p h h1 h2
    unfold belowRF
    by_cases hp : p < x.size ∧ p < y.size
    · rw [if_pos hp]
      obtain ⟨a, ha, ea⟩ := byteAt_list hp.1
      obtain ⟨b, hb, eb⟩ := byteAt_list hp.2
      rw [ha, hb, ea, eb]
      unfold Op.bytesLess
      by_cases e : a = b
      · subst e
        rw [if_pos rfl, ih (p + 1) (by omega) (by omega) (by omega)]
        simp
      · have hne : ¬ (a.toNat : Int) = b.toNat := fun h => e (UInt8.toNat_inj.1 (by omega))
        rw [if_neg hne]
        have : (a == b) = false := by simpa using e
        rw [this, Bool.false_and, Bool.or_false]
        congr 1
        rw [UInt8.lt_iff_toNat_lt]
        exact propext ⟨fun h => by omega, fun h => by omega⟩
    · rw [if_neg hp]
      exact hend p h1 h2 hp
theorem below_eq (x y : ByteArray) : belowR x y = Op.bytesLess x.toList y.toList := by
  unfold belowR
  rw [below_less x y x.size 0 (by omega) (by omega) (by omega)]
  rfl
end Go.Proofs.YtjkenolgkkknaaaGreatDoor
