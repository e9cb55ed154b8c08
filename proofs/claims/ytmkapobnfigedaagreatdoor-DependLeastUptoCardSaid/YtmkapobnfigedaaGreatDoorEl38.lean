/- The reference's search from the root: Reached. Conditions: none. -/
import Derived.Test.YtmkapobnfigedaaGreatDoorEl37
set_option linter.unusedVariables false
set_option linter.unusedSimpArgs false
namespace Go.Proofs.YtmkapobnfigedaaGreatDoor
open Go.RowKit
def TodoI (X : Nat → Prop) (w : World) (v : Value) (xs : List Int) : Prop :=
 ∃ g off cap arr, v = .slice (some ⟨g, off, none⟩) xs.length cap ∧ ¬ X g ∧ Blk w g arr 3 ∧ xs.length ≤ cap ∧ off + cap ≤ arr.size ∧ ∀ (i : Nat) (x : Int), xs[i]? = some x → arr[off + i]? = some (.int .i64 x)
theorem TodoI.alloc {X : Nat → Prop} {w : World} {v : Value} {xs : List Int} (h : TodoI X w v xs) (o : Obj) : TodoI X (w.alloc o) v xs := by
 obtain ⟨g, off, cap, arr, e, hx, hb, r⟩ := h
 exact ⟨g, off, cap, arr, e, hx, hb.alloc o, r⟩
theorem TodoI.junk {X : Nat → Prop} {w : World} {v : Value} {xs : List Int} (h : TodoI X w v xs) (o : Behind) : TodoI X (w.junk o) v xs := by
 obtain ⟨g, off, cap, arr, e, hx, hb, r⟩ := h
 exact ⟨g, off, cap, arr, e, hx, hb.junk o, r⟩
theorem TodoI.far {X : Nat → Prop} {w : World} {v : Value} {xs : List Int} (h : TodoI X w v xs) {a : Addr} (ha : X a.block) (u : Value) : TodoI X (w.setCell a u) v xs := by
 obtain ⟨g, off, cap, arr, e, hx, hb, r⟩ := h
 exact ⟨g, off, cap, arr, e, hx, hb.far (fun e => hx (by rw [e]; exact ha)) u, r⟩
theorem wpList_append_todoI {P : Program} (hP : P.underlying 24 = some (.slice 3)) (hI : (P.info? 3).map (fun i => (i.zero, i.size, i.bytes)) = some (some (.int .i64 0), 1, 8))
 (w : World) {ops : Array Oper} {rest : List Oper} {o : Oper} {a : Act} {Q : Exit → Act → World → Prop} (hg : o.guard = none) (s x : Operand)
 (hop : o.op = Op.call { callee := Callee.builtin Builtin.append, args := #[s, x], argTypes := #[24, 24] }) (X : Nat → Prop) (v : Value) (xs : List Int) (hs : a.eval s = v) (ht : TodoI X w v xs) (hX : ∀ g, w.heap.size ≤ g → ¬ X g)
 (ad : Addr) (c : Nat) (k : Int) (hx : a.eval x = .slice (some ad) 1 c) (hc : w.cell? ad = some (.int .i64 k)) (hlen : xs.length ≤ 1000000000000)
 (hK : ∀ v' w', TodoI X w' v' (xs ++ [k]) → Keep (fun g => ¬ X g) w w' → wpList P ops Q rest (a.put o.dst v') w') :
 wpList P ops Q (o :: rest) a w := by
 obtain ⟨i0, hi, hz0, hz1, hz2⟩ := info_parts hI
 obtain ⟨g, off, cap, arr, rfl, hnx, hb, hle, har, hel⟩ := ht
 refine wpList_append_arg w hg s x 24 hop 3 i0 (.int .i64 0) 1 8 hP hi hz0 hz1 hz2 rfl (by decide) g off xs.length cap (xs.map fun y : Int => .int .i64 y) hs (by simp) ?_ ad 1 c [.int .i64 k] hx rfl ?_ ?_ ?_ (by unfold maxLen; omega) (by omega) ?_ ?_
 · intro j u hj; rw [List.getElem?_map] at hj; obtain ⟨y, hy, rfl⟩ := Option.map_eq_some_iff.1 hj; rw [hb.cell]; exact hel j y hy
 · intro j u hj; have : j = 0 := by
    rcases j with _ | j
    · rfl
    · simp at hj
   subst this; simp only [List.getElem?_cons_zero, Option.some.injEq] at hj; subst hj; have e : ad.add 0 = ad := by unfold Addr.add; split <;> simp_all
   rw [e]; exact hc
 · intro u hu; simp only [List.mem_singleton] at hu; subst hu; rfl
 · intro hr j hj; simp only [List.length_cons, List.length_nil] at hj; obtain rfl : j = 0 := by omega
   rw [hb.cell, hb.frozen, Nat.add_zero, Nat.mul_one]; refine ⟨?_, rfl⟩; rw [Array.getElem?_eq_getElem (by omega)]; rfl
 · intro hr; refine hK _ _ ⟨g, off, cap, arr.setIfInBounds (off + xs.length) (.int .i64 k), by simp, hnx, ?_, by simp; omega, by simp; omega, ?_⟩ ?_
   · simp only [Nat.mul_one, World.setCells]; exact hb.set_ _ _
   · intro i y hy; rw [Array.getElem?_setIfInBounds]; by_cases hi : i < xs.length
     · rw [List.getElem?_append_left hi] at hy; rw [if_neg (by omega)]; exact hel i y hy
     · rw [List.getElem?_append_right (by omega)] at hy; have h0 : i - xs.length = 0 := by
        rcases hq : i - xs.length with _ | j
        · rfl
        · rw [hq] at hy; simp at hy
       rw [h0] at hy; simp only [List.getElem?_cons_zero, Option.some.injEq] at hy; subst hy; obtain rfl : i = xs.length := by omega
       rw [if_pos rfl, if_pos (by omega)]
   · simp only [Nat.mul_one, World.setCells]; exact (Keep.refl _ w).setCell (p := ⟨g, _, none⟩) (.inl hnx) _
 · intro hr v' w' hown hgr; refine hK _ _ ?_ ((Keep.refl _ w).grown hgr (by simp)); obtain ⟨hl, h0 | ⟨g', cap', cur, rfl, hge, hcur, hnc, hcm, hsz, htk⟩⟩ := hown
   · omega
   · refine ⟨g', 0, cap', cur, by simp, hX g' hge, hcur, by simp; omega, by omega, ?_⟩; intro i y hy; have hil : i < xs.length + 1 := by
      obtain ⟨h, _⟩ := List.getElem?_eq_some_iff.1 hy; simpa using h
     have h2 : (cur.toList.take ((xs.length + 1) * 1))[i]? = some (.int .i64 y) := by
      rw [htk]; have : (xs.map (fun y : Int => Value.int .i64 y) ++ [.int .i64 k]) = (xs ++ [k]).map (fun y : Int => Value.int .i64 y) := by simp
      rw [this, List.getElem?_map, hy]; rfl
     rw [List.getElem?_take, if_pos (by omega)] at h2; rw [Nat.zero_add]; simpa using h2
def potF : List PIn → List Bool → Nat
 | x :: r, b :: fd => (if b = true then 0 else x.ents.length) + potF r fd
 | _, _ => 0
theorem potF_set : ∀ (xs : List PIn) (fd : List Bool) (k : Nat) (x : PIn), xs[k]? = some x → fd[k]? = some false → potF xs (fd.set k true) + x.ents.length = potF xs fd
 | [], _, _, _, h, _ => by simp at h
 | _ :: _, [], _, _, _, h => by simp at h
 | y :: r, b :: fd, 0, x, h1, h2 => by
   simp at h1 h2; subst h1; subst h2; simp [potF]; omega
 | y :: r, b :: fd, k + 1, x, h1, h2 => by
   have := potF_set r fd k x (by simpa using h1) (by simpa using h2); simp only [List.set_cons_succ, potF]; omega
def numsIf (x : PIn) : List Int := if x.dir = true then x.ents.map PEnt.num else []
def reachF (S : PSt) : Nat → List Int → List Bool → List Bool
 | 0, _, fd => fd
 | _ + 1, [], fd => fd
 | g + 1, n :: st, fd =>
   if atR S n < 0 then reachF S g st fd
   else if fd.getD (atR S n).toNat true = true then reachF S g st fd
   else match S.ins[(atR S n).toNat]? with
    | some x => reachF S g ((numsIf x).reverse ++ st) (fd.set (atR S n).toNat true)
    | none => fd
def reachR (S : PSt) : List Bool := reachF S (1 + potF S.ins (List.replicate S.ins.length false)) [1] (List.replicate S.ins.length false)
theorem potF_le (B : Nat) : ∀ (xs : List PIn) (fd : List Bool), (∀ x ∈ xs, x.ents.length ≤ B) → potF xs fd ≤ B * xs.length
 | [], _, _ => by simp [potF]
 | _ :: _, [], _ => by simp [potF]
 | x :: r, b :: fd, h => by
   have h1 := potF_le B r fd (fun y hy => h y (List.mem_cons_of_mem _ hy)); have h2 := h x (by simp); have h3 : B * (r.length + 1) = B * r.length + B := by rw [Nat.mul_add, Nat.mul_one]
   simp only [potF, List.length_cons]; rw [h3]
   split <;> omega
set_option maxRecDepth 100000 in
set_option maxHeartbeats 4000000 in
theorem reached28 (S : PSt) (iv ov mv : Value) (w : World) (h : StRead w iv ov mv S) (hwf : S.wf) (hsm : S.ins.length ≤ 300) :
 Calls Tryz.prog 59 #[.agg #[iv, ov, mv]] w fun e w' => ∃ F : Nat, e = .returned (.slice (some ⟨F, 0, none⟩) S.ins.length S.ins.length) ∧ Below w.heap.size w w' ∧ RowAt w' 1 (.slice (some ⟨F, 0, none⟩) S.ins.length S.ins.length) ((reachR S).map boolCells) := by
 have h51 : ∀ n ww, Below w.heap.size w ww → Calls Tryz.prog 85 #[.agg #[iv, ov, mv], .int .i64 n] ww fun e w' => e = .returned (.int .i64 (atR S n)) ∧ Below ww.heap.size ww w' := fun n ww hb => at51 S iv ov mv n ww (h.below hb (Nat.le_refl _)) hwf.1
 obtain ⟨ai, ni, ci, ao, no, co, am, nm, cm, rfl, rfl, rfl⟩ := h.slices
 obtain ⟨a, cap, e1, hai⟩ := h.ins_at2
 cases e1
 have HI := Lib.hid hai
 have HWF := Lib.hid hwf.2.2.2.1
 have hp12 : potF S.ins (List.replicate S.ins.length false) ≤ 300000000000 := by
  have h1 := potF_le 1000000000 S.ins (List.replicate S.ins.length false) (fun x hx => (hwf.2.2.2.1 x hx).2.1); have h2 : 1000000000 * S.ins.length ≤ 1000000000 * 300 := Nat.mul_le_mul_left _ hsm; omega
 clear h hai hwf
 obtain ⟨j0, ji, jz0, jz1, jz2⟩ := info_parts info4
 have hmk2 : ∀ u : World, (Instr.makeSlice 39 (.int .i64 S.ins.length) (.int .i64 S.ins.length)).run Tryz.prog u = .ok (.slice (some ⟨u.heap.size, 0, none⟩) S.ins.length S.ins.length) (u.alloc (.cells ((List.replicate S.ins.length false).map fun x => Value.bool x).toArray 4)) := fun u => by
  have := run_makeSlice (P := Tryz.prog) u 39 4 j0 _ Tryz.underlying39 ji jz0 .i64 .i64 S.ins.length S.ins.length (by omega) (Int.le_refl _) (by rw [jz1]; omega) (by rw [jz2]; omega) (by omega); rw [← made_map (fun x => Value.bool x)]; simpa [jz1, Value.cells] using this
 clear ji jz0 jz1 jz2
 obtain ⟨FF, hFF⟩ : ∃ FF, reachR S = FF := ⟨_, rfl⟩
 rw [hFF]
 unfold reachR at hFF
 obtain ⟨N, hN⟩ : ∃ N, 1 + potF S.ins (List.replicate S.ins.length false) = N := ⟨_, rfl⟩
 rw [hN] at hFF
 have hN12 : N ≤ 400000000000 := by omega
 have HFF := Lib.hid (And.intro hFF hN)
 clear hFF hN hp12
 obtain ⟨X, hX⟩ : ∃ X : Nat → Prop, X = fun g => g < w.heap.size + 1 + 1 := ⟨_, rfl⟩
 have hXX : ∀ g, X g ↔ g < w.heap.size + 1 + 1 := fun g => by rw [hX]
 have HX := Lib.hid hXX
 clear hXX
 clear hX
 go_enter Tryz.func59, Tryz.ntmps59
 go_wp2_with fail
 go_loopg [4] N (fun gk td wr => ∃ (st : List Int) (fd : List Bool), TodoI X wr td st.reverse ∧ fd.length = S.ins.length ∧ potF S.ins fd + st.length ≤ gk ∧ reachF S gk st fd = FF ∧ Below w.heap.size w wr ∧ Blk wr w.heap.size #[.slice ai S.ins.length ci, .slice ao no co, .slice am nm cm] 26 ∧ Blk wr (w.heap.size + 1) (fd.map fun x => Value.bool x).toArray 4 ∧ gk ≤ N)
 case atStart =>
  refine ⟨[1], List.replicate S.ins.length false, ?_, by simp, ?_, HFF.out.1, bel _ _, ((Blk.new w _ 26).alloc _).alloc _, ?_, Nat.le_refl _⟩
  · exact ⟨w.heap.size + 1 + 1, 0, 1, #[.int .i64 1], rfl, fun e => by have := (HX.out _).1 e; omega, Blk.new_i _ _ _ _, by simp, by simp, fun i x hx => by
     rcases i with _ | i
     · simp at hx; subst hx; rfl
     · simp at hx⟩
  · have := HFF.out.2; simp only [List.length_cons, List.length_nil]; omega
  · have := (Blk.new_i (w.alloc (.cells #[.slice ai S.ins.length ci, .slice ao no co, .slice am nm cm] 26)) (Array.replicate S.ins.length (.bool false)) 4 (w.heap.size + 1)).alloc (.cells #[.int .i64 1] 3); simpa using this
 case round =>
  obtain ⟨st, fd, hT, hfl, hpot, hre, hb, hbs, hbf, hgk⟩ := hrel
  rename World => wq
  have iB : Bel w wq := ⟨hb⟩
  have iL := hbs.lt; have iF := hbf.lt; have s0 := hbs.cell 0; have s1 := hbs.cell 1; have s2 := hbs.cell 2; simp at s0 s1 s2; obtain ⟨g, off, cap, arr, rfl, hng, hbk, hle, har, hel⟩ := hT; rcases st with _ | ⟨n, st⟩
  · have hff : fd = FF := by rw [← hre]; rcases gk with _ | gk <;> rfl
    subst hff; have HP := Lib.hid (And.intro hbf (And.intro hfl hb)); clear hbs hbf hre hpot hel; simp only [List.reverse_nil, List.length_nil] at *; go_wp2_with fail; refine bodyPost_ret (v := .slice (some ⟨w.heap.size + 1, 0, none⟩) S.ins.length S.ins.length) (by simp [results, Tryz.results59, go_sem]) rfl ⟨_, rfl, bel _ _, ?_⟩; have := RowAt.of_blk (cap := S.ins.length) (fun x => Value.bool x) fd HP.out.1 (by unfold maxLen; have := HP.out.2.1; omega); rw [HP.out.2.1] at this; exact this
  · rcases gk with _ | gk
    · simp at hpot
    obtain ⟨L, hL⟩ : ∃ L, st.length + 1 = L := ⟨_, rfl⟩
    have hlr : (n :: st).reverse.length = L := by simp [hL]
    have hn : arr[off + st.length]? = some (.int .i64 n) := hel st.length n (by simp); have hel' : ∀ (i : Nat) (x : Int), st.reverse[i]? = some x → arr[off + i]? = some (.int .i64 x) := fun i x hx => hel i x (by
     rw [List.reverse_cons, List.getElem?_append_left (by obtain ⟨h, _⟩ := List.getElem?_eq_some_iff.1 hx; exact h)]; exact hx)
    rw [hlr] at hle ⊢; have cg : wq.cell? ⟨g, off + st.length, none⟩ = some (.int .i64 n) := by rw [hbk.cell]; exact hn
    have iG := hbk.lt; have hTn : ∀ wr, Blk wr g arr 3 → TodoI X wr (.slice (some ⟨g, off, none⟩) st.length cap) st.reverse := fun wr hbk => ⟨g, off, cap, arr, by simp, hng, hbk, by simp; omega, har, hel'⟩
    have hb1 : (L : Int) - 1 = st.length := by omega
    have hmL : st.length < L := by omega
    have hLp : 0 < L := by omega
    have hsl : (st.length : Int) ≤ 400000000000 := by simp only [List.length_cons] at hpot; omega
    have w1 : IntKind.i64.wrap (st.length : Int) = st.length := I64.wrap ⟨by omega, by omega⟩; have hcap : (st.length : Int) ≤ cap := by omega
    have hcapN : st.length ≤ cap := by omega
    have h51n := fun ww hww => h51 n ww hww
    have hKb := atR_bounds S n; rw [reachF] at hre; have hc0 : ¬ cap = 0 := by omega
    have HB := Lib.hid (And.intro hbk (And.intro hbs (And.intro hbf (And.intro hfl (And.intro hTn hng))))); have hpot' : potF S.ins fd + st.length ≤ gk := by simp only [List.length_cons] at hpot; omega
    clear hL hel hel' hn hlr har hle hbk hbs hbf hTn hng hpot h51; generalize atR S n = K at hre h51n hKb
    go_upto_region 4 with fail
    refine wp_region_quiet_rest (by kernel_rfl) (by kernel_rfl) (WQ.out ?_)
    repeat
     refine WQ_step (fun K hK => ?_); go_simp
     first
      | (refine hK _ ?_; clear hK K)
      | (apply Exists.intro
         refine ⟨fun _ => ?_, hK _ ?_⟩
         focus ((with_reducible refine calls_in (h51n _ (bel _ _)) (fun w' hb => ?_); first | exact hb.rest | exact rest1 hb | exact rest2 hb))
         clear hK K)
    refine WQ_nil ?_; intro w1 hw1; obtain ⟨p, hw1⟩ := hw1; subst hw1; by_cases hK : K < 0
    · rw [if_pos hK] at hre; have HRE := Lib.hid hre; clear hre hKb; go_wp2_with fail
      go_roundg gk
      case rel => exact ⟨st, fd, HB.out.2.2.2.2.1 _ (HB.out.1.junk _), HB.out.2.2.2.1, by omega, HRE.out, bel _ _, HB.out.2.1.junk _, HB.out.2.2.1.junk _, by omega⟩
      case measure => omega
    · rw [if_neg hK] at hre; obtain ⟨k, rfl⟩ : ∃ k : Nat, K = k := ⟨K.toNat, by omega⟩
      have hk : k < S.ins.length := by omega
      obtain ⟨x, hx⟩ : ∃ x, S.ins[k]? = some x := ⟨_, List.getElem?_eq_getElem hk⟩
      obtain ⟨y, hy⟩ : ∃ y, fd[k]? = some y := ⟨_, List.getElem?_eq_getElem (by have := HB.out.2.2.2.1; omega)⟩
      have c3 : wq.cell? ⟨w.heap.size + 1, k, none⟩ = some (.bool y) := by rw [HB.out.2.2.1.cell k]; simp [hy]
      have f3 : wq.frozen? ⟨w.heap.size + 1, k, none⟩ = false := HB.out.2.2.1.frozen k; rw [Int.toNat_natCast, List.getD_eq_getElem?_getD, hy, Option.getD_some, hx] at hre; simp only at hre; have hkI : (k : Int) < S.ins.length := by omega
      clear hKb hK; rcases y with _ | _
      · rw [if_neg (by decide)] at hre; have hps := potF_set S.ins fd k x hx hy; obtain ⟨bi, oi, ev, rfl, iI0, hoi, her, hci⟩ := HI.out k x hx; obtain ⟨iI, x0, x1, x2, x3⟩ := hci wq hb; have hel := (HWF.out x (List.mem_of_getElem? hx)).2.1; obtain ⟨ae, ce, rfl, hae⟩ := her.at_; rw [List.length_map] at hci x2; obtain ⟨xn, xd, xe, xs⟩ := x; simp only at x1 x2 hae hci hel hps; have HC := Lib.hid (And.intro hae hci); have HRE := Lib.hid (And.intro hre hps); clear her hoi hae hci x0 x1 x2 x3 hx hy hre hps
        go_upto_region 9 with fail
        have hs0 : w.heap.size ≤ wq.heap.size := hb.size; have hTi : TodoI X (((wq.setCell ⟨w.heap.size + 1, k, none⟩ (.bool true)).junk p)) (.slice (some ⟨g, off, none⟩) st.length cap) st.reverse := HB.out.2.2.2.2.1 _ ((HB.out.1.far (fun e => HB.out.2.2.2.2.2 ((HX.out g).2 (by simp at e; omega))) _).junk _); have iFg : BlockGe (w.heap.size + 1) w := ⟨by omega⟩
        have hF2 : Blk ((wq.setCell ⟨w.heap.size + 1, k, none⟩ (.bool true)).junk p) (w.heap.size + 1) ((fd.set k true).map fun x => Value.bool x).toArray 4 := by
         have := (HB.out.2.2.1.set_ k (.bool true)).junk p; rw [List.setIfInBounds_toArray, ← List.map_set (f := fun x => Value.bool x)] at this; exact this
        have hS2 : Blk ((wq.setCell ⟨w.heap.size + 1, k, none⟩ (.bool true)).junk p) w.heap.size #[.slice (some ⟨bi, oi, none⟩) S.ins.length ci, .slice ao no co, .slice am nm cm] 26 := (HB.out.2.1.far (by show _ ≠ _; simp) _).junk p; have hb2 : Below w.heap.size w ((wq.setCell ⟨w.heap.size + 1, k, none⟩ (.bool true)).junk p) := bel _ _; have H2 := Lib.hid (And.intro hTi (And.intro hb2 (And.intro hS2 hF2))); clear hTi hF2 hS2 hb2 hs0
        go_loopw [4, 6] (fun v4 i wr => ∃ (j : Nat), i = .int .i64 j ∧ j ≤ xe.length ∧ (xd = false → j = 0) ∧ TodoI X wr v4 (st.reverse ++ (xe.take j).map PEnt.num) ∧ Below w.heap.size w wr ∧ Blk wr w.heap.size #[.slice (some ⟨bi, oi, none⟩) S.ins.length ci, .slice ao no co, .slice am nm cm] 26 ∧ Blk wr (w.heap.size + 1) ((fd.set k true).map fun x => Value.bool x).toArray 4) (fun _ i _ => (xe.length - intOf i).toNat)
        case atStart => exact ⟨0, rfl, by omega, fun _ => rfl, by simpa using H2.out.1, H2.out.2.1, H2.out.2.2.1, H2.out.2.2.2⟩
        case round =>
         clear s0 s1 s2 iB iL iF iI cg c3 f3 iG; obtain ⟨j, rfl, hj, hjd, hT, hb2, hS2, hF2⟩ := hrel; have iB : Bel w wr := ⟨hb2⟩
         have iL := hS2.lt; have iF := hF2.lt; have s0 := hS2.cell 0; simp at s0; obtain ⟨iI, x0, x1, x2, x3⟩ := HC.out.2 wr hb2; clear x0 x3; obtain ⟨g2, off2, cap2, arr2, rfl, -⟩ := id hT; have htl : (st.reverse ++ (xe.take j).map PEnt.num).length ≤ 1000000000000 := by
          rw [List.length_append, List.length_map, List.length_take, List.length_reverse]; omega
         generalize hxl : (st.reverse ++ (xe.take j).map PEnt.num).length = xl at hT htl ⊢; have hend : ∀ (wz : World), Bel w wz → (xd = false ∨ j = xe.length) → TodoI X wz (.slice (some ⟨g2, off2, none⟩) xl cap2) (st.reverse ++ (xe.take j).map PEnt.num) → Blk wz w.heap.size #[.slice (some ⟨bi, oi, none⟩) S.ins.length ci, .slice ao no co, .slice am nm cm] 26 → Blk wz (w.heap.size + 1) ((fd.set k true).map fun x => Value.bool x).toArray 4 →
          ∃ (st' : List Int) (fd' : List Bool), TodoI X wz (.slice (some ⟨g2, off2, none⟩) xl cap2) st'.reverse ∧ fd'.length = S.ins.length ∧ potF S.ins fd' + st'.length ≤ gk ∧ reachF S gk st' fd' = FF ∧ Below w.heap.size w wz ∧ Blk wz w.heap.size #[.slice (some ⟨bi, oi, none⟩) S.ins.length ci, .slice ao no co, .slice am nm cm] 26 ∧ Blk wz (w.heap.size + 1) (fd'.map fun x => Value.bool x).toArray 4 ∧ gk ≤ N := by
          intro wz i1 hc h1 h2 h3; have hL2 : (xe.take j).map PEnt.num = numsIf ⟨xn, xd, xe, xs⟩ := by
           rcases hc with rfl | rfl
           · rw [hjd rfl]; rfl
           · rcases xd with _ | _
             · rw [hjd rfl]; rfl
             · simp [numsIf]
          have hl3 : (numsIf ⟨xn, xd, xe, xs⟩).length ≤ xe.length := by rw [← hL2]; simp; omega
          refine ⟨(numsIf ⟨xn, xd, xe, xs⟩).reverse ++ st, fd.set k true, ?_, by rw [List.length_set]; exact HB.out.2.2.2.1, ?_, HRE.out.1, i1.below, h2, h3, by omega⟩
          · have e : ((numsIf ⟨xn, xd, xe, xs⟩).reverse ++ st).reverse = st.reverse ++ (xe.take j).map PEnt.num := by rw [hL2]; simp
            rw [e]; exact h1
          · have := HRE.out.2; rw [List.length_append, List.length_reverse]; omega
         have HE := Lib.hid hend; have HT := Lib.hid (And.intro hT (And.intro hS2 hF2)); have hXX : ∀ (wz : World), Bel w wz → BlockLt (w.heap.size + 1) wz → ∀ g, wz.heap.size ≤ g → ¬ X g := by
          intro wz i1 i2 g hg hx; have := (HX.out g).1 hx; have := i2.lt; omega
         have HXX := Lib.hid hXX; have HXL := Lib.hid hxl; clear hend hT hS2 hF2 hXX hxl; rcases xd with _ | _
         · obtain rfl := hjd rfl; by_cases h0 : 0 < xe.length
           · go_wp2_with fail
             go_roundg gk
             case rel => exact HE.out _ ⟨bel _ _⟩ (by simp) HT.out.1 HT.out.2.1 HT.out.2.2
             case measure => omega
           · go_wp2_with fail
             go_roundg gk
             case rel => exact HE.out _ ⟨bel _ _⟩ (by simp) HT.out.1 HT.out.2.1 HT.out.2.2
             case measure => omega
         · by_cases hlj : j < xe.length
           · obtain ⟨z, hz⟩ : ∃ z, xe[j]? = some z := ⟨_, List.getElem?_eq_getElem hlj⟩
             obtain ⟨be, oe, rfl, iE0, iE, hce⟩ := HC.out.1 wr hb2 j z.cells (by rw [List.getElem?_map, hz]; rfl); have e1 := hce 1 _ rfl; have htk : (xe.take (j + 1)).map PEnt.num = (xe.take j).map PEnt.num ++ [z.num] := by
              rw [List.take_add_one, hz]; simp
             have HK := Lib.hid htk; clear hce hz htk; have hljI : (j : Int) < xe.length := by omega
             go_wp2_with (at_builtin; refine wpList_append_todoI (by kernel_rfl) info3 _ rfl (.tmp 58) (.tmp 69) rfl X _ (st.reverse ++ (xe.take j).map PEnt.num) rfl (HT.out.1.alloc _) (HXX.out _ ⟨bel _ _⟩ inferInstance) _ _ z.num rfl (by go_simp) (by rw [HXL.out]; exact htl) ?_)
             intro v' w' hT3 hkp3; have HT3 := Lib.hid (And.intro hT3 hkp3); obtain ⟨g3, off3, cap3, arr3, rfl, -⟩ := id hT3; clear hT3 hkp3; go_wp2_with fail
             go_roundw
             case rel =>
              refine ⟨j + 1, by rfl, by omega, (fun h => by cases h), ?_, (bel w _).trans (HT3.out.2.below (bel w _).size (fun i hi hn => hn ((HX.out i).2 (by omega)))), ?_, ?_⟩
              · rw [HK.out]; simpa using HT3.out.1
              · exact HT3.out.2.blk (HT.out.2.1.alloc _) (fun hn => hn ((HX.out _).2 (by omega)))
              · exact HT3.out.2.blk (HT.out.2.2.alloc _) (fun hn => hn ((HX.out _).2 (by omega)))
             case measure => simp [intOf]; omega
           · have hje : j = xe.length := by omega
             have hljI : ¬ (j : Int) < xe.length := by omega
             go_wp2_with fail
             go_roundg gk
             case rel => have hz := HE.out _ ⟨bel _ _⟩ (.inr hje) HT.out.1 HT.out.2.1 HT.out.2.2; first | exact hz | simpa using hz
             case measure => omega
      · rw [if_pos rfl] at hre; have HRE := Lib.hid hre; clear hre hx hy; go_wp2_with fail
        go_roundg gk
        case rel => exact ⟨st, fd, HB.out.2.2.2.2.1 _ (HB.out.1.junk _), HB.out.2.2.2.1, by omega, HRE.out, bel _ _, HB.out.2.1.junk _, HB.out.2.2.1.junk _, by omega⟩
        case measure => omega
end Go.Proofs.YtmkapobnfigedaaGreatDoor
