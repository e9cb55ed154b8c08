/- Part of the proof that the calls that look alone commute. Conditions: none. -/
import Derived.Test.YtjkenolgkkknaaaGreatDoorLp26
set_option linter.unusedVariables false
set_option linter.unusedSimpArgs false
set_option maxRecDepth 100000
set_option maxHeartbeats 8000000
/- doer.file: the file of a descriptor. Conditions: none. -/
set_option linter.unusedVariables false
set_option linter.unusedSimpArgs false
namespace Go.Proofs.YtjkenolgkkknaaaGreatDoor
open Go.RowKit
set_option maxRecDepth 100000 in
theorem index45f (zs : List PDesc) (v : Value) (l0 : Value) (p : PDesc → Bool) (w : World) (h : RowAt w 3 v (zs.map PDesc.cells)) (hlen : zs.length ≤ 1000000000)
    (hg : ∀ (z : PDesc) (ww : World), z ∈ zs → Below w.heap.size w ww → Calls Tryz.prog 124 #[.agg #[.int .i64 z.core, .int .i64 z.fd, .int .i64 z.num], l0] ww fun e w' => e = .returned (.bool (p z)) ∧ Below ww.heap.size ww w') :
    Calls Tryz.prog 45 #[v, .func (.func 124) #[] #[l0]] w fun e w' => e = .returned (.int .i64 (idxM p zs)) ∧ Below w.heap.size w w' := by
  obtain ⟨a, cap, rfl, hat⟩ := h.at_
  rw [List.length_map]
  have HA := Lib.hid hat
  clear hat h
  unfold idxM
  obtain ⟨R, hR⟩ : ∃ R, idxFrom p zs 0 = R := ⟨_, rfl⟩
  rw [hR]
  have HR := Lib.hid hR
  clear hR
  go_enter Tryz.func45, Tryz.ntmps45
  go_wp2_with fail
  go_loopw [8] (fun i wr => ∃ (q : Nat), i = .int .i64 q ∧ q ≤ zs.length ∧ idxFrom p (zs.drop q) q = R ∧ Below w.heap.size w wr) (fun i _ => (zs.length - intOf i).toNat)
  case atStart => exact ⟨0, rfl, by omega, HR.out, bel _ _⟩
  case round =>
    obtain ⟨q, rfl, hq, hre, hb⟩ := hrel
    have iB : Bel w wr := ⟨hb⟩
    by_cases hlt : q < zs.length
    · obtain ⟨z, hz⟩ : ∃ z, zs[q]? = some z := ⟨_, List.getElem?_eq_getElem hlt⟩
      obtain ⟨b, off, rfl, iG0, iG, hc⟩ := HA.out wr hb q (PDesc.cells z) (by rw [List.getElem?_map, hz]; rfl)
      have c0 := hc 0 _ rfl
      have c1 := hc 1 _ rfl
      have c2 := hc 2 _ rfl
      rw [idxFrom_drop p zs q z hz] at hre
      have hcall : ∀ ww, Below w.heap.size w ww → Calls Tryz.prog 124 #[.agg #[.int .i64 z.core, .int .i64 z.fd, .int .i64 z.num], l0] ww fun e w' => e = .returned (.bool (p z)) ∧ Below ww.heap.size ww w' := fun ww hww => hg z ww (List.mem_of_getElem? hz) hww
      have HZ := Lib.hid (And.intro hz hre)
      clear hc hz hre hg
      rw [Nat.add_zero] at c0
      generalize hpz : p z = t at hcall HZ
      rcases t with _ | _
      · go_wp2_with (go_at_call 124; refine (hcall _ (bel _ _)).mono ?_; rintro e w' ⟨rfl, hb⟩; obtain ⟨p, rfl⟩ := hb.rest; clear hb)
        go_roundw
        case rel => exact ⟨q + 1, by go_num, by omega, by have := HZ.out.2; simpa using this, bel _ _⟩
        case measure => simp [intOf]; omega
      · have hv : R = q := by have := HZ.out.2; simpa using this.symm
        subst hv
        go_wp2_with (go_at_call 124; refine (hcall _ (bel _ _)).mono ?_; rintro e w' ⟨rfl, hb⟩; obtain ⟨p, rfl⟩ := hb.rest; clear hb)
        exact bodyPost_ret (v := .int .i64 q) (by simp [results, Tryz.results45, go_sem]) rfl ⟨rfl, bel _ _⟩
    · rw [idxFrom_end p zs q hlt] at hre
      subst hre
      clear hg
      go_wp2_with fail
      exact bodyPost_ret (v := .int .i64 (-1)) (by simp [results, Tryz.results45, go_sem]) rfl ⟨rfl, bel _ _⟩
def isFd (c : PCall) (x : PDesc) : Bool := (x.core == c.core) && (x.fd == c.fd)
set_option maxRecDepth 100000 in
theorem file124 (d b : Nat) (S : PSt) (c : PCall) (x : PDesc) (bx : Nat) (w : World) (h : DR w d b S c) (ib : BlockLt bx w) (hx : w.cell? ⟨bx, 0, none⟩ = some (.pointer (some ⟨d, 0, none⟩))) :
    Calls Tryz.prog 124 #[.agg #[.int .i64 x.core, .int .i64 x.fd, .int .i64 x.num], .pointer (some ⟨bx, 0, none⟩)] w fun e w' => e = .returned (.bool (isFd c x)) ∧ Below w.heap.size w w' := by
  have iD : BlockLt d w := ⟨h.lt⟩
  have c1 := h.dc 1 _ rfl
  have c2 := h.dc 2 _ rfl
  unfold isFd
  clear h
  generalize hb1 : (x.core == c.core) = b1
  rcases b1 with _ | _
  · go_enter Tryz.func124, Tryz.ntmps124
    go_wp2_with fail
    refine wp_region_quiet_rest (by kernel_rfl) (by kernel_rfl) ?_
    repeat
      first
        | go_big_quiet_skip
        | (go_big_quiet_want; go_big_quiet_op; first | go_big_quiet_on | (apply Exists.intro; refine ⟨fun _ => ?_, ?_⟩; (focus (fail)); go_big_quiet_on))
    refine wpQuiet_nil ?_
    intro w1 hw1
    obtain ⟨p, hw1⟩ := hw1
    subst hw1
    go_wp2_with fail
    go_ret
    exact ⟨rfl, bel _ _⟩
  · go_enter Tryz.func124, Tryz.ntmps124
    go_wp2_with fail
    refine wp_region_quiet_rest (by kernel_rfl) (by kernel_rfl) ?_
    repeat
      first
        | go_big_quiet_skip
        | (go_big_quiet_want; go_big_quiet_op; first | go_big_quiet_on | (apply Exists.intro; refine ⟨fun _ => ?_, ?_⟩; (focus (fail)); go_big_quiet_on))
    refine wpQuiet_nil ?_
    intro w1 hw1
    obtain ⟨p, hw1⟩ := hw1
    subst hw1
    go_wp2_with fail
    go_ret
    exact ⟨by first | rfl | simp_all, bel _ _⟩
/-- Where a descriptor leads: its file's inode and its place; or the code 4 is thrown. -/
def FileOut (w : World) (b : Nat) (S : PSt) (i : Int) (e : Ending) : Prop :=
  (0 ≤ i ∧ ∃ x bi off cap, S.op[i.toNat]? = some x ∧ w.cell? ⟨b, 0, none⟩ = some (.slice (some ⟨bi, off, none⟩) S.ins.length cap) ∧ e = .returned (.tuple #[.pointer (some ⟨bi, off + (findN S.nums x.num).toNat * 4, none⟩), .int .i64 i])) ∨ (i < 0 ∧ e = thrown 4)
set_option maxRecDepth 100000 in
set_option maxHeartbeats 2000000 in
theorem file73 (d b : Nat) (S : PSt) (c : PCall) (w : World) (h : DR w d b S c) (hf : Fine S) :
    Calls Tryz.prog 73 #[.pointer (some ⟨d, 0, none⟩)] w fun e w' => Below w.heap.size w w' ∧ FileOut w b S (idxM (isFd c) S.op) e := by
  have hsub : ∀ ww bx, Below w.heap.size w ww → BlockLt bx ww → ww.cell? ⟨bx, 0, none⟩ = some (.pointer (some ⟨d, 0, none⟩)) → ∀ ov, RowAt ww 3 ov (S.op.map PDesc.cells) → Calls Tryz.prog 45 #[ov, .func (.func 124) #[] #[.pointer (some ⟨bx, 0, none⟩)]] ww fun e w' => e = .returned (.int .i64 (idxM (isFd c) S.op)) ∧ Below ww.heap.size ww w' :=
    fun ww bx hb ib hx ov hv => index45f S.op ov (.pointer (some ⟨bx, 0, none⟩)) (isFd c) ww hv hf.wf.2.1 (fun z wz _ hz => file124 d b S c z bx wz (h.below (hb.trans (hz.mono hb.size)) (Nat.le_refl _)) ⟨by have := ib.lt; have := hz.size; omega⟩ ((hz.cell (p := ⟨bx, 0, none⟩) ib.lt).trans hx))
  have hfind : ∀ ww, Below w.heap.size w ww → ∀ n, Calls Tryz.prog 110 #[.pointer (some ⟨b, 0, none⟩), .int .i64 n] ww fun e w' => e = .returned (.int .i64 (findN S.nums n)) ∧ Below ww.heap.size ww w' :=
    fun ww hb n => find_sp b S n ww (h.sp.below hb (Nat.le_refl _)) hf.wf
  have iD : BlockLt d w := ⟨h.lt⟩
  have d0 := h.d0
  obtain ⟨hl, iv, ov, mv, c0, c1, c2, hr⟩ := h.sp
  have iL : BlockLt b w := ⟨hl⟩
  have hrow : ∀ ww, Below w.heap.size w ww → RowAt ww 3 ov (S.op.map PDesc.cells) := fun ww hb => hr.1.below hb (Nat.le_refl _)
  have hidx : ∀ ww bx, Below w.heap.size w ww → BlockLt bx ww → ww.cell? ⟨bx, 0, none⟩ = some (.pointer (some ⟨d, 0, none⟩)) → Calls Tryz.prog 45 #[ov, .func (.func 124) #[] #[.pointer (some ⟨bx, 0, none⟩)]] ww _ := fun ww bx hb i hx => hsub ww bx hb i hx ov (hrow ww hb)
  obtain ⟨ai, capi, rfl, hati⟩ := hr.ins_at2
  have hpos := hf.pos
  obtain ⟨bi, offi, ev, rfl, -⟩ := hati 0 S.ins[0] (List.getElem?_eq_getElem hpos)
  obtain ⟨ao, co, rfl, hato⟩ := hr.1.at_
  rw [List.length_map] at c1 hidx
  have hib := idxM_bounds (isFd c) S.op
  generalize idxM (isFd c) S.op = I at hidx hib ⊢
  have HH := Lib.hid (And.intro hati hato)
  have HC0 := Lib.hid c0
  have hlen := hf.wf.2.1
  have hlin := hf.wf.1
  have HF := Lib.hid hf
  clear hsub hrow hr hati hato h hf c2
  by_cases hI : I < 0
  · have hIb : decide (I < 0) = true := decide_eq_true hI
    go_enter Tryz.func73, Tryz.ntmps73
    go_wp2_with (first | (go_at_call 45; refine (hidx _ _ (bel _ _) inferInstance (by go_simp)).mono ?_; rintro e w' ⟨rfl, hb⟩; obtain ⟨p, rfl⟩ := hb.rest; clear hb) | (go_at_call 115; refine (throw_yes _ _).mono ?_; rintro e w' ⟨rfl, hb⟩; obtain ⟨p, rfl⟩ := hb.rest; clear hb))
    exact ⟨rfl, bel w _, .inr ⟨hI, rfl⟩⟩
  · have hIb : decide (I < 0) = false := decide_eq_false hI
    obtain ⟨k, rfl⟩ : ∃ k : Nat, I = k := ⟨I.toNat, by omega⟩
    have hkl : k < S.op.length := by omega
    obtain ⟨x, hx⟩ : ∃ x, S.op[k]? = some x := ⟨_, List.getElem?_eq_getElem hkl⟩
    obtain ⟨bo, offo, rfl, iO0, -, hco⟩ := HH.out.2 w (bel _ _) k x.cells (by rw [List.getElem?_map, hx]; rfl)
    have o2 := hco 2 _ rfl
    have hfx := HF.out.opens x (List.mem_of_getElem? hx)
    have hfb := findN_bounds S.nums x.num
    have hnl : S.nums.length = S.ins.length := by unfold PSt.nums; rw [List.length_map]
    have hfn : ∀ ww, Below w.heap.size w ww → Calls Tryz.prog 110 #[.pointer (some ⟨b, 0, none⟩), .int .i64 x.num] ww _ := fun ww hb => hfind ww hb x.num
    generalize hfv : findN S.nums x.num = fv at hfn hfx hfb
    obtain ⟨f, rfl⟩ : ∃ f : Nat, fv = f := ⟨fv.toNat, by omega⟩
    have hfl : (f : Int) < S.ins.length := by omega
    have hklI : (k : Int) < S.op.length := by omega
    have HX := Lib.hid (And.intro hx hfv)
    clear hx hfv hco hfind hfb hnl hfx
    go_enter Tryz.func73, Tryz.ntmps73
    go_wp2_with (first | (go_at_call 45; refine (hidx _ _ (bel _ _) inferInstance (by go_simp)).mono ?_; rintro e w' ⟨rfl, hb⟩; obtain ⟨p, rfl⟩ := hb.rest; clear hb) | (go_at_call 115; refine (throw_no _ _).mono ?_; rintro e w' ⟨rfl, hb⟩; obtain ⟨p, rfl⟩ := hb.rest; clear hb))
    refine wp_region_quiet_rest (by kernel_rfl) (by kernel_rfl) ?_
    repeat
      first
        | go_big_quiet_skip
        | (go_big_quiet_want; go_big_quiet_op; first | go_big_quiet_on | (apply Exists.intro; refine ⟨fun _ => ?_, ?_⟩; (focus ((refine calls_in (hfn _ (bel _ _)) (fun w' hb => ?_); first | exact hb.rest | exact rest1 hb | exact rest2 hb))); go_big_quiet_on))
    refine wpQuiet_nil ?_
    intro w1 hw1
    obtain ⟨p, hw1⟩ := hw1
    subst hw1
    go_wp2_with fail
    refine bodyPost_ret (v := .tuple #[.pointer (some ⟨bi, offi + f * 4, none⟩), .int .i64 k]) (by simp [results, Tryz.results73, go_sem]) rfl ⟨bel w _, .inl ⟨by omega, x, bi, offi, capi, HX.out.1, HC0.out, ?_⟩⟩
    rw [HX.out.2]
    rfl
end Go.Proofs.YtjkenolgkkknaaaGreatDoor
/- model.Same: are two results one? Conditions: none. -/
set_option linter.unusedVariables false
set_option linter.unusedSimpArgs false
namespace Go.Proofs.YtjkenolgkkknaaaGreatDoor
open Go.RowKit
def eqL : List ByteArray → List ByteArray → Bool
  | [], _ => true
  | _ :: _, [] => true
  | x :: r, y :: s => if (x.toList == y.toList) = true then eqL r s else false
def eqNames (xs ys : List ByteArray) : Bool := decide (xs.length = ys.length) && eqL xs ys
set_option maxRecDepth 100000 in
set_option maxHeartbeats 2000000 in
theorem equal42 (xs ys : List ByteArray) (v u : Value) (w : World) (hv : RowAt w 1 v (xs.map strCells)) (hu : RowAt w 1 u (ys.map strCells)) (hl : xs.length ≤ 1000000000) :
    Calls Tryz.prog 42 #[v, u] w fun e w' => e = .returned (.bool (eqNames xs ys)) ∧ Below w.heap.size w w' := by
  obtain ⟨a, ca, rfl, hat⟩ := hv.at_
  obtain ⟨b, cb, rfl, hbt⟩ := hu.at_
  rw [List.length_map, List.length_map]
  have HA := Lib.hid (And.intro hat hbt)
  clear hat hbt hv hu
  unfold eqNames
  by_cases hlen : xs.length = ys.length
  · rw [decide_eq_true hlen, Bool.true_and]
    obtain ⟨R, hR⟩ : ∃ R, eqL xs ys = R := ⟨_, rfl⟩
    rw [hR]
    have HR := Lib.hid hR
    have HL := Lib.hid hlen
    clear hR hlen
    rw [← HL.out]
    go_enter Tryz.func42, Tryz.ntmps42
    go_wp2_with fail
    go_loopw [13] (fun i wr => ∃ (q : Nat), i = .int .i64 q ∧ q ≤ xs.length ∧ eqL (xs.drop q) (ys.drop q) = R ∧ Below w.heap.size w wr) (fun i _ => (xs.length - intOf i).toNat)
    case atStart => exact ⟨0, rfl, by omega, HR.out, bel _ _⟩
    case round =>
      obtain ⟨q, rfl, hq, hre, hb⟩ := hrel
      have iB : Bel w wr := ⟨hb⟩
      by_cases hlt : q < xs.length
      · obtain ⟨x, hx⟩ : ∃ x, xs[q]? = some x := ⟨_, List.getElem?_eq_getElem hlt⟩
        obtain ⟨y, hy⟩ : ∃ y, ys[q]? = some y := ⟨_, List.getElem?_eq_getElem (by have := HL.out; omega)⟩
        rw [drop_at hx, drop_at hy] at hre
        unfold eqL at hre
        obtain ⟨bx, ox, rfl, iX0, iX, hcx⟩ := HA.out.1 wr hb q (strCells x) (by rw [List.getElem?_map, hx]; rfl)
        obtain ⟨by_, oy, rfl, iY0, iY, hcy⟩ := HA.out.2 wr hb q (strCells y) (by rw [List.getElem?_map, hy]; rfl)
        have x0 := hcx 0 _ rfl
        have y0 := hcy 0 _ rfl
        rw [Nat.mul_one, Nat.add_zero] at x0 y0
        generalize hxy : (x.toList == y.toList) = bb at hre
        clear hx hy hcx hcy
        rcases bb with _ | _
        · simp only [Bool.false_eq_true, if_false] at hre
          subst hre
          go_wp2_with fail
          refine wp_region_quiet_rest (by kernel_rfl) (by kernel_rfl) ?_
          repeat
            first
              | go_big_quiet_skip
              | (go_big_quiet_want; go_big_quiet_op; first | go_big_quiet_on | (apply Exists.intro; refine ⟨fun _ => ?_, ?_⟩; (focus (fail)); go_big_quiet_on))
          refine wpQuiet_nil ?_
          intro w1 hw1
          obtain ⟨p, hw1⟩ := hw1
          subst hw1
          go_wp2_with fail
          exact bodyPost_ret (v := .bool false) (by simp [results, Tryz.results42, go_sem]) rfl ⟨rfl, bel _ _⟩
        · simp only [if_true] at hre
          have HRE := Lib.hid hre
          clear hre
          go_wp2_with fail
          refine wp_region_quiet_rest (by kernel_rfl) (by kernel_rfl) ?_
          repeat
            first
              | go_big_quiet_skip
              | (go_big_quiet_want; go_big_quiet_op; first | go_big_quiet_on | (apply Exists.intro; refine ⟨fun _ => ?_, ?_⟩; (focus (fail)); go_big_quiet_on))
          refine wpQuiet_nil ?_
          intro w1 hw1
          obtain ⟨p, hw1⟩ := hw1
          subst hw1
          go_wp2_with fail
          go_roundw
          case rel => exact ⟨q + 1, by go_num, by omega, HRE.out, bel _ _⟩
          case measure => simp [intOf]; omega
      · have hqe : q = xs.length := by omega
        rw [List.drop_of_length_le (by omega)] at hre
        have hRt : R = true := by rw [← hre]; rfl
        subst hRt
        clear hre hqe
        go_wp2_with fail
        exact bodyPost_ret (v := .bool true) (by simp [results, Tryz.results42, go_sem]) rfl ⟨rfl, bel _ _⟩
  · rw [decide_eq_false hlen, Bool.false_and]
    have hlI : ¬ (xs.length : Int) = ys.length := by omega
    have hlb : ((xs.length : Int) != ys.length) = true := by simp; omega
    go_enter Tryz.func42, Tryz.ntmps42
    go_wp2_with fail
    go_ret
    exact ⟨rfl, bel _ _⟩
def PRes.val (r : PRes) (nv : Value) : Value := .agg #[.int .i64 r.code, .int .i64 r.fd, .int .i64 r.num, .bool r.dir, .string r.data, nv]
def sameM (a b : PRes) : Bool := (a.code == b.code) && (a.fd == b.fd) && (a.num == b.num) && (a.dir == b.dir) && (a.data.toList == b.data.toList) && eqNames a.names b.names
set_option maxRecDepth 100000 in
set_option maxHeartbeats 2000000 in
theorem same21 (a b : PRes) (v u : Value) (w : World) (hv : RowAt w 1 v (a.names.map strCells)) (hu : RowAt w 1 u (b.names.map strCells)) (hl : a.names.length ≤ 1000000000) :
    Calls Tryz.prog 21 #[a.val v, b.val u] w fun e w' => e = .returned (.bool (sameM a b)) ∧ Below w.heap.size w w' := by
  have heq : ∀ ww, Below w.heap.size w ww → Calls Tryz.prog 42 #[v, u] ww _ := fun ww hb => equal42 a.names b.names v u ww (hv.below hb (Nat.le_refl _)) (hu.below hb (Nat.le_refl _)) hl
  have ov := hv.one
  have ou := hu.one
  unfold sameM PRes.val
  generalize eqNames a.names b.names = E at heq ⊢
  clear hv hu
  generalize h1 : (a.code == b.code) = b1
  generalize h2 : (a.fd == b.fd) = b2
  generalize h3 : (a.num == b.num) = b3
  generalize h4 : (a.dir == b.dir) = b4
  generalize h5 : (a.data.toList == b.data.toList) = b5
  rcases b1 with _ | _
  · simp only [Bool.false_and]
    go_enter Tryz.func21, Tryz.ntmps21
    go_wp2_with fail
    go_ret
    exact ⟨rfl, bel _ _⟩
  rcases b2 with _ | _
  · simp only [Bool.true_and, Bool.false_and]
    go_enter Tryz.func21, Tryz.ntmps21
    go_wp2_with fail
    go_ret
    exact ⟨rfl, bel _ _⟩
  rcases b3 with _ | _
  · simp only [Bool.true_and, Bool.false_and]
    go_enter Tryz.func21, Tryz.ntmps21
    go_wp2_with fail
    go_ret
    exact ⟨rfl, bel _ _⟩
  rcases b4 with _ | _
  · simp only [Bool.true_and, Bool.false_and]
    go_enter Tryz.func21, Tryz.ntmps21
    go_wp2_with fail
    go_ret
    exact ⟨rfl, bel _ _⟩
  rcases b5 with _ | _
  · simp only [Bool.true_and, Bool.false_and]
    go_enter Tryz.func21, Tryz.ntmps21
    go_wp2_with fail
    go_ret
    exact ⟨rfl, bel _ _⟩
  simp only [Bool.true_and]
  go_enter Tryz.func21, Tryz.ntmps21
  go_wp2_with ((go_at_call 42; refine (heq _ (bel _ _)).mono ?_; rintro e w' ⟨rfl, hb⟩; obtain ⟨p, rfl⟩ := hb.rest; clear hb))
  go_ret
  exact ⟨rfl, bel _ _⟩
end Go.Proofs.YtjkenolgkkknaaaGreatDoor
/- commute.asked. Conditions: none. -/
set_option linter.unusedVariables false
set_option linter.unusedSimpArgs false
namespace Go.Proofs.YtjkenolgkkknaaaGreatDoor
open Go.RowKit
/-- A pointer to a call: its block, from the first cell on. -/
def CP (w : World) (k : Nat) (c : PCall) : Prop := k < w.heap.size ∧ ∀ (t : Nat) (u : Value), c.cells[t]? = some u → w.cell? ⟨k, t, none⟩ = some u
theorem CP.below {w w' : World} {k B : Nat} {c : PCall} (h : CP w k c) (hb : Below B w w') (hB : w.heap.size ≤ B) : CP w' k c := by
  have hs := hb.size
  have hl := h.1
  exact ⟨by omega, fun t u hu => (hb.cell (p := ⟨k, t, none⟩) (by show k < B; omega)).trans (h.2 t u hu)⟩
def kindB (S : PSt) (c : PCall) : Bool := decide (0 ≤ c.kind) && decide (c.kind ≤ 16) && decide (0 ≤ c.core) && decide (c.core < S.made.length)
set_option maxRecDepth 100000 in
theorem kind36 (bx b k : Nat) (S : PSt) (c : PCall) (w : World) (h : SP w b S) (hk : CP w k c) (ib : BlockLt bx w) (hx : w.cell? ⟨bx, 0, none⟩ = some (.pointer (some ⟨b, 0, none⟩))) :
    Calls Tryz.prog 36 #[.pointer (some ⟨k, 0, none⟩), .pointer (some ⟨bx, 0, none⟩)] w fun e w' => e = .returned (.bool (kindB S c)) ∧ Below w.heap.size w w' := by
  have iK : BlockLt k w := ⟨hk.1⟩
  have k0 := hk.2 0 _ rfl
  have k1 := hk.2 1 _ rfl
  obtain ⟨hl, iv, ov, mv, c0, c1, c2, hr⟩ := h
  have iL : BlockLt b w := ⟨hl⟩
  obtain ⟨am, cm, rfl, -⟩ := hr.2.1
  rw [List.length_map] at c2
  unfold kindB
  clear hr hk
  by_cases g1 : 0 ≤ c.kind
  · have b1 : decide (0 ≤ c.kind) = true := decide_eq_true g1
    by_cases g2 : c.kind ≤ 16
    · have b2 : decide (c.kind ≤ 16) = true := decide_eq_true g2
      by_cases g3 : 0 ≤ c.core
      · have b3 : decide (0 ≤ c.core) = true := decide_eq_true g3
        by_cases g4 : c.core < S.made.length
        · have b4 : decide (c.core < (S.made.length : Int)) = true := decide_eq_true g4
          simp only [b1, b2, b3, b4, Bool.true_and]
          go_enter Tryz.func36, Tryz.ntmps36
          go_wp2_with fail
          refine wp_region_quiet_rest (by kernel_rfl) (by kernel_rfl) ?_
          repeat
            first
              | go_big_quiet_skip
              | (go_big_quiet_want; go_big_quiet_op; first | go_big_quiet_on | (apply Exists.intro; refine ⟨fun _ => ?_, ?_⟩; (focus (fail)); go_big_quiet_on))
          refine wpQuiet_nil ?_
          intro w1 hw1
          obtain ⟨p, hw1⟩ := hw1
          subst hw1
          go_wp2_with fail
          go_ret
          exact ⟨rfl, bel _ _⟩
        · have b4 : decide (c.core < (S.made.length : Int)) = false := decide_eq_false g4
          simp only [b1, b2, b3, b4, Bool.true_and]
          go_enter Tryz.func36, Tryz.ntmps36
          go_wp2_with fail
          refine wp_region_quiet_rest (by kernel_rfl) (by kernel_rfl) ?_
          repeat
            first
              | go_big_quiet_skip
              | (go_big_quiet_want; go_big_quiet_op; first | go_big_quiet_on | (apply Exists.intro; refine ⟨fun _ => ?_, ?_⟩; (focus (fail)); go_big_quiet_on))
          refine wpQuiet_nil ?_
          intro w1 hw1
          obtain ⟨p, hw1⟩ := hw1
          subst hw1
          go_wp2_with fail
          go_ret
          exact ⟨rfl, bel _ _⟩
      · have b3 : decide (0 ≤ c.core) = false := decide_eq_false g3
        simp only [b1, b2, b3, Bool.true_and, Bool.false_and]
        go_enter Tryz.func36, Tryz.ntmps36
        go_wp2_with fail
        refine wp_region_quiet_rest (by kernel_rfl) (by kernel_rfl) ?_
        repeat
          first
            | go_big_quiet_skip
            | (go_big_quiet_want; go_big_quiet_op; first | go_big_quiet_on | (apply Exists.intro; refine ⟨fun _ => ?_, ?_⟩; (focus (fail)); go_big_quiet_on))
        refine wpQuiet_nil ?_
        intro w1 hw1
        obtain ⟨p, hw1⟩ := hw1
        subst hw1
        go_wp2_with fail
        go_ret
        exact ⟨rfl, bel _ _⟩
    · have b2 : decide (c.kind ≤ 16) = false := decide_eq_false g2
      simp only [b1, b2, Bool.true_and, Bool.false_and]
      go_enter Tryz.func36, Tryz.ntmps36
      go_wp2_with fail
      refine wp_region_quiet_rest (by kernel_rfl) (by kernel_rfl) ?_
      repeat
        first
          | go_big_quiet_skip
          | (go_big_quiet_want; go_big_quiet_op; first | go_big_quiet_on | (apply Exists.intro; refine ⟨fun _ => ?_, ?_⟩; (focus (fail)); go_big_quiet_on))
      refine wpQuiet_nil ?_
      intro w1 hw1
      obtain ⟨p, hw1⟩ := hw1
      subst hw1
      go_wp2_with fail
      go_ret
      exact ⟨rfl, bel _ _⟩
  · have b1 : decide (0 ≤ c.kind) = false := decide_eq_false g1
    simp only [b1, Bool.false_and]
    go_enter Tryz.func36, Tryz.ntmps36
    go_wp2_with fail
    refine wp_region_quiet_rest (by kernel_rfl) (by kernel_rfl) ?_
    repeat
      first
        | go_big_quiet_skip
        | (go_big_quiet_want; go_big_quiet_op; first | go_big_quiet_on | (apply Exists.intro; refine ⟨fun _ => ?_, ?_⟩; (focus (fail)); go_big_quiet_on))
    refine wpQuiet_nil ?_
    intro w1 hw1
    obtain ⟨p, hw1⟩ := hw1
    subst hw1
    go_wp2_with fail
    go_ret
    exact ⟨rfl, bel _ _⟩
def askedM (S : PSt) (a b : PCall) : Bool := mayM S && kindB S a && kindB S b && (a.core != b.core)
set_option maxRecDepth 100000 in
set_option maxHeartbeats 2000000 in
theorem asked19 (b ka kb : Nat) (S : PSt) (x y : PCall) (w : World) (h : SP w b S) (hwf : S.wf) (hx : CP w ka x) (hy : CP w kb y) :
    Calls Tryz.prog 19 #[.pointer (some ⟨b, 0, none⟩), .pointer (some ⟨ka, 0, none⟩), .pointer (some ⟨kb, 0, none⟩)] w fun e w' => e = .returned (.bool (askedM S x y)) ∧ Below w.heap.size w w' := by
  have hmf : ∀ (fn : Fn) (first cap : Array Value) (w : World), (Instr.makeFunc fn first cap).run Tryz.prog w = .ok (.func fn first cap) w := fun _ _ _ _ => rfl
  have iA : BlockLt ka w := ⟨hx.1⟩
  have iY : BlockLt kb w := ⟨hy.1⟩
  have a1 := hx.2 1 _ rfl
  have y1 := hy.2 1 _ rfl
  have HS := Lib.hid (And.intro h (And.intro hx hy))
  have hk : ∀ ww bx, Below w.heap.size w ww → BlockLt bx ww → ww.cell? ⟨bx, 0, none⟩ = some (.pointer (some ⟨b, 0, none⟩)) → Calls Tryz.prog 36 #[.pointer (some ⟨ka, 0, none⟩), .pointer (some ⟨bx, 0, none⟩)] ww _ := fun ww bx hb ib hc => kind36 bx b ka S x ww (h.below hb (Nat.le_refl _)) (hx.below hb (Nat.le_refl _)) ib hc
  have hk2 : ∀ ww bx, Below w.heap.size w ww → BlockLt bx ww → ww.cell? ⟨bx, 0, none⟩ = some (.pointer (some ⟨b, 0, none⟩)) → Calls Tryz.prog 36 #[.pointer (some ⟨kb, 0, none⟩), .pointer (some ⟨bx, 0, none⟩)] ww _ := fun ww bx hb ib hc => kind36 bx b kb S y ww (h.below hb (Nat.le_refl _)) (hy.below hb (Nat.le_refl _)) ib hc
  obtain ⟨hl, iv, ov, mv, c0, c1, c2, hr⟩ := h
  have iL : BlockLt b w := ⟨hl⟩
  have hmay : ∀ ww, Below w.heap.size w ww → Calls Tryz.prog 37 #[.agg #[iv, ov, mv]] ww _ := fun ww hb => may37 iv ov mv S ww (hr.below hb (Nat.le_refl _)) hwf
  have hio : iv.oneCell' = true := by obtain ⟨_, _, _, h3, _⟩ := hr; exact h3.one
  have hoo := hr.1.one
  have hmo := hr.2.1.one
  unfold askedM
  generalize mayM S = m1 at hmay ⊢
  generalize kindB S x = m2 at hk ⊢
  generalize kindB S y = m3 at hk2 ⊢
  generalize hne : (x.core != y.core) = m4
  clear hr hwf hx hy
  rcases m1 with _ | _
  · simp only [Bool.false_and]
    go_enter Tryz.func19, Tryz.ntmps19
    go_wp2_with fail
    refine wp_region_quiet_rest (by kernel_rfl) (by kernel_rfl) ?_
    repeat
      first
        | go_big_quiet_skip
        | (go_big_quiet_want; go_big_quiet_op; first | go_big_quiet_on | (apply Exists.intro; refine ⟨fun _ => ?_, ?_⟩; (focus ((with_reducible refine calls_in (hmay _ (bel _ _)) (fun w' hb => ?_); first | exact hb.rest | exact rest1 hb | exact rest2 hb))); go_big_quiet_on))
    refine wpQuiet_nil ?_
    intro w1 hw1
    obtain ⟨p, hw1⟩ := hw1
    subst hw1
    go_wp2_with fail
    go_ret
    exact ⟨rfl, bel _ _⟩
  rcases m2 with _ | _
  · simp only [Bool.true_and, Bool.false_and]
    go_enter Tryz.func19, Tryz.ntmps19
    go_wp2_with fail
    refine wp_region_quiet_rest (by kernel_rfl) (by kernel_rfl) ?_
    repeat
      first
        | go_big_quiet_skip
        | (go_big_quiet_want; go_big_quiet_op; first | go_big_quiet_on | (apply Exists.intro; refine ⟨fun _ => ?_, ?_⟩; (focus (first | (with_reducible refine calls_in (hmay _ (bel _ _)) (fun w' hb => ?_); first | exact hb.rest | exact rest1 hb | exact rest2 hb) | (with_reducible refine calls_in (hk _ _ (bel _ _) inferInstance (by go_simp)) (fun w' hb => ?_); first | exact hb.rest | exact rest1 hb | exact rest2 hb))); go_big_quiet_on))
    refine wpQuiet_nil ?_
    intro w1 hw1
    obtain ⟨p, hw1⟩ := hw1
    subst hw1
    go_wp2_with fail
    go_ret
    exact ⟨rfl, bel _ _⟩
  rcases m3 with _ | _
  · simp only [Bool.true_and, Bool.false_and]
    go_enter Tryz.func19, Tryz.ntmps19
    go_wp2_with fail
    refine wp_region_quiet_rest (by kernel_rfl) (by kernel_rfl) ?_
    repeat
      first
        | go_big_quiet_skip
        | (go_big_quiet_want; go_big_quiet_op; first | go_big_quiet_on | (apply Exists.intro; refine ⟨fun _ => ?_, ?_⟩; (focus (first | (with_reducible refine calls_in (hmay _ (bel _ _)) (fun w' hb => ?_); first | exact hb.rest | exact rest1 hb | exact rest2 hb) | (with_reducible refine calls_in (hk _ _ (bel _ _) inferInstance (by go_simp)) (fun w' hb => ?_); first | exact hb.rest | exact rest1 hb | exact rest2 hb) | (with_reducible refine calls_in (hk2 _ _ (bel _ _) inferInstance (by go_simp)) (fun w' hb => ?_); first | exact hb.rest | exact rest1 hb | exact rest2 hb))); go_big_quiet_on))
    refine wpQuiet_nil ?_
    intro w1 hw1
    obtain ⟨p, hw1⟩ := hw1
    subst hw1
    go_wp2_with fail
    go_ret
    exact ⟨rfl, bel _ _⟩
  simp only [Bool.true_and]
  go_enter Tryz.func19, Tryz.ntmps19
  go_wp2_with fail
  refine wp_region_quiet_rest (by kernel_rfl) (by kernel_rfl) ?_
  repeat
    first
      | go_big_quiet_skip
      | (go_big_quiet_want; go_big_quiet_op; first | go_big_quiet_on | (apply Exists.intro; refine ⟨fun _ => ?_, ?_⟩; (focus (first | (with_reducible refine calls_in (hmay _ (bel _ _)) (fun w' hb => ?_); first | exact hb.rest | exact rest1 hb | exact rest2 hb) | (with_reducible refine calls_in (hk _ _ (bel _ _) inferInstance (by go_simp)) (fun w' hb => ?_); first | exact hb.rest | exact rest1 hb | exact rest2 hb) | (with_reducible refine calls_in (hk2 _ _ (bel _ _) inferInstance (by go_simp)) (fun w' hb => ?_); first | exact hb.rest | exact rest1 hb | exact rest2 hb))); go_big_quiet_on))
  refine wpQuiet_nil ?_
  intro w1 hw1
  obtain ⟨p, hw1⟩ := hw1
  subst hw1
  go_wp2_with fail
  go_ret
  exact ⟨by first | rfl | simp_all, bel _ _⟩
end Go.Proofs.YtjkenolgkkknaaaGreatDoor
/- commute.Commute, whatever the four calls come to. Conditions: none. -/
set_option linter.unusedVariables false
set_option linter.unusedSimpArgs false
namespace Go.Proofs.YtjkenolgkkknaaaGreatDoor
open Go.RowKit
/-- A call, done at a state, wherever it lies. -/
def Did (S : PSt) (c : PCall) (S' : PSt) (r : PRes) : Prop := ∀ (w : World) (iv ov mv : Value), StRead w iv ov mv S → Calls Tryz.prog 20 #[.agg #[iv, ov, mv], .agg #[.int .i64 c.kind, .int .i64 c.core, .int .i64 c.fd, .int .i64 c.off, .int .i64 c.num, .string c.path, .string c.path2, .string c.data]] w fun e w' => Below w.heap.size w w' ∧ DoneAt w.heap.size S' r e w'
theorem CP.of_blk {w : World} {k : Nat} {c : PCall} (h : Blk w k #[.int .i64 c.kind, .int .i64 c.core, .int .i64 c.fd, .int .i64 c.off, .int .i64 c.num, .string c.path, .string c.path2, .string c.data] 29) : CP w k c :=
  ⟨h.lt.lt, fun t u hu => by rw [h.cell]; simpa [PCall.cells] using hu⟩
set_option maxRecDepth 100000 in
set_option maxHeartbeats 4000000 in
theorem commute_not (iv ov mv : Value) (S : PSt) (x y : PCall) (w : World) (h : StRead w iv ov mv S) (hwf : S.wf) (hno : askedM S x y = false) :
    Calls Tryz.prog 9 #[.agg #[iv, ov, mv], x.val, y.val] w fun e w' => e = .returned (.bool false) ∧ Below w.heap.size w w' := by
  have hio : iv.oneCell' = true := by obtain ⟨_, _, _, h3, _⟩ := h; exact h3.one
  have hoo := h.1.one
  have hmo := h.2.1.one
  have hask : ∀ ww k1 k2 k3, Below w.heap.size w ww → Blk ww k1 #[iv, ov, mv] 27 → Blk ww k2 #[.int .i64 x.kind, .int .i64 x.core, .int .i64 x.fd, .int .i64 x.off, .int .i64 x.num, .string x.path, .string x.path2, .string x.data] 29 → Blk ww k3 #[.int .i64 y.kind, .int .i64 y.core, .int .i64 y.fd, .int .i64 y.off, .int .i64 y.num, .string y.path, .string y.path2, .string y.data] 29 →
      Calls Tryz.prog 19 #[.pointer (some ⟨k1, 0, none⟩), .pointer (some ⟨k2, 0, none⟩), .pointer (some ⟨k3, 0, none⟩)] ww fun e w' => e = .returned (.bool false) ∧ Below ww.heap.size ww w' := fun ww k1 k2 k3 hb h1 h2 h3 => by
    have := asked19 k1 k2 k3 S x y ww (SP.of_blk h1 (h.below hb (Nat.le_refl _))) hwf (CP.of_blk h2) (CP.of_blk h3)
    rw [hno] at this
    exact this
  clear h hwf hno
  unfold PCall.val
  go_enter Tryz.func9, Tryz.ntmps9
  go_wp2_with (go_at_call 19; refine (hask _ _ _ _ (bel _ _) (by repeat (first | exact Blk.new_i _ _ _ _ | refine Blk.alloc ?_ _)) (by repeat (first | exact Blk.new_i _ _ _ _ | refine Blk.alloc ?_ _)) (by repeat (first | exact Blk.new_i _ _ _ _ | refine Blk.alloc ?_ _))).mono ?_; rintro e w' ⟨rfl, hb⟩; obtain ⟨p, rfl⟩ := hb.rest; clear hb)
  go_ret
  exact ⟨rfl, bel _ _⟩
/-- What lies from a number on is the same. -/
class Above (N : Nat) (a w : World) : Prop where
  eq : ∀ k, N ≤ k → k < a.heap.size → w.heap[k]? = a.heap[k]?
  size : a.heap.size ≤ w.heap.size
instance {X X' : World} {p : Behind} {n : Nat} [h : SizeIs X n] [h' : SizeIs X' n] : Above X.heap.size (X.junk p) (X'.junk p) := ⟨fun k hk _ => by
  have e1 := h.eq
  have e2 := h'.eq
  simp only [World.junk]
  rw [Array.getElem?_append_right (by omega), Array.getElem?_append_right (by omega), e1, e2], by
  have e1 := h.eq
  have e2 := h'.eq
  rw [World.size_junk0, World.size_junk0, e1, e2]
  exact Nat.le_refl _⟩
instance {N : Nat} {a w : World} {o : Obj} [h : Above N a w] : Above N a (w.alloc o) := ⟨fun k hk hl => by rw [RowKit.Below.heap_alloc w o k (Nat.lt_of_lt_of_le hl h.size)]; exact h.eq k hk hl, by have := h.size; simp; omega⟩
instance {N : Nat} {a w : World} {q : Behind} [h : Above N a w] : Above N a (w.junk q) := ⟨fun k hk hl => by rw [World.heap_junk w q (Nat.lt_of_lt_of_le hl h.size)]; exact h.eq k hk hl, by have := h.size; rw [World.size_junk0]; omega⟩
theorem OwnP.above {N : Nat} {w : World} {e : TypeId} {k : Nat} {v : Value} {rows : List (List Value)} (h : OwnP N w e k v rows) (w' : World) [ha : Above N w w'] : OwnP N w' e k v rows := by
  rcases h with h | ⟨g, cap, cur, rfl, hg, hb, r⟩
  · exact .inl h
  · exact .inr ⟨g, cap, cur, rfl, hg, (ha.eq g hg hb.lt.lt).trans hb, r⟩
theorem StOwn.above {N : Nat} {w : World} {iv ov mv : Value} {S : PSt} (h : StOwn N w iv ov mv S) (w' : World) [ha : Above N w w'] : StOwn N w' iv ov mv S := by
  obtain ⟨h1, h2, is, h3, h4, h5, h6⟩ := h
  exact ⟨h1.above w', h2.above w', is, h3.above w', h4, fun q r x hr hx => by
    obtain ⟨a1, a2, a3, a4⟩ := h5 q r x hr hx
    exact ⟨a1, a2, a3, a4.above w'⟩, h6⟩
theorem same21x (a b : PRes) (v u : Value) (s : Bool) (hs : sameM a b = s) (w : World) (hv : RowAt w 1 v (a.names.map strCells)) (hu : RowAt w 1 u (b.names.map strCells)) (hl : a.names.length ≤ 1000000000) :
    Calls Tryz.prog 21 #[.agg #[.int .i64 a.code, .int .i64 a.fd, .int .i64 a.num, .bool a.dir, .string a.data, v], .agg #[.int .i64 b.code, .int .i64 b.fd, .int .i64 b.num, .bool b.dir, .string b.data, u]] w fun e w' => e = .returned (.bool s) ∧ Below w.heap.size w w' := by
  rw [← hs]
  exact same21 a b v u w hv hu hl
set_option maxRecDepth 100000 in
set_option maxHeartbeats 8000000 in
theorem commute_yes (iv ov mv : Value) (S S1 S2 S3 S4 : PSt) (x y : PCall) (r t u v : PRes) (sh : Bool) (w : World) (h : StRead w iv ov mv S) (hwf : S.wf) (hyes : askedM S x y = true)
    (D1 : Did S x S1 r) (D2 : Did S1 y S2 t) (D3 : Did S y S3 u) (D4 : Did S3 x S4 v) (hr : r.names.length ≤ 1000000000) (ht : t.names.length ≤ 1000000000)
    (hsh : sameM r v = true → sameM t u = true → ∀ (ww : World) (iv ov mv iv' ov' mv' : Value), Below w.heap.size w ww → StRead ww iv ov mv S2 → StRead ww iv' ov' mv' S4 → Calls Tryz.prog 22 #[.agg #[iv, ov, mv], .agg #[iv', ov', mv']] ww fun e w' => e = .returned (.bool sh) ∧ Below ww.heap.size ww w') :
    Calls Tryz.prog 9 #[.agg #[iv, ov, mv], x.val, y.val] w fun e w' => e = .returned (.bool (sameM r v && sameM t u && sh)) ∧ Below w.heap.size w w' := by
  have hio : iv.oneCell' = true := by obtain ⟨_, _, _, h3, _⟩ := h; exact h3.one
  have hoo := h.1.one
  have hmo := h.2.1.one
  have hask : ∀ ww k1 k2 k3, Below w.heap.size w ww → Blk ww k1 #[iv, ov, mv] 27 → Blk ww k2 #[.int .i64 x.kind, .int .i64 x.core, .int .i64 x.fd, .int .i64 x.off, .int .i64 x.num, .string x.path, .string x.path2, .string x.data] 29 → Blk ww k3 #[.int .i64 y.kind, .int .i64 y.core, .int .i64 y.fd, .int .i64 y.off, .int .i64 y.num, .string y.path, .string y.path2, .string y.data] 29 →
      Calls Tryz.prog 19 #[.pointer (some ⟨k1, 0, none⟩), .pointer (some ⟨k2, 0, none⟩), .pointer (some ⟨k3, 0, none⟩)] ww fun e w' => e = .returned (.bool true) ∧ Below ww.heap.size ww w' := fun ww k1 k2 k3 hb h1 h2 h3 => by
    have := asked19 k1 k2 k3 S x y ww (SP.of_blk h1 (h.below hb (Nat.le_refl _))) hwf (CP.of_blk h2) (CP.of_blk h3)
    rw [hyes] at this
    exact this
  have HS := Lib.hid h
  clear h hwf hyes
  unfold PCall.val
  generalize h1 : sameM r v = s1
  generalize h2 : sameM t u = s2
  rcases s1 with _ | _
  · simp only [Bool.false_and]
    go_enter Tryz.func9, Tryz.ntmps9
    go_upto_region 3 with (go_at_call 19; refine (hask _ _ _ _ (bel _ _) (by repeat (first | exact Blk.new_i _ _ _ _ | refine Blk.alloc ?_ _)) (by repeat (first | exact Blk.new_i _ _ _ _ | refine Blk.alloc ?_ _)) (by repeat (first | exact Blk.new_i _ _ _ _ | refine Blk.alloc ?_ _))).mono ?_; rintro e w' ⟨rfl, hb⟩; obtain ⟨p, rfl⟩ := hb.rest; clear hb)
    go_upto_region 4 with (go_at_call 20; refine (D1 _ _ _ _ (HS.out.below (bel w _) (Nat.le_refl _))).mono ?_; rintro e wa ⟨hb, iv1, ov1, mv1, nv1, rfl, hs1, hn1⟩; obtain ⟨pa, rfl⟩ := hb.rest; clear hb; have hr1 := hs1.read; obtain ⟨a11, a12, a13, a14, a15, a16, a17, a18, a19, rfl, rfl, rfl⟩ := hs1.forms; have hn1r := hn1.row; obtain ⟨n11, n12, n13, rfl⟩ := hn1.form; (try simp only [World.junk_junk] at hr1 hn1r); have H1 := Lib.hid (And.intro hr1 hn1r); clear hs1 hn1 hr1 hn1r)
    go_upto_region 5 with (go_at_call 20; refine (D2 _ _ _ _ (H1.out.1.below (bel _ _) (Nat.le_refl _))).mono ?_; rintro e wa ⟨hb, iv1, ov1, mv1, nv1, rfl, hs1, hn1⟩; obtain ⟨pa, rfl⟩ := hb.rest; clear hb; have hr1 := hs1; obtain ⟨a21, a22, a23, a24, a25, a26, a27, a28, a29, rfl, rfl, rfl⟩ := hs1.forms; have hn1r := hn1; obtain ⟨n21, n22, n23, rfl⟩ := hn1.form; have H2 := Lib.hid (And.intro hr1 hn1r); clear hs1 hn1 hr1 hn1r)
    go_upto_region 6 with (go_at_call 20; refine (D3 _ _ _ _ (HS.out.below (bel w _) (Nat.le_refl _))).mono ?_; rintro e wa ⟨hb, iv1, ov1, mv1, nv1, rfl, hs1, hn1⟩; obtain ⟨pa, rfl⟩ := hb.rest; clear hb; have hr1 := hs1.read; obtain ⟨a31, a32, a33, a34, a35, a36, a37, a38, a39, rfl, rfl, rfl⟩ := hs1.forms; have hn1r := hn1.row; obtain ⟨n31, n32, n33, rfl⟩ := hn1.form; (try simp only [World.junk_junk] at hr1 hn1r); have H3 := Lib.hid (And.intro hr1 hn1r); clear hs1 hn1 hr1 hn1r)
    go_upto_region 7 with (go_at_call 20; refine (D4 _ _ _ _ (H3.out.1.below (bel _ _) (Nat.le_refl _))).mono ?_; rintro e wa ⟨hb, iv1, ov1, mv1, nv1, rfl, hs1, hn1⟩; obtain ⟨pa, rfl⟩ := hb.rest; clear hb; have hr1 := hs1; obtain ⟨a41, a42, a43, a44, a45, a46, a47, a48, a49, rfl, rfl, rfl⟩ := hs1.forms; have hn1r := hn1; obtain ⟨n41, n42, n43, rfl⟩ := hn1.form; have H4 := Lib.hid (And.intro hr1 hn1r); clear hs1 hn1 hr1 hn1r)
    go_wp2_with (first | (go_at_call 21; with_reducible refine (same21x r v _ _ _ h1 _ (H1.out.2.below (bel _ _) (Nat.le_refl _)) (H4.out.2.above _).row hr).mono ?_; rintro e w' ⟨rfl, hb⟩; obtain ⟨p, rfl⟩ := hb.rest; clear hb) | (go_at_call 21; with_reducible refine (same21x t u _ _ _ h2 _ (H2.out.2.above _).row (H3.out.2.below (bel _ _) (Nat.le_refl _)) ht).mono ?_; rintro e w' ⟨rfl, hb⟩; obtain ⟨p, rfl⟩ := hb.rest; clear hb))
    go_ret
    exact ⟨rfl, bel w _⟩
  rcases s2 with _ | _
  · simp only [Bool.true_and, Bool.false_and]
    go_enter Tryz.func9, Tryz.ntmps9
    go_upto_region 3 with (go_at_call 19; refine (hask _ _ _ _ (bel _ _) (by repeat (first | exact Blk.new_i _ _ _ _ | refine Blk.alloc ?_ _)) (by repeat (first | exact Blk.new_i _ _ _ _ | refine Blk.alloc ?_ _)) (by repeat (first | exact Blk.new_i _ _ _ _ | refine Blk.alloc ?_ _))).mono ?_; rintro e w' ⟨rfl, hb⟩; obtain ⟨p, rfl⟩ := hb.rest; clear hb)
    go_upto_region 4 with (go_at_call 20; refine (D1 _ _ _ _ (HS.out.below (bel w _) (Nat.le_refl _))).mono ?_; rintro e wa ⟨hb, iv1, ov1, mv1, nv1, rfl, hs1, hn1⟩; obtain ⟨pa, rfl⟩ := hb.rest; clear hb; have hr1 := hs1.read; obtain ⟨a11, a12, a13, a14, a15, a16, a17, a18, a19, rfl, rfl, rfl⟩ := hs1.forms; have hn1r := hn1.row; obtain ⟨n11, n12, n13, rfl⟩ := hn1.form; (try simp only [World.junk_junk] at hr1 hn1r); have H1 := Lib.hid (And.intro hr1 hn1r); clear hs1 hn1 hr1 hn1r)
    go_upto_region 5 with (go_at_call 20; refine (D2 _ _ _ _ (H1.out.1.below (bel _ _) (Nat.le_refl _))).mono ?_; rintro e wa ⟨hb, iv1, ov1, mv1, nv1, rfl, hs1, hn1⟩; obtain ⟨pa, rfl⟩ := hb.rest; clear hb; have hr1 := hs1; obtain ⟨a21, a22, a23, a24, a25, a26, a27, a28, a29, rfl, rfl, rfl⟩ := hs1.forms; have hn1r := hn1; obtain ⟨n21, n22, n23, rfl⟩ := hn1.form; have H2 := Lib.hid (And.intro hr1 hn1r); clear hs1 hn1 hr1 hn1r)
    go_upto_region 6 with (go_at_call 20; refine (D3 _ _ _ _ (HS.out.below (bel w _) (Nat.le_refl _))).mono ?_; rintro e wa ⟨hb, iv1, ov1, mv1, nv1, rfl, hs1, hn1⟩; obtain ⟨pa, rfl⟩ := hb.rest; clear hb; have hr1 := hs1.read; obtain ⟨a31, a32, a33, a34, a35, a36, a37, a38, a39, rfl, rfl, rfl⟩ := hs1.forms; have hn1r := hn1.row; obtain ⟨n31, n32, n33, rfl⟩ := hn1.form; (try simp only [World.junk_junk] at hr1 hn1r); have H3 := Lib.hid (And.intro hr1 hn1r); clear hs1 hn1 hr1 hn1r)
    go_upto_region 7 with (go_at_call 20; refine (D4 _ _ _ _ (H3.out.1.below (bel _ _) (Nat.le_refl _))).mono ?_; rintro e wa ⟨hb, iv1, ov1, mv1, nv1, rfl, hs1, hn1⟩; obtain ⟨pa, rfl⟩ := hb.rest; clear hb; have hr1 := hs1; obtain ⟨a41, a42, a43, a44, a45, a46, a47, a48, a49, rfl, rfl, rfl⟩ := hs1.forms; have hn1r := hn1; obtain ⟨n41, n42, n43, rfl⟩ := hn1.form; have H4 := Lib.hid (And.intro hr1 hn1r); clear hs1 hn1 hr1 hn1r)
    go_wp2_with (first | (go_at_call 21; with_reducible refine (same21x r v _ _ _ h1 _ (H1.out.2.below (bel _ _) (Nat.le_refl _)) (H4.out.2.above _).row hr).mono ?_; rintro e w' ⟨rfl, hb⟩; obtain ⟨p, rfl⟩ := hb.rest; clear hb) | (go_at_call 21; with_reducible refine (same21x t u _ _ _ h2 _ (H2.out.2.above _).row (H3.out.2.below (bel _ _) (Nat.le_refl _)) ht).mono ?_; rintro e w' ⟨rfl, hb⟩; obtain ⟨p, rfl⟩ := hb.rest; clear hb))
    go_ret
    exact ⟨rfl, bel w _⟩
  have hsh2 := hsh h1 h2
  clear hsh
  simp only [Bool.true_and]
  go_enter Tryz.func9, Tryz.ntmps9
  go_upto_region 3 with (go_at_call 19; refine (hask _ _ _ _ (bel _ _) (by repeat (first | exact Blk.new_i _ _ _ _ | refine Blk.alloc ?_ _)) (by repeat (first | exact Blk.new_i _ _ _ _ | refine Blk.alloc ?_ _)) (by repeat (first | exact Blk.new_i _ _ _ _ | refine Blk.alloc ?_ _))).mono ?_; rintro e w' ⟨rfl, hb⟩; obtain ⟨p, rfl⟩ := hb.rest; clear hb)
  go_upto_region 4 with (go_at_call 20; refine (D1 _ _ _ _ (HS.out.below (bel w _) (Nat.le_refl _))).mono ?_; rintro e wa ⟨hb, iv1, ov1, mv1, nv1, rfl, hs1, hn1⟩; obtain ⟨pa, rfl⟩ := hb.rest; clear hb; have hr1 := hs1.read; obtain ⟨a11, a12, a13, a14, a15, a16, a17, a18, a19, rfl, rfl, rfl⟩ := hs1.forms; have hn1r := hn1.row; obtain ⟨n11, n12, n13, rfl⟩ := hn1.form; (try simp only [World.junk_junk] at hr1 hn1r); have H1 := Lib.hid (And.intro hr1 hn1r); clear hs1 hn1 hr1 hn1r)
  go_upto_region 5 with (go_at_call 20; refine (D2 _ _ _ _ (H1.out.1.below (bel _ _) (Nat.le_refl _))).mono ?_; rintro e wa ⟨hb, iv1, ov1, mv1, nv1, rfl, hs1, hn1⟩; obtain ⟨pa, rfl⟩ := hb.rest; clear hb; have hr1 := hs1; obtain ⟨a21, a22, a23, a24, a25, a26, a27, a28, a29, rfl, rfl, rfl⟩ := hs1.forms; have hn1r := hn1; obtain ⟨n21, n22, n23, rfl⟩ := hn1.form; have H2 := Lib.hid (And.intro hr1 hn1r); clear hs1 hn1 hr1 hn1r)
  go_upto_region 6 with (go_at_call 20; refine (D3 _ _ _ _ (HS.out.below (bel w _) (Nat.le_refl _))).mono ?_; rintro e wa ⟨hb, iv1, ov1, mv1, nv1, rfl, hs1, hn1⟩; obtain ⟨pa, rfl⟩ := hb.rest; clear hb; have hr1 := hs1.read; obtain ⟨a31, a32, a33, a34, a35, a36, a37, a38, a39, rfl, rfl, rfl⟩ := hs1.forms; have hn1r := hn1.row; obtain ⟨n31, n32, n33, rfl⟩ := hn1.form; (try simp only [World.junk_junk] at hr1 hn1r); have H3 := Lib.hid (And.intro hr1 hn1r); clear hs1 hn1 hr1 hn1r)
  go_upto_region 7 with (go_at_call 20; refine (D4 _ _ _ _ (H3.out.1.below (bel _ _) (Nat.le_refl _))).mono ?_; rintro e wa ⟨hb, iv1, ov1, mv1, nv1, rfl, hs1, hn1⟩; obtain ⟨pa, rfl⟩ := hb.rest; clear hb; have hr1 := hs1; obtain ⟨a41, a42, a43, a44, a45, a46, a47, a48, a49, rfl, rfl, rfl⟩ := hs1.forms; have hn1r := hn1; obtain ⟨n41, n42, n43, rfl⟩ := hn1.form; have H4 := Lib.hid (And.intro hr1 hn1r); clear hs1 hn1 hr1 hn1r)
  go_wp2_with (first | (go_at_call 21; with_reducible refine (same21x r v _ _ _ h1 _ (H1.out.2.below (bel _ _) (Nat.le_refl _)) (H4.out.2.above _).row hr).mono ?_; rintro e w' ⟨rfl, hb⟩; obtain ⟨p, rfl⟩ := hb.rest; clear hb) | (go_at_call 21; with_reducible refine (same21x t u _ _ _ h2 _ (H2.out.2.above _).row (H3.out.2.below (bel _ _) (Nat.le_refl _)) ht).mono ?_; rintro e w' ⟨rfl, hb⟩; obtain ⟨p, rfl⟩ := hb.rest; clear hb) | (go_at_call 22; refine (hsh2 _ _ _ _ _ _ _ (bel w _) (H2.out.1.above _).read (H4.out.1.above _).read).mono ?_; rintro e w' ⟨rfl, hb⟩; obtain ⟨p, rfl⟩ := hb.rest; clear hb))
  go_ret
  exact ⟨rfl, bel w _⟩
end Go.Proofs.YtjkenolgkkknaaaGreatDoor
/- The reference's New and Num. Conditions: none. -/
set_option linter.unusedVariables false
set_option linter.unusedSimpArgs false
namespace Go.Proofs.YtjkenolgkkknaaaGreatDoor
open Go.RowKit
theorem num12 (n : Int) (w : World) : Calls Tryz.prog 12 #[.int .i64 n] w fun e w' => e = .returned (.int .i64 n) ∧ Below w.heap.size w w' := by
  go_enter Tryz.func12, Tryz.ntmps12
  go_wp2_with fail
  go_ret
  exact ⟨rfl, bel _ _⟩
/-- The empty state of n cores. -/
def newSt (n : Nat) : PSt := ⟨[⟨1, true, [], { data := #[] }⟩], [], List.replicate n 0⟩
theorem made_map' {α : Type} (f : α → Value) (z : α) (n : Nat) : madeCells #[f z] n = ((List.replicate n z).map f).toArray := by
  apply Array.toList_inj.1
  rw [toList_madeCells_one]
  simp
theorem RowAt.of_blk1 {w : World} {b : Nat} {t : TypeId} (xs : List Int) (cap : Nat) (h : Blk w b (xs.map fun x => Value.int .i64 x).toArray t) (hm : xs.length ≤ maxLen) : RowAt w 1 (.slice (some ⟨b, 0, none⟩) xs.length cap) (xs.map intCells) := by
  refine ⟨_, _, by rw [List.length_map], by rw [List.length_map]; exact hm, fun _ => ⟨b, 0, rfl, h.lt.lt, fun q cs hq t u hu => ?_⟩⟩
  rw [List.getElem?_map] at hq
  obtain ⟨x, hx, rfl⟩ := Option.map_eq_some_iff.1 hq
  rcases t with _ | t
  · simp only [intCells, List.getElem?_cons_zero, Option.some.injEq] at hu
    subst hu
    rw [h.cell]
    simp [hx]
  · simp [intCells] at hu
set_option maxRecDepth 100000 in
set_option maxHeartbeats 2000000 in
theorem new11 (n : Nat) (h1 : 1 ≤ n) (h8 : n ≤ 8) (w : World) :
    Calls Tryz.prog 11 #[.int .i64 n] w fun e w' => ∃ iv ov mv, e = .returned (.tuple #[.agg #[iv, ov, mv], .int .i64 0]) ∧ Below w.heap.size w w' ∧ StRead w' iv ov mv (newSt n) := by
  obtain ⟨i0, hi, hz0, hz1, hz2⟩ := info_parts info3
  have hmk : ∀ u : World, (Instr.makeSlice 25 (.int .i64 n) (.int .i64 n)).run Tryz.prog u = .ok (.slice (some ⟨u.heap.size, 0, none⟩) n n) (u.alloc (.cells ((List.replicate n (0 : Int)).map fun x => Value.int .i64 x).toArray 3)) := fun u => by
    have := run_makeSlice (P := Tryz.prog) u 25 3 i0 _ Tryz.underlying25 hi hz0 .i64 .i64 n n (by omega) (Int.le_refl _) (by rw [hz1]; omega) (by rw [hz2]; omega) (by omega)
    rw [← made_map' (fun x => Value.int .i64 x)]
    simpa [hz1, Value.cells] using this
  have g1 : ¬ (n : Int) < 1 := by omega
  have g2 : ¬ (8 : Int) < n := by omega
  go_enter Tryz.func11, Tryz.ntmps11
  go_wp2_with fail
  refine bodyPost_ret (v := .tuple #[.agg #[.slice (some ⟨w.heap.size + 1, 0, none⟩) 1 1, .slice none 0 0, .slice (some ⟨w.heap.size + 1 + 1, 0, none⟩) n n], .int .i64 0]) (by unfold results; simp only [Tryz.results11]; go_simp) rfl ⟨_, _, _, rfl, bel _ _, ?_, ?_, [⟨1, true, .slice none 0 0, { data := #[] }, rfl⟩], ?_, rfl, ?_⟩
  · exact ⟨none, 0, rfl, by simp [newSt], fun h => absurd h (by simp [newSt])⟩
  · have hb3 : Blk (((w.alloc (.cells #[.slice (some ⟨w.heap.size + 1, 0, none⟩) 1 1, .slice none 0 0, .slice (some ⟨w.heap.size + 1 + 1, 0, none⟩) n n] 27)).alloc (.cells #[.int .i64 1, .bool true, .slice none 0 0, .string { data := #[] }] 65)).alloc (.cells (Array.replicate n (.int .i64 0)) 3)) (w.heap.size + 1 + 1) (Array.replicate n (.int .i64 0)) 3 := Blk.new_i ((w.alloc (.cells #[.slice (some ⟨w.heap.size + 1, 0, none⟩) 1 1, .slice none 0 0, .slice (some ⟨w.heap.size + 1 + 1, 0, none⟩) n n] 27)).alloc (.cells #[.int .i64 1, .bool true, .slice none 0 0, .string { data := #[] }] 65)) _ _ _
    have := RowAt.of_blk1 (b := w.heap.size + 1 + 1) (t := 3) (List.replicate n (0 : Int)) n (by simpa using hb3) (by rw [List.length_replicate]; unfold maxLen; omega)
    rw [List.length_replicate] at this
    exact this
  · refine ⟨_, _, rfl, by unfold maxLen; simp, fun _ => ⟨w.heap.size + 1, 0, rfl, by simp, fun q cs hq t u hu => ?_⟩⟩
    rcases q with _ | q
    · simp only [List.map_cons, List.map_nil, List.getElem?_cons_zero, Option.some.injEq] at hq
      subst hq
      have hb : Blk ((((w.alloc (.cells #[.slice (some ⟨w.heap.size + 1, 0, none⟩) 1 1, .slice none 0 0, .slice (some ⟨w.heap.size + 1 + 1, 0, none⟩) n n] 27)).alloc (.cells #[.int .i64 1, .bool true, .slice none 0 0, .string { data := #[] }] 65))).alloc (.cells ((List.replicate n (0 : Int)).map fun x => Value.int .i64 x).toArray 3)) (w.heap.size + 1) #[.int .i64 1, .bool true, .slice none 0 0, .string { data := #[] }] 65 := (Blk.new_i (w.alloc (.cells #[.slice (some ⟨w.heap.size + 1, 0, none⟩) 1 1, .slice none 0 0, .slice (some ⟨w.heap.size + 1 + 1, 0, none⟩) n n] 27)) _ _ _).alloc _
      have := (hb.cell t).trans (by simpa [IRec.cells] using hu)
      simpa using this
    · simp at hq
  · intro q r x hr hx
    rcases q with _ | q
    · cases hr
      cases hx
      exact ⟨rfl, rfl, rfl, ⟨none, 0, rfl, by simp, fun h => absurd h (by simp)⟩⟩
    · simp at hr
end Go.Proofs.YtjkenolgkkknaaaGreatDoor
