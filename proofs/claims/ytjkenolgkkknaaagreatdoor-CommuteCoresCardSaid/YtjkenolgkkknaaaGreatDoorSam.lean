/- model.Same: are two results one? Conditions: none. -/
import Derived.Test.YtjkenolgkkknaaaGreatDoorTel
set_option linter.unusedVariables false
set_option linter.unusedSimpArgs false
namespace Go.Proofs.YtjkenolgkkknaaaGreatDoor
open Go.RowKit
def eqL : List ByteArray → List ByteArray → Bool
  | [], _ => true
  | _ :: _, [] => true
  | x :: r, y :: s => if (x.toList == y.toList) = true then eqL r s else false
def eqNames (xs ys : List ByteArray) : Bool := decide (xs.length = ys.length) && eqL xs ys
set_option maxRecDepth 100000 in
set_option maxHeartbeats 2000000 in
theorem equal42 (xs ys : List ByteArray) (v u : Value) (w : World) (hv : RowAt w 1 v (xs.map strCells)) (hu : RowAt w 1 u (ys.map strCells)) (hl : xs.length ≤ 1000000000) :
    Calls Tryz.prog 42 #[v, u] w fun e w' => e = .returned (.bool (eqNames xs ys)) ∧ Below w.heap.size w w' := by
  obtain ⟨a, ca, rfl, hat⟩ := hv.at_
  obtain ⟨b, cb, rfl, hbt⟩ := hu.at_
  rw [List.length_map, List.length_map]
  have HA := Lib.hid (And.intro hat hbt)
  clear hat hbt hv hu
  unfold eqNames
  by_cases hlen : xs.length = ys.length
  · rw [decide_eq_true hlen, Bool.true_and]
    obtain ⟨R, hR⟩ : ∃ R, eqL xs ys = R := ⟨_, rfl⟩
    rw [hR]
    have HR := Lib.hid hR
    have HL := Lib.hid hlen
    clear hR hlen
    rw [← HL.out]
    go_enter Tryz.func42, Tryz.ntmps42
    go_wp2_with fail
    go_loopw [13] (fun i wr => ∃ (q : Nat), i = .int .i64 q ∧ q ≤ xs.length ∧ eqL (xs.drop q) (ys.drop q) = R ∧ Below w.heap.size w wr) (fun i _ => (xs.length - intOf i).toNat)
    case atStart => exact ⟨0, rfl, by omega, HR.out, bel _ _⟩
    case round =>
      obtain ⟨q, rfl, hq, hre, hb⟩ := hrel
      have iB : Bel w wr := ⟨hb⟩
      by_cases hlt : q < xs.length
      · obtain ⟨x, hx⟩ : ∃ x, xs[q]? = some x := ⟨_, List.getElem?_eq_getElem hlt⟩
        obtain ⟨y, hy⟩ : ∃ y, ys[q]? = some y := ⟨_, List.getElem?_eq_getElem (by have := HL.out; omega)⟩
        rw [drop_at hx, drop_at hy] at hre
        unfold eqL at hre
        obtain ⟨bx, ox, rfl, iX0, iX, hcx⟩ := HA.out.1 wr hb q (strCells x) (by rw [List.getElem?_map, hx]; rfl)
        obtain ⟨by_, oy, rfl, iY0, iY, hcy⟩ := HA.out.2 wr hb q (strCells y) (by rw [List.getElem?_map, hy]; rfl)
        have x0 := hcx 0 _ rfl
        have y0 := hcy 0 _ rfl
        rw [Nat.mul_one, Nat.add_zero] at x0 y0
        generalize hxy : (x.toList == y.toList) = bb at hre
        clear hx hy hcx hcy
        rcases bb with _ | _
        · simp only [Bool.false_eq_true, if_false] at hre
          subst hre
          go_wp2_with fail
          refine wp_region_quiet_rest (by kernel_rfl) (by kernel_rfl) ?_
          repeat
            first
              | go_big_quiet_skip
              | (go_big_quiet_want; go_big_quiet_op; first | go_big_quiet_on | (apply Exists.intro; refine ⟨fun _ => ?_, ?_⟩; (focus (fail)); go_big_quiet_on))
          refine wpQuiet_nil ?_
          intro w1 hw1
          obtain ⟨p, hw1⟩ := hw1
          subst hw1
          go_wp2_with fail
          exact bodyPost_ret (v := .bool false) (by simp [results, Tryz.results42, go_sem]) rfl ⟨rfl, bel _ _⟩
        · simp only [if_true] at hre
          have HRE := Lib.hid hre
          clear hre
          go_wp2_with fail
          refine wp_region_quiet_rest (by kernel_rfl) (by kernel_rfl) ?_
          repeat
            first
              | go_big_quiet_skip
              | (go_big_quiet_want; go_big_quiet_op; first | go_big_quiet_on | (apply Exists.intro; refine ⟨fun _ => ?_, ?_⟩; (focus (fail)); go_big_quiet_on))
          refine wpQuiet_nil ?_
          intro w1 hw1
          obtain ⟨p, hw1⟩ := hw1
          subst hw1
          go_wp2_with fail
          go_roundw
          case rel => exact ⟨q + 1, by go_num, by omega, HRE.out, bel _ _⟩
          case measure => simp [intOf]; omega
      · have hqe : q = xs.length := by omega
        rw [List.drop_of_length_le (by omega)] at hre
        have hRt : R = true := by rw [← hre]; rfl
        subst hRt
        clear hre hqe
        go_wp2_with fail
        exact bodyPost_ret (v := .bool true) (by simp [results, Tryz.results42, go_sem]) rfl ⟨rfl, bel _ _⟩
  · rw [decide_eq_false hlen, Bool.false_and]
    have hlI : ¬ (xs.length : Int) = ys.length := by omega
    have hlb : ((xs.length : Int) != ys.length) = true := by simp; omega
    go_enter Tryz.func42, Tryz.ntmps42
    go_wp2_with fail
    go_ret
    exact ⟨rfl, bel _ _⟩
def PRes.val (r : PRes) (nv : Value) : Value := .agg #[.int .i64 r.code, .int .i64 r.fd, .int .i64 r.num, .bool r.dir, .string r.data, nv]
def sameM (a b : PRes) : Bool := (a.code == b.code) && (a.fd == b.fd) && (a.num == b.num) && (a.dir == b.dir) && (a.data.toList == b.data.toList) && eqNames a.names b.names
set_option maxRecDepth 100000 in
set_option maxHeartbeats 2000000 in
theorem same21 (a b : PRes) (v u : Value) (w : World) (hv : RowAt w 1 v (a.names.map strCells)) (hu : RowAt w 1 u (b.names.map strCells)) (hl : a.names.length ≤ 1000000000) :
    Calls Tryz.prog 21 #[a.val v, b.val u] w fun e w' => e = .returned (.bool (sameM a b)) ∧ Below w.heap.size w w' := by
  have heq : ∀ ww, Below w.heap.size w ww → Calls Tryz.prog 42 #[v, u] ww _ := fun ww hb => equal42 a.names b.names v u ww (hv.below hb (Nat.le_refl _)) (hu.below hb (Nat.le_refl _)) hl
  have ov := hv.one
  have ou := hu.one
  unfold sameM PRes.val
  generalize eqNames a.names b.names = E at heq ⊢
  clear hv hu
  generalize h1 : (a.code == b.code) = b1
  generalize h2 : (a.fd == b.fd) = b2
  generalize h3 : (a.num == b.num) = b3
  generalize h4 : (a.dir == b.dir) = b4
  generalize h5 : (a.data.toList == b.data.toList) = b5
  rcases b1 with _ | _
  · simp only [Bool.false_and]
    go_enter Tryz.func21, Tryz.ntmps21
    go_wp2_with fail
    go_ret
    exact ⟨rfl, bel _ _⟩
  rcases b2 with _ | _
  · simp only [Bool.true_and, Bool.false_and]
    go_enter Tryz.func21, Tryz.ntmps21
    go_wp2_with fail
    go_ret
    exact ⟨rfl, bel _ _⟩
  rcases b3 with _ | _
  · simp only [Bool.true_and, Bool.false_and]
    go_enter Tryz.func21, Tryz.ntmps21
    go_wp2_with fail
    go_ret
    exact ⟨rfl, bel _ _⟩
  rcases b4 with _ | _
  · simp only [Bool.true_and, Bool.false_and]
    go_enter Tryz.func21, Tryz.ntmps21
    go_wp2_with fail
    go_ret
    exact ⟨rfl, bel _ _⟩
  rcases b5 with _ | _
  · simp only [Bool.true_and, Bool.false_and]
    go_enter Tryz.func21, Tryz.ntmps21
    go_wp2_with fail
    go_ret
    exact ⟨rfl, bel _ _⟩
  simp only [Bool.true_and]
  go_enter Tryz.func21, Tryz.ntmps21
  go_wp2_with ((go_at_call 42; refine (heq _ (bel _ _)).mono ?_; rintro e w' ⟨rfl, hb⟩; obtain ⟨p, rfl⟩ := hb.rest; clear hb))
  go_ret
  exact ⟨rfl, bel _ _⟩
end Go.Proofs.YtjkenolgkkknaaaGreatDoor
