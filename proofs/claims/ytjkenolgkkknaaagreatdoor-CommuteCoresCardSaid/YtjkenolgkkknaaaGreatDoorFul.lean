/- model.full: has a bucket its slots full? Conditions: none. -/
import Derived.Test.YtjkenolgkkknaaaGreatDoorDo0
set_option linter.unusedVariables false
set_option linter.unusedSimpArgs false
namespace Go.Proofs.YtjkenolgkkknaaaGreatDoor
open Go.RowKit
/-- How many entries other than one name have a name's bucket. -/
def inBucket (s but : ByteArray) (e : PEnt) : Bool := !(e.name.toList == but.toList) && (bucketM e.name == bucketM s)
def cntB (s but : ByteArray) : List PEnt → Nat
  | [] => 0
  | e :: r => if inBucket s but e = true then cntB s but r + 1 else cntB s but r
theorem cntB_drop {s but : ByteArray} {es : List PEnt} {q : Nat} {e : PEnt} (h : es[q]? = some e) : cntB s but (es.drop q) = if inBucket s but e = true then cntB s but (es.drop (q + 1)) + 1 else cntB s but (es.drop (q + 1)) := by rw [drop_at h]; rfl
theorem cntB_le (s but : ByteArray) : ∀ es : List PEnt, cntB s but es ≤ es.length
  | [] => by simp [cntB]
  | e :: r => by
    have := cntB_le s but r
    unfold cntB
    split <;> simp only [List.length_cons] <;> omega
def fullM (es : List PEnt) (s but : ByteArray) : Bool := decide (4 ≤ cntB s but es)
set_option maxRecDepth 100000 in
set_option maxHeartbeats 4000000 in
theorem full116 (bx ox : Nat) (es : List PEnt) (ev : Value) (s but : ByteArray) (w : World) (ib : BlockLt bx w) (hc : w.cell? ⟨bx, ox + 2, none⟩ = some ev) (he : RowAt w 2 ev (es.map PEnt.cells)) (hlen : es.length ≤ 1000000000) :
    Calls Tryz.prog 116 #[.pointer (some ⟨bx, ox, none⟩), .string s, .string but] w fun e w' => e = .returned (.bool (fullM es s but)) ∧ Below w.heap.size w w' := by
  have hbk : ∀ ww (n : ByteArray), Calls Tryz.prog 137 #[.string n] ww _ := fun ww n => bucket137 n ww
  obtain ⟨ae, ce, rfl, hat⟩ := he.at_
  rw [List.length_map] at hc
  have HE := Lib.hid hat
  clear hat he
  have hcl := cntB_le s but es
  unfold fullM
  obtain ⟨N, hN⟩ : ∃ N, cntB s but es = N := ⟨_, rfl⟩
  rw [hN] at hcl ⊢
  have HN := Lib.hid hN
  clear hN
  go_enter Tryz.func116, Tryz.ntmps116
  go_wp2_with fail
  go_loopw [7, 15] (fun vn vi wr => ∃ (q n : Nat), vi = .int .i64 q ∧ vn = .int .i64 n ∧ q ≤ es.length ∧ n + cntB s but (es.drop q) = N ∧ Below w.heap.size w wr) (fun _ vi _ => (es.length - intOf vi).toNat)
  case atStart => exact ⟨0, 0, rfl, rfl, by omega, by simpa using HN.out, bel _ _⟩
  case round =>
    obtain ⟨q, n, rfl, rfl, hq, hre, hb⟩ := hrel
    have iB : Bel w wr := ⟨hb⟩
    by_cases hlt : q < es.length
    · obtain ⟨e, hz⟩ : ∃ e, es[q]? = some e := ⟨_, List.getElem?_eq_getElem hlt⟩
      obtain ⟨be, oe, rfl, iE0, iE, hce⟩ := HE.out wr hb q e.cells (by rw [List.getElem?_map, hz]; rfl)
      have e0 := hce 0 _ rfl
      have e1 := hce 1 _ rfl
      rw [Nat.add_zero] at e0
      rw [cntB_drop hz] at hre
      unfold inBucket at hre
      have k1 := hbk
      have ew : wrap64 ((n : Int) + 1) = (n : Int) + 1 := by simp only [wrap64]; omega
      generalize hb1 : (e.name.toList == but.toList) = b1 at hre
      generalize hg1 : bucketM e.name = g1 at hre
      generalize hg2 : bucketM s = g2 at hre
      have hk1 : ∀ ww, Calls Tryz.prog 137 #[.string e.name] ww fun e w' => e = .returned (.int .i64 g1) ∧ Below ww.heap.size ww w' := fun ww => by rw [← hg1]; exact bucket137 e.name ww
      have hk2 : ∀ ww, Calls Tryz.prog 137 #[.string s] ww fun e w' => e = .returned (.int .i64 g2) ∧ Below ww.heap.size ww w' := fun ww => by rw [← hg2]; exact bucket137 s ww
      clear hz hce hbk k1 hg1 hg2
      rcases b1 with _ | _
      · simp only [Bool.not_false, Bool.true_and] at hre
        generalize hg : (g1 == g2) = gg at hre
        rcases gg with _ | _
        · simp only [Bool.false_eq_true, if_false] at hre
          have HR := Lib.hid hre
          clear hre
          go_wp2_with (first | (go_at_call 137; refine (hk1 _).mono ?_; rintro e w' ⟨rfl, hb⟩; obtain ⟨p, rfl⟩ := hb.rest; clear hb) | (go_at_call 137; refine (hk2 _).mono ?_; rintro e w' ⟨rfl, hb⟩; obtain ⟨p, rfl⟩ := hb.rest; clear hb))
          go_roundw
          case rel => exact ⟨q + 1, n, by go_num, rfl, by omega, HR.out, bel _ _⟩
          case measure => simp [intOf]; omega
        · simp only [if_true] at hre
          have HR := Lib.hid hre
          clear hre
          go_wp2_with (first | (go_at_call 137; refine (hk1 _).mono ?_; rintro e w' ⟨rfl, hb⟩; obtain ⟨p, rfl⟩ := hb.rest; clear hb) | (go_at_call 137; refine (hk2 _).mono ?_; rintro e w' ⟨rfl, hb⟩; obtain ⟨p, rfl⟩ := hb.rest; clear hb))
          go_roundw
          case rel => exact ⟨q + 1, n + 1, by go_num, by go_num, by omega, by have := HR.out; omega, bel _ _⟩
          case measure => simp [intOf]; omega
      · simp only [Bool.not_true, Bool.false_and, Bool.false_eq_true, if_false] at hre
        have HR := Lib.hid hre
        clear hre
        go_wp2_with (first | (go_at_call 137; refine (hk1 _).mono ?_; rintro e w' ⟨rfl, hb⟩; obtain ⟨p, rfl⟩ := hb.rest; clear hb) | (go_at_call 137; refine (hk2 _).mono ?_; rintro e w' ⟨rfl, hb⟩; obtain ⟨p, rfl⟩ := hb.rest; clear hb))
        go_roundw
        case rel => exact ⟨q + 1, n, by go_num, rfl, by omega, HR.out, bel _ _⟩
        case measure => simp [intOf]; omega
    · rw [List.drop_of_length_le (by omega)] at hre
      have hnN : n = N := by simpa [cntB] using hre
      subst hnN
      clear hre
      go_wp2_with fail
      exact bodyPost_ret (v := .bool (decide (4 ≤ n))) (by simp [results, Tryz.results116, go_sem]; omega) rfl ⟨rfl, bel _ _⟩
end Go.Proofs.YtjkenolgkkknaaaGreatDoor
