/- Part of the proof that the calls that look alone commute. Conditions: none. -/
import Derived.Test.YtjkenolgkkknaaaGreatDoorLp16
import Derived.Test.YtjkenolgkkknaaaGreatDoorLp11
set_option linter.unusedVariables false
set_option linter.unusedSimpArgs false
set_option maxRecDepth 100000
set_option maxHeartbeats 8000000
/- model.walk: from the root on, name by name. Conditions: none. -/
set_option linter.unusedVariables false
set_option linter.unusedSimpArgs false
namespace Go.Proofs.YtjkenolgkkknaaaGreatDoor
open Go.RowKit
/-- The place and the code. -/
def walkM (S : PSt) : Nat → List ByteArray → Nat × Int
  | k, [] => (k, 0)
  | k, n :: r => match S.ins[k]? with
    | some x => if x.dir = true then (if hitE x.ents n = true then (match x.ents[bsE x.ents n]? with | some e => walkM S (findN S.nums e.num).toNat r | none => (0, 1)) else (0, 1)) else (0, 7)
    | none => (0, 7)
set_option maxRecDepth 100000 in
set_option maxHeartbeats 4000000 in
theorem walk151 (b : Nat) (S : PSt) (ns : List ByteArray) (v : Value) (w : World) (h : SP w b S) (hwf : S.wf) (hpos : 0 < S.ins.length) (hfind : ∀ x ∈ S.ins, ∀ e ∈ x.ents, 0 ≤ findN S.nums e.num) (hv : RowAt w 1 v (ns.map fun n => [.string n])) (hlen : ns.length ≤ 1000000000) :
    Calls Tryz.prog 151 #[.pointer (some ⟨b, 0, none⟩), v] w fun e w' => e = .returned (.tuple #[.int .i64 (walkM S 0 ns).1, .int .i64 (walkM S 0 ns).2]) ∧ Below w.heap.size w w' := by
  have hf : ∀ ww, Below w.heap.size w ww → ∀ n, Calls Tryz.prog 110 #[.pointer (some ⟨b, 0, none⟩), .int .i64 n] ww fun e w' => e = .returned (.int .i64 (findN S.nums n)) ∧ Below ww.heap.size ww w' :=
    fun ww hb n => find_sp b S n ww (h.below hb (Nat.le_refl _)) hwf
  obtain ⟨hl, iv, ov, mv, c0, c1, c2, hr⟩ := h
  have ib : BlockLt b w := ⟨hl⟩
  have hlin := hwf.1
  have HWF := Lib.hid hwf.2.2.2.1
  obtain ⟨ai, capi, rfl, hati⟩ := hr.ins_at2
  obtain ⟨an, capn, rfl, hatn⟩ := hv.at_
  rw [List.length_map]
  have HI := Lib.hid hati
  have HN := Lib.hid hatn
  have HF := Lib.hid hfind
  clear hr hwf hati hatn hv c1 c2 hfind
  obtain ⟨RK, RC, hR⟩ : ∃ RK RC, walkM S 0 ns = (RK, RC) := ⟨_, _, rfl⟩
  rw [hR]
  have HR := Lib.hid hR
  clear hR
  go_enter Tryz.func151, Tryz.ntmps151
  go_wp2_with fail
  go_loopw [6, 13] (fun at_ i wr => ∃ (q k : Nat), at_ = .int .i64 k ∧ i = .int .i64 q ∧ q ≤ ns.length ∧ k < S.ins.length ∧ walkM S k (ns.drop q) = (RK, RC) ∧ Below w.heap.size w wr) (fun _ i _ => (ns.length - intOf i).toNat)
  case atStart => exact ⟨0, 0, rfl, rfl, by omega, hpos, HR.out, bel _ _⟩
  case round =>
    obtain ⟨q, k, rfl, rfl, hq, hk, hre, hb⟩ := hrel
    have iB : Bel w wr := ⟨hb⟩
    have iL : BlockLt b wr := ⟨by have := hb.size; have := ib.lt; omega⟩
    have c0r : wr.cell? ⟨b, 0, none⟩ = some (.slice ai S.ins.length capi) := (hb.cell (p := ⟨b, 0, none⟩) ib.lt).trans c0
    by_cases hlt : q < ns.length
    · obtain ⟨n, hn⟩ : ∃ n, ns[q]? = some n := ⟨_, List.getElem?_eq_getElem hlt⟩
      obtain ⟨x, hx⟩ : ∃ x, S.ins[k]? = some x := ⟨_, List.getElem?_eq_getElem hk⟩
      rw [drop_at hn] at hre
      unfold walkM at hre
      rw [hx] at hre
      simp only at hre
      obtain ⟨bn, offn, rfl, iN0, iN, hcn⟩ := HN.out wr hb q [.string n] (by rw [List.getElem?_map, hn]; rfl)
      have n0 := hcn 0 _ rfl
      rw [Nat.mul_one, Nat.add_zero] at n0
      obtain ⟨bi, offi, ev, rfl, iG0, ho1, hev, hcl⟩ := HI.out k x hx
      obtain ⟨iG, y0, y1, y2, y3⟩ := hcl wr hb
      have hez := (HWF.out x (List.mem_of_getElem? hx)).2.1
      have hfx := HF.out x (List.mem_of_getElem? hx)
      have hent : ∀ ww, Below w.heap.size w ww → Calls Tryz.prog 114 #[ev, .string n] ww _ := fun ww hww => entry114 x.ents ev n ww (hev.below hww (Nat.le_refl _)) hez
      obtain ⟨ae, ce, rfl, hat⟩ := hev.at_
      rw [List.length_map] at y2 hent
      have hqI : (q : Int) < ns.length := by omega
      have hkI : (k : Int) < S.ins.length := by omega
      have HX := Lib.hid (And.intro hx (And.intro hfx hat))
      clear hn hx hcn hcl hev hfx hat
      generalize hdir : x.dir = d at y1 hre
      rcases d with _ | _
      · simp only [Bool.false_eq_true, if_false, Prod.mk.injEq] at hre
        obtain ⟨rfl, rfl⟩ := hre
        go_wp2_with fail
        exact bodyPost_ret (v := .tuple #[.int .i64 0, .int .i64 7]) (by simp [results, Tryz.results151, go_sem]) rfl ⟨rfl, bel _ _⟩
      · simp only [if_true] at hre
        generalize hhit : hitE x.ents n = hi at hre hent
        have hbs : hi = true → bsE x.ents n < x.ents.length := by
          intro h
          rw [h] at hhit
          unfold hitE at hhit
          simp only [Bool.and_eq_true, decide_eq_true_eq] at hhit
          exact hhit.1
        generalize bsE x.ents n = j at hre hent hbs
        clear hhit hdir
        rcases hi with _ | _
        · simp only [Bool.false_eq_true, if_false, Prod.mk.injEq] at hre
          obtain ⟨rfl, rfl⟩ := hre
          go_wp2_with ((go_at_call 114; refine (hent _ (bel _ _)).mono ?_; rintro e w' ⟨rfl, hb⟩; obtain ⟨p, rfl⟩ := hb.rest; clear hb))
          exact bodyPost_ret (v := .tuple #[.int .i64 0, .int .i64 1]) (by simp [results, Tryz.results151, go_sem]) rfl ⟨rfl, bel _ _⟩
        · simp only [if_true] at hre
          have hjl := hbs rfl
          obtain ⟨e, he⟩ : ∃ e, x.ents[j]? = some e := ⟨_, List.getElem?_eq_getElem hjl⟩
          rw [he] at hre
          simp only at hre
          obtain ⟨be, offe, rfl, iE0, iE, hce⟩ := HX.out.2.2 wr hb j e.cells (by rw [List.getElem?_map, he]; rfl)
          have e1 := hce 1 _ rfl
          have hfe : ∀ ww, Below w.heap.size w ww → Calls Tryz.prog 110 #[.pointer (some ⟨b, 0, none⟩), .int .i64 e.num] ww _ := fun ww hww => hf ww hww e.num
          have hf0 := HX.out.2.1 e (List.mem_of_getElem? he)
          have hfb := findN_bounds S.nums e.num
          have hnl : S.nums.length = S.ins.length := by unfold PSt.nums; rw [List.length_map]
          generalize findN S.nums e.num = fv at hfe hf0 hfb hre
          obtain ⟨f, rfl⟩ : ∃ f : Nat, fv = f := ⟨fv.toNat, by omega⟩
          rw [Int.toNat_natCast] at hre
          have hfl : f < S.ins.length := by omega
          have hjI : (j : Int) < x.ents.length := by omega
          have HRE := Lib.hid hre
          clear hre hce he hbs hf0 hfb hnl
          go_wp2_with (first | (go_at_call 114; refine (hent _ (bel _ _)).mono ?_; rintro e w' ⟨rfl, hb⟩; obtain ⟨p, rfl⟩ := hb.rest; clear hb) | (go_at_call 110; refine (hfe _ (bel _ _)).mono ?_; rintro e w' ⟨rfl, hb⟩; obtain ⟨p, rfl⟩ := hb.rest; clear hb))
          go_roundw
          case rel => exact ⟨q + 1, f, rfl, by go_num, by omega, hfl, HRE.out, bel _ _⟩
          case measure => simp [intOf]; omega
    · rw [List.drop_of_length_le (by omega)] at hre
      have hre : (k, (0 : Int)) = (RK, RC) := hre
      simp only [Prod.mk.injEq] at hre
      obtain ⟨rfl, rfl⟩ := hre
      go_wp2_with fail
      exact bodyPost_ret (v := .tuple #[.int .i64 k, .int .i64 0]) (by simp [results, Tryz.results151, go_sem]) rfl ⟨rfl, bel _ _⟩
end Go.Proofs.YtjkenolgkkknaaaGreatDoor
