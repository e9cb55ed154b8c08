/- Part of the proof that the named pairs of calls commute. Conditions: none. -/
import Derived.Test.YtjkenolgkkknaaaGreatDoorPp03
import Derived.Test.YtjkenolgkkknaaaGreatDoorPp05
import Derived.Test.YtjkenolgkkknaaaGreatDoorPp06
set_option linter.unusedVariables false
set_option linter.unusedSimpArgs false
set_option maxRecDepth 100000
set_option maxHeartbeats 8000000
namespace Go.Proofs.YtjkenolgkkknaaaGreatDoor
open Go.RowKit
def chainOf (c : Int) : List PanicEntry := [{ v := .iface 78 (.agg #[.int .i64 c]), recovered := false }]
abbrev thrown (c : Int) : Ending := .panicked (chainOf c)
theorem throw_no (c : Int) (w : World) :
 Calls Tryz.prog 115 #[.bool false, .int .i64 c] w fun e w' => e = .returned (.tuple #[]) ∧ Below w.heap.size w w' := by
 go_enter Tryz.func115, Tryz.ntmps115
 go_wp2_with fail
 exact bodyPost_end (v := .tuple #[]) (by simp [results, go_sem]) rfl ⟨rfl, bel _ _⟩
theorem throw_yes (c : Int) (w : World) :
 Calls Tryz.prog 115 #[.bool true, .int .i64 c] w fun e w' => e = thrown c ∧ Below w.heap.size w w' := by
 go_enter Tryz.func115, Tryz.ntmps115
 go_wp2_with fail
 exact ⟨rfl, rfl, Below.refl _ _⟩
theorem own_one' {w : World} {B n k : Nat} {e : TypeId} {v : Value} {xs : List Value} (h : w.ownsRow B e k v n xs) : v.oneCell' = true := by
 obtain ⟨_, ⟨rfl, _⟩ | ⟨g, cap, cur, rfl, _⟩⟩ := h <;> rfl
def ParsedOr (w : World) (s : ByteArray) (e : Ending) (w' : World) : Prop :=
 ((parseM s).1 = 0 ∧ ∃ v, e = .returned v ∧ Below w.heap.size w w' ∧ RowAt w' 1 v ((parseM s).2.map fun n => [.string n])) ∨ ((parseM s).1 ≠ 0 ∧ e = thrown (codeM (parseM s).1) ∧ Below w.heap.size w w')
theorem flat_one {α β : Type} (f : α → β) : ∀ ns : List α, (ns.map fun n => [f n]).flatten = ns.map f
 | [] => rfl
 | n :: ns => by simp [flat_one f ns]
theorem parse150 (s : ByteArray) (w : World) : Calls Tryz.prog 150 #[.string s] w (ParsedOr w s) := by
 have hp := parse136 s w
 unfold ParsedOr
 generalize parseM s = F at hp ⊢
 obtain ⟨c, ns⟩ := F
 by_cases h : c = 0
 · subst h; have hc : ∀ ww, Calls Tryz.prog 167 #[.int .i64 0] ww _ := fun ww => code167 0 ww
   go_enter Tryz.func150, Tryz.ntmps150
   go_wp2_with (first | (go_at_call 136; refine hp.mono ?_; rintro e w1 ⟨v, rfl, hb, hown, hbl⟩; have hone := own_one' hown; have iB : Bel w w1 := ⟨hb⟩; have HO := Lib.hid (And.intro hown hb); clear hown hb hbl) | (go_at_call 167; refine aT (hc _) fun p => ?_) | (go_at_call 115; refine aT (throw_no _ _) fun p => ?_))
   go_ret; refine .inl ⟨by simp, _, rfl, bel _ _, ?_⟩; have := (OwnP.of_own (rows := ns.map fun n => [.string n]) (by rw [lM, flat_one]; exact HO.out.1) (by decide) (by intro cs h; obtain ⟨x, _, rfl⟩ := List.mem_map.1 h; rfl)).row; exact this.below (bel w1 _) (Nat.le_refl _)
 · have hc : ∀ ww, Calls Tryz.prog 167 #[.int .i64 c] ww _ := fun ww => code167 c ww
   have hcb : (c != 0) = true := by simpa using h
   generalize hcm : codeM c = cm at hc
   go_enter Tryz.func150, Tryz.ntmps150
   go_wp2_with (first | (go_at_call 136; refine hp.mono ?_; rintro e w1 ⟨v, rfl, hb, hown, hbl⟩; have hone := own_one' hown; have iB : Bel w w1 := ⟨hb⟩; clear hown hb hbl) | (go_at_call 167; refine aT (hc _) fun p => ?_) | (go_at_call 115; refine (throw_yes _ _).mono ?_; rintro e w' ⟨rfl, hb⟩; obtain ⟨p, rfl⟩ := hb.rest; clear hb))
   exact ⟨rfl, .inr ⟨h, rfl, bel _ _⟩⟩
def walkM (S : PSt) : Nat → List ByteArray → Nat × Int
 | k, [] => (k, 0)
 | k, n :: r => match S.ins[k]? with
   | some x => if x.dir = true then (if hitE x.ents n = true then (match x.ents[bsE x.ents n]? with | some e => walkM S (findN S.nums e.num).toNat r | none => (0, 1)) else (0, 1)) else (0, 7)
   | none => (0, 7)
theorem walk151 (b : Nat) (S : PSt) (ns : List ByteArray) (v : Value) (w : World) (h : SP w b S) (hwf : S.wf) (hpos : 0 < S.ins.length) (hfind : ∀ x ∈ S.ins, ∀ e ∈ x.ents, 0 ≤ findN S.nums e.num) (hv : RowAt w 1 v (ns.map fun n => [.string n])) (hlen : ns.length ≤ 1000000000) :
 Calls Tryz.prog 151 #[.pointer (some ⟨b, 0, none⟩), v] w fun e w' => e = .returned (.tuple #[.int .i64 (walkM S 0 ns).1, .int .i64 (walkM S 0 ns).2]) ∧ Below w.heap.size w w' := by
 have hf : ∀ ww, Below w.heap.size w ww → ∀ n, Calls Tryz.prog 110 #[.pointer (some ⟨b, 0, none⟩), .int .i64 n] ww fun e w' => e = .returned (.int .i64 (findN S.nums n)) ∧ Below ww.heap.size ww w' :=
  fun ww hb n => find_sp b S n ww (h.below hb (Nat.le_refl _)) hwf
 obtain ⟨hl, iv, ov, mv, c0, c1, c2, hr⟩ := h
 have ib : BlockLt b w := ⟨hl⟩
 have hlin := hwf.1
 have HWF := Lib.hid hwf.2.2.2.1
 obtain ⟨ai, capi, rfl, hati⟩ := hr.ins_at2
 obtain ⟨an, capn, rfl, hatn⟩ := hv.at_
 rw [lM]
 have HI := Lib.hid hati
 have HN := Lib.hid hatn
 have HF := Lib.hid hfind
 clear hr hwf hati hatn hv c1 c2 hfind
 obtain ⟨RK, RC, hR⟩ : ∃ RK RC, walkM S 0 ns = (RK, RC) := ⟨_, _, rfl⟩
 rw [hR]
 have HR := Lib.hid hR
 clear hR
 go_enter Tryz.func151, Tryz.ntmps151
 go_wp2_with fail
 go_loopw [6, 13] (fun at_ i wr => ∃ (q k : Nat), at_ = .int .i64 k ∧ i = .int .i64 q ∧ q ≤ ns.length ∧ k < S.ins.length ∧ walkM S k (ns.drop q) = (RK, RC) ∧ Below w.heap.size w wr) (fun _ i _ => (ns.length - intOf i).toNat)
 case atStart => exact ⟨0, 0, rfl, rfl, by omega, hpos, HR.out, bel _ _⟩
 case round =>
  obtain ⟨q, k, rfl, rfl, hq, hk, hre, hb⟩ := hrel; have iB : Bel w wr := ⟨hb⟩
  have iL : BlockLt b wr := ⟨by have := hb.size; have := ib.lt; omega⟩
  have c0r : wr.cell? ⟨b, 0, none⟩ = some (.slice ai S.ins.length capi) := (hb.cell (p := ⟨b, 0, none⟩) ib.lt).trans c0; by_cases hlt : q < ns.length
  · obtain ⟨n, hn⟩ : ∃ n, ns[q]? = some n := ⟨_, gE hlt⟩
    obtain ⟨x, hx⟩ : ∃ x, S.ins[k]? = some x := ⟨_, gE hk⟩
    rw [drop_at hn] at hre; unfold walkM at hre; rw [hx] at hre; simp only at hre; obtain ⟨bn, offn, rfl, iN0, iN, hcn⟩ := HN.out wr hb q [.string n] (by rw [gM, hn]; rfl); have n0 := hcn 0 _ rfl; rw [Nat.mul_one, Nat.add_zero] at n0; obtain ⟨bi, offi, ev, rfl, iG0, ho1, hev, hcl⟩ := HI.out k x hx; obtain ⟨iG, y0, y1, y2, y3⟩ := hcl wr hb; have hez := (HWF.out x (mG hx)).2.1; have hfx := HF.out x (mG hx); have hent : ∀ ww, Below w.heap.size w ww → Calls Tryz.prog 114 #[ev, .string n] ww _ := fun ww hww => entry114 x.ents ev n ww (hev.below hww (Nat.le_refl _)) hez
    obtain ⟨ae, ce, rfl, hat⟩ := hev.at_; rw [lM] at y2 hent; have hqI : (q : Int) < ns.length := by omega
    have hkI : (k : Int) < S.ins.length := by omega
    have HX := Lib.hid (And.intro hx (And.intro hfx hat)); clear hn hx hcn hcl hev hfx hat; generalize hdir : x.dir = d at y1 hre; rcases d with _ | _
    · simp only [Bool.false_eq_true, if_false, Prod.mk.injEq] at hre; obtain ⟨rfl, rfl⟩ := hre; go_wp2_with fail; exact bodyPost_ret (v := .tuple #[.int .i64 0, .int .i64 7]) (by simp [results, Tryz.results151, go_sem]) rfl ⟨rfl, bel _ _⟩
    · simp only [if_true] at hre; generalize hhit : hitE x.ents n = hi at hre hent; have hbs : hi = true → bsE x.ents n < x.ents.length := by
       intro h; rw [h] at hhit; unfold hitE at hhit; simp only [Bool.and_eq_true, decide_eq_true_eq] at hhit; exact hhit.1
      generalize bsE x.ents n = j at hre hent hbs; clear hhit hdir; rcases hi with _ | _
      · simp only [Bool.false_eq_true, if_false, Prod.mk.injEq] at hre; obtain ⟨rfl, rfl⟩ := hre; go_wp2_with ((go_at_call 114; refine aT (hent _ (bel _ _)) fun p => ?_))
        exact bodyPost_ret (v := .tuple #[.int .i64 0, .int .i64 1]) (by simp [results, Tryz.results151, go_sem]) rfl ⟨rfl, bel _ _⟩
      · simp only [if_true] at hre; have hjl := hbs rfl; obtain ⟨e, he⟩ : ∃ e, x.ents[j]? = some e := ⟨_, gE hjl⟩
        rw [he] at hre; simp only at hre; obtain ⟨be, offe, rfl, iE0, iE, hce⟩ := HX.out.2.2 wr hb j e.cells (by rw [gM, he]; rfl); have e1 := hce 1 _ rfl; have hfe : ∀ ww, Below w.heap.size w ww → Calls Tryz.prog 110 #[.pointer (some ⟨b, 0, none⟩), .int .i64 e.num] ww _ := fun ww hww => hf ww hww e.num
        have hf0 := HX.out.2.1 e (mG he); have hfb := findN_bounds S.nums e.num; have hnl : S.nums.length = S.ins.length := by unfold PSt.nums; rw [lM]
        generalize findN S.nums e.num = fv at hfe hf0 hfb hre; obtain ⟨f, rfl⟩ : ∃ f : Nat, fv = f := ⟨fv.toNat, by omega⟩
        rw [Int.toNat_natCast] at hre; have hfl : f < S.ins.length := by omega
        have hjI : (j : Int) < x.ents.length := by omega
        have HRE := Lib.hid hre; clear hre hce he hbs hf0 hfb hnl; go_wp2_with (first | (go_at_call 114; refine aT (hent _ (bel _ _)) fun p => ?_) | (go_at_call 110; refine aT (hfe _ (bel _ _)) fun p => ?_))
        go_roundw
        case rel => exact ⟨q + 1, f, rfl, by go_num, by omega, hfl, HRE.out, bel _ _⟩
        case measure => simp [intOf]; omega
  · rw [List.drop_of_length_le (by omega)] at hre; have hre : (k, (0 : Int)) = (RK, RC) := hre; simp only [Prod.mk.injEq] at hre; obtain ⟨rfl, rfl⟩ := hre; go_wp2_with fail; exact bodyPost_ret (v := .tuple #[.int .i64 k, .int .i64 0]) (by simp [results, Tryz.results151, go_sem]) rfl ⟨rfl, bel _ _⟩
end Go.Proofs.YtjkenolgkkknaaaGreatDoor
