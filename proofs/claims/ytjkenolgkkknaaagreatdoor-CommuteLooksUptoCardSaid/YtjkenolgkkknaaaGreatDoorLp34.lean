/- Part of the proof that the calls that look alone commute. Conditions: none. -/
import Derived.Test.YtjkenolgkkknaaaGreatDoorLp32
set_option linter.unusedVariables false
set_option linter.unusedSimpArgs false
set_option maxRecDepth 100000
set_option maxHeartbeats 8000000
/- What a call looks at, as data; searches in package commute. Conditions: none. -/
set_option linter.unusedVariables false
set_option linter.unusedSimpArgs false
namespace Go.Proofs.YtjkenolgkkknaaaGreatDoor
open Go.RowKit
set_option maxRecDepth 100000 in
theorem index138 (zs : List PEnt) (v : Value) (l0 : Value) (p : PEnt → Bool) (w : World) (h : RowAt w 2 v (zs.map PEnt.cells)) (hlen : zs.length ≤ 1000000000)
    (hg : ∀ (z : PEnt) (ww : World), z ∈ zs → Below w.heap.size w ww → Calls Tryz.prog 139 #[.agg #[.string z.name, .int .i64 z.num], l0] ww fun e w' => e = .returned (.bool (p z)) ∧ Below ww.heap.size ww w') :
    Calls Tryz.prog 138 #[v, .func (.func 139) #[] #[l0]] w fun e w' => e = .returned (.int .i64 (idxM p zs)) ∧ Below w.heap.size w w' := by
  obtain ⟨a, cap, rfl, hat⟩ := h.at_
  rw [List.length_map]
  have HA := Lib.hid hat
  clear hat h
  unfold idxM
  obtain ⟨R, hR⟩ : ∃ R, idxFrom p zs 0 = R := ⟨_, rfl⟩
  rw [hR]
  have HR := Lib.hid hR
  clear hR
  go_enter Tryz.func138, Tryz.ntmps138
  go_wp2_with fail
  go_loopw [8] (fun i wr => ∃ (q : Nat), i = .int .i64 q ∧ q ≤ zs.length ∧ idxFrom p (zs.drop q) q = R ∧ Below w.heap.size w wr) (fun i _ => (zs.length - intOf i).toNat)
  case atStart => exact ⟨0, rfl, by omega, HR.out, bel _ _⟩
  case round =>
    obtain ⟨q, rfl, hq, hre, hb⟩ := hrel
    have iB : Bel w wr := ⟨hb⟩
    by_cases hlt : q < zs.length
    · obtain ⟨z, hz⟩ : ∃ z, zs[q]? = some z := ⟨_, List.getElem?_eq_getElem hlt⟩
      obtain ⟨b, off, rfl, iG0, iG, hc⟩ := HA.out wr hb q (PEnt.cells z) (by rw [List.getElem?_map, hz]; rfl)
      have c0 := hc 0 _ rfl
      have c1 := hc 1 _ rfl
      rw [idxFrom_drop p zs q z hz] at hre
      have hcall : ∀ ww, Below w.heap.size w ww → Calls Tryz.prog 139 #[.agg #[.string z.name, .int .i64 z.num], l0] ww fun e w' => e = .returned (.bool (p z)) ∧ Below ww.heap.size ww w' := fun ww hww => hg z ww (List.mem_of_getElem? hz) hww
      have HZ := Lib.hid (And.intro hz hre)
      clear hc hz hre hg
      rw [Nat.add_zero] at c0
      generalize hpz : p z = t at hcall HZ
      rcases t with _ | _
      · go_wp2_with (go_at_call 139; refine (hcall _ (bel _ _)).mono ?_; rintro e w' ⟨rfl, hb⟩; obtain ⟨p, rfl⟩ := hb.rest; clear hb)
        go_roundw
        case rel => exact ⟨q + 1, by go_num, by omega, by have := HZ.out.2; simpa using this, bel _ _⟩
        case measure => simp [intOf]; omega
      · have hv : R = q := by have := HZ.out.2; simpa using this.symm
        subst hv
        go_wp2_with (go_at_call 139; refine (hcall _ (bel _ _)).mono ?_; rintro e w' ⟨rfl, hb⟩; obtain ⟨p, rfl⟩ := hb.rest; clear hb)
        exact bodyPost_ret (v := .int .i64 q) (by simp [results, Tryz.results138, go_sem]) rfl ⟨rfl, bel _ _⟩
    · rw [idxFrom_end p zs q hlt] at hre
      subst hre
      clear hg
      go_wp2_with fail
      exact bodyPost_ret (v := .int .i64 (-1)) (by simp [results, Tryz.results138, go_sem]) rfl ⟨rfl, bel _ _⟩
def isName (n : ByteArray) (e : PEnt) : Bool := e.name.toList == n.toList
set_option maxRecDepth 100000 in
theorem clo139 (e : PEnt) (bx : Nat) (n : ByteArray) (w : World) (ib : BlockLt bx w) (hx : w.cell? ⟨bx, 0, none⟩ = some (.string n)) :
    Calls Tryz.prog 139 #[.agg #[.string e.name, .int .i64 e.num], .pointer (some ⟨bx, 0, none⟩)] w fun r w' => r = .returned (.bool (isName n e)) ∧ Below w.heap.size w w' := by
  go_enter Tryz.func139, Tryz.ntmps139
  go_wp2_with fail
  go_ret
  exact ⟨by first | rfl | simp_all [isName], bel _ _⟩
def prCells (p : Int × Int) : List Value := [.int .i64 p.1, .int .i64 p.2]
def pairAt (p : Int × Int) : Value := .agg #[.int .i64 p.1, .int .i64 p.2]
def isPair (p q : Int × Int) : Bool := (p.1 == q.1) && (p.2 == q.2)
set_option maxRecDepth 100000 in
set_option maxHeartbeats 2000000 in
theorem index91 (zs : List (Int × Int)) (v : Value) (p : Int × Int) (w : World) (h : RowAt w 2 v (zs.map prCells)) (hlen : zs.length ≤ 1000000000) :
    Calls Tryz.prog 91 #[v, pairAt p] w fun e w' => e = .returned (.int .i64 (idxM (isPair p) zs)) ∧ Below w.heap.size w w' := by
  obtain ⟨a, cap, rfl, hat⟩ := h.at_
  rw [List.length_map]
  have HA := Lib.hid hat
  clear hat h
  unfold idxM pairAt
  obtain ⟨R, hR⟩ : ∃ R, idxFrom (isPair p) zs 0 = R := ⟨_, rfl⟩
  rw [hR]
  have HR := Lib.hid hR
  clear hR
  obtain ⟨p1, p2⟩ := p
  simp only at *
  go_enter Tryz.func91, Tryz.ntmps91
  go_wp2_with fail
  go_loopw [8] (fun i wr => ∃ (q : Nat), i = .int .i64 q ∧ q ≤ zs.length ∧ idxFrom (isPair (p1, p2)) (zs.drop q) q = R ∧ Below w.heap.size w wr ∧ Blk wr w.heap.size #[.int .i64 p1, .int .i64 p2] 91) (fun i _ => (zs.length - intOf i).toNat)
  case atStart => exact ⟨0, rfl, by omega, HR.out, bel _ _, Blk.new _ _ _⟩
  case round =>
    obtain ⟨q, rfl, hq, hre, hb, hbk⟩ := hrel
    have iB : Bel w wr := ⟨hb⟩
    have iK := hbk.lt
    have k0 := hbk.cell 0
    have k1 := hbk.cell 1
    have HK := Lib.hid hbk
    by_cases hlt : q < zs.length
    · obtain ⟨z, hz⟩ : ∃ z, zs[q]? = some z := ⟨_, List.getElem?_eq_getElem hlt⟩
      obtain ⟨b, off, rfl, iG0, iG, hc⟩ := HA.out wr hb q (prCells z) (by rw [List.getElem?_map, hz]; rfl)
      have c0 := hc 0 _ rfl
      have c1 := hc 1 _ rfl
      rw [Nat.add_zero] at c0
      rw [idxFrom_drop _ zs q z hz] at hre
      rw [show isPair (p1, p2) z = ((p1 == z.1) && (p2 == z.2)) from rfl] at hre
      obtain ⟨z1, z2⟩ := z
      simp only at c0 c1 hre
      clear hc hz hbk
      generalize hb1 : (p1 == z1) = b1 at hre
      generalize hb2 : (p2 == z2) = b2 at hre
      rcases b1 with _ | _ <;> rcases b2 with _ | _
      · simp only [Bool.and_self, Bool.and_true, Bool.and_false, Bool.false_and, Bool.false_eq_true, if_false] at hre
        have HR2 := Lib.hid hre
        clear hre
        go_upto_region 4 with fail
        refine wp_region_quiet_rest (by kernel_rfl) (by kernel_rfl) ?_
        repeat
          first
            | go_big_quiet_skip
            | (go_big_quiet_want; go_big_quiet_op; first | go_big_quiet_on | (apply Exists.intro; refine ⟨fun _ => ?_, ?_⟩; (focus (fail)); go_big_quiet_on))
        refine wpQuiet_nil ?_
        intro w1 hw1
        obtain ⟨p, hw1⟩ := hw1
        subst hw1
        go_wp2_with fail
        go_roundw
        case rel => exact ⟨q + 1, by go_num, by omega, by have := HR2.out; simpa using this, bel _ _, (HK.out.drew.junk _)⟩
        case measure => simp [intOf]; omega
      · simp only [Bool.and_self, Bool.and_true, Bool.and_false, Bool.false_and, Bool.false_eq_true, if_false] at hre
        have HR2 := Lib.hid hre
        clear hre
        go_upto_region 4 with fail
        refine wp_region_quiet_rest (by kernel_rfl) (by kernel_rfl) ?_
        repeat
          first
            | go_big_quiet_skip
            | (go_big_quiet_want; go_big_quiet_op; first | go_big_quiet_on | (apply Exists.intro; refine ⟨fun _ => ?_, ?_⟩; (focus (fail)); go_big_quiet_on))
        refine wpQuiet_nil ?_
        intro w1 hw1
        obtain ⟨p, hw1⟩ := hw1
        subst hw1
        go_wp2_with fail
        go_roundw
        case rel => exact ⟨q + 1, by go_num, by omega, by have := HR2.out; simpa using this, bel _ _, (HK.out.drew.junk _)⟩
        case measure => simp [intOf]; omega
      · simp only [Bool.and_self, Bool.and_true, Bool.and_false, Bool.false_and, Bool.false_eq_true, if_false] at hre
        have HR2 := Lib.hid hre
        clear hre
        go_upto_region 4 with fail
        refine wp_region_quiet_rest (by kernel_rfl) (by kernel_rfl) ?_
        repeat
          first
            | go_big_quiet_skip
            | (go_big_quiet_want; go_big_quiet_op; first | go_big_quiet_on | (apply Exists.intro; refine ⟨fun _ => ?_, ?_⟩; (focus (fail)); go_big_quiet_on))
        refine wpQuiet_nil ?_
        intro w1 hw1
        obtain ⟨p, hw1⟩ := hw1
        subst hw1
        go_wp2_with fail
        go_roundw
        case rel => exact ⟨q + 1, by go_num, by omega, by have := HR2.out; simpa using this, bel _ _, (HK.out.drew.junk _)⟩
        case measure => simp [intOf]; omega
      · simp only [Bool.and_self, if_true] at hre
        subst hre
        go_upto_region 4 with fail
        refine wp_region_quiet_rest (by kernel_rfl) (by kernel_rfl) ?_
        repeat
          first
            | go_big_quiet_skip
            | (go_big_quiet_want; go_big_quiet_op; first | go_big_quiet_on | (apply Exists.intro; refine ⟨fun _ => ?_, ?_⟩; (focus (fail)); go_big_quiet_on))
        refine wpQuiet_nil ?_
        intro w1 hw1
        obtain ⟨p, hw1⟩ := hw1
        subst hw1
        go_wp2_with fail
        exact bodyPost_ret (v := .int .i64 q) (by simp [results, Tryz.results91, go_sem]) rfl ⟨rfl, bel _ _⟩
    · rw [idxFrom_end _ zs q hlt] at hre
      subst hre
      clear hbk
      go_wp2_with fail
      exact bodyPost_ret (v := .int .i64 (-1)) (by simp [results, Tryz.results91, go_sem]) rfl ⟨rfl, bel _ _⟩
set_option maxRecDepth 100000 in
theorem contains47 (zs : List (Int × Int)) (v : Value) (p : Int × Int) (w : World) (h : RowAt w 2 v (zs.map prCells)) (hlen : zs.length ≤ 1000000000) :
    Calls Tryz.prog 47 #[v, pairAt p] w fun e w' => e = .returned (.bool (zs.any (isPair p))) ∧ Below w.heap.size w w' := by
  have hi : ∀ ww, Below w.heap.size w ww → Calls Tryz.prog 91 #[v, .agg #[.int .i64 p.1, .int .i64 p.2]] ww _ := fun ww hb => index91 zs v p ww (h.below hb (Nat.le_refl _)) hlen
  have ho := h.one
  rw [← idxM_any]
  generalize idxM (isPair p) zs = R at hi ⊢
  unfold pairAt
  clear h
  go_enter Tryz.func47, Tryz.ntmps47
  go_wp2_with (go_at_call 91; refine (hi _ (bel _ _)).mono ?_; rintro e w' ⟨rfl, hb⟩; obtain ⟨p, rfl⟩ := hb.rest; clear hb)
  go_ret
  exact ⟨by first | rfl | simp, bel _ _⟩
/-- A place in a slice of inodes, or none. -/
def placeAt (bi off : Nat) (K : Int) : Value := if 0 ≤ K then .pointer (some ⟨bi, off + K.toNat * 4, none⟩) else .pointer none
set_option maxRecDepth 100000 in
set_option maxHeartbeats 4000000 in
theorem inode48 (k p : Nat) (S : PSt) (n : Int) (w : World) (iB : BlockLt k w) (hk0 : w.cell? ⟨k, 0, none⟩ = some (.pointer (some ⟨p, 0, none⟩))) (h : SP w p S) (hlen : S.ins.length ≤ 1000000000) (hpos : 0 < S.ins.length) :
    Calls Tryz.prog 48 #[.pointer (some ⟨k, 0, none⟩), .int .i64 n] w fun e w' => (∃ bi off cap, w.cell? ⟨p, 0, none⟩ = some (.slice (some ⟨bi, off, none⟩) S.ins.length cap) ∧ e = .returned (placeAt bi off (idxM (isNum n) S.ins))) ∧ Below w.heap.size w w' := by
  obtain ⟨hl, iv, ov, mv, c0, c1, c2, hr⟩ := h
  have iP : BlockLt p w := ⟨hl⟩
  obtain ⟨ai, capi, rfl, hati⟩ := hr.ins_at2
  obtain ⟨bi, off, ev, rfl, iG0, -⟩ := hati 0 S.ins[0] (List.getElem?_eq_getElem hpos)
  have HI := Lib.hid hati
  have HC := Lib.hid c0
  clear hati hr c1 c2
  unfold idxM
  obtain ⟨R, hR⟩ : ∃ R, idxFrom (isNum n) S.ins 0 = R := ⟨_, rfl⟩
  rw [hR]
  have HR := Lib.hid hR
  clear hR
  go_enter Tryz.func48, Tryz.ntmps48
  go_wp2_with fail
  go_loopw [14] (fun i wr => ∃ (q : Nat), i = .int .i64 q ∧ q ≤ S.ins.length ∧ idxFrom (isNum n) (S.ins.drop q) q = R ∧ wr = w) (fun i _ => (S.ins.length - intOf i).toNat)
  case atStart => exact ⟨0, rfl, by omega, HR.out, by first | rfl | trivial⟩
  case round =>
    obtain ⟨q, rfl, hq, hre, rfl⟩ := hrel
    by_cases hlt : q < S.ins.length
    · obtain ⟨x, hx⟩ : ∃ x, S.ins[q]? = some x := ⟨_, List.getElem?_eq_getElem hlt⟩
      obtain ⟨bi', off', ev', he, -, -, -, hcl⟩ := HI.out q x hx
      simp only [Option.some.injEq, Addr.mk.injEq, and_true] at he
      obtain ⟨rfl, rfl⟩ := he
      obtain ⟨-, y0, y1, y2, y3⟩ := hcl _ (Below.refl _ _)
      rw [idxFrom_drop _ S.ins q x hx] at hre
      rw [show isNum n x = (x.num == n) from rfl] at hre
      obtain ⟨xn, xd, xe, xdat⟩ := x
      simp only at y0 hre
      clear hcl hx y1 y2 y3
      generalize hb1 : (xn == n) = b1 at hre
      rcases b1 with _ | _
      · simp only [Bool.false_eq_true, if_false] at hre
        have HR2 := Lib.hid hre
        clear hre
        go_wp2_with fail
        go_roundw
        case rel => exact ⟨q + 1, by go_num, by omega, by have := HR2.out; simpa using this, by first | rfl | trivial⟩
        case measure => simp [intOf]; omega
      · simp only [if_true] at hre
        subst hre
        go_wp2_with fail
        exact bodyPost_ret (v := .pointer (some ⟨bi, off + q * 4, none⟩)) (by simp [results, Tryz.results48, go_sem]) rfl ⟨⟨_, _, _, HC.out, by unfold placeAt; rw [if_pos (by omega), Int.toNat_natCast]⟩, bel _ _⟩
    · rw [idxFrom_end _ S.ins q hlt] at hre
      subst hre
      go_wp2_with fail
      go_ret
      exact ⟨⟨_, _, _, HC.out, by unfold placeAt; rw [if_neg (by omega)]; rfl⟩, bel _ _⟩
end Go.Proofs.YtjkenolgkkknaaaGreatDoor
