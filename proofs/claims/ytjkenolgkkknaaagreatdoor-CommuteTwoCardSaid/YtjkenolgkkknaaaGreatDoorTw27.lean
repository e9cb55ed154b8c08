/- Pair at its first numbers. Conditions: none. -/
import Derived.Test.YtjkenolgkkknaaaGreatDoorTw25
import Derived.Test.YtjkenolgkkknaaaGreatDoorTw26
set_option linter.unusedVariables false
set_option linter.unusedSimpArgs false
namespace Go.Proofs.YtjkenolgkkknaaaGreatDoor
open Go.RowKit
theorem evalT (a : Act) (k : Tmp) : a.eval (.tmp k) = (a.tmps[k]?).getD undef := by simp [Act.eval, go_sem]
theorem eff_val {P : Program} {o : Oper} {a : Act} {w w' : World} {K : Value → World → Prop} {v : Value} (h : (execOp a.eval o).run P w = .ok (.value v) w') (hk : K v w') : o.eff P a w K := by
  unfold Oper.eff
  rw [h]
  exact hk
theorem eff_skip {P : Program} {o : Oper} {a : Act} {w w' : World} {K : Value → World → Prop} (h : (execOp a.eval o).run P w = .ok .skip w') (hk : K undef w') : o.eff P a w K := by
  unfold Oper.eff
  rw [h]
  exact hk
def px : ByteArray := ⟨#[47, 120]⟩
def sixL : List PCall := [⟨0, 0, 0, 0, 0, px, nil, nil⟩, ⟨2, 0, 0, 0, 0, px, nil, nil⟩, ⟨2, 1, 0, 0, 0, px, nil, nil⟩, ⟨5, 0, 0, 0, 0, nil, nil, z200⟩, ⟨1, 0, 0, 0, 0, ⟨#[47, 100]⟩, nil, nil⟩, ⟨1, 1, 0, 0, 0, ⟨#[47, 101]⟩, nil, nil⟩]
def qs : Nat → PSt
  | 0 => s2
  | 1 => q1
  | 2 => q2
  | 3 => q3
  | 4 => q4
  | 5 => q5
  | _ => s6
theorem six_did : ∀ j, j < 6 → ∃ c r, sixL[j]? = some c ∧ RDid (qs j) c.kind c.core c.fd c.off c.num c.path c.path2 c.data (qs (j + 1)) r := by
  intro j hj
  have : j = 0 ∨ j = 1 ∨ j = 2 ∨ j = 3 ∨ j = 4 ∨ j = 5 := by omega
  rcases this with rfl | rfl | rfl | rfl | rfl | rfl
  · exact ⟨_, _, rfl, d1⟩
  · exact ⟨_, _, rfl, d2⟩
  · exact ⟨_, _, rfl, d3⟩
  · exact ⟨_, _, rfl, d4⟩
  · exact ⟨_, _, rfl, d5⟩
  · exact ⟨_, _, rfl, d6⟩
def cells8 (c : PCall) : List Value := [.int .i64 c.kind, .int .i64 c.core, .int .i64 c.fd, .int .i64 c.off, .int .i64 c.num, .string c.path, .string c.path2, .string c.data]
/-- Calls laid one behind the other. -/
def CRow (w : World) (g : Nat) (cs : List PCall) : Prop := Blk w g (cs.map cells8).flatten.toArray 29
theorem CRow.at_ {w : World} {g : Nat} {cs : List PCall} (h : CRow w g cs) {j : Nat} {c : PCall} (hc : cs[j]? = some c) : ∀ t u, (cells8 c)[t]? = some u → w.cell? ⟨g, j * 8 + t, none⟩ = some u := by
  intro t u hu
  have ht : t < 8 := by
    obtain ⟨h, _⟩ := List.getElem?_eq_some_iff.1 hu
    exact h
  rw [Blk.cell h]
  have := flat_at 8 (cs.map cells8) (fun l hl => by obtain ⟨c, _, rfl⟩ := List.mem_map.1 hl; rfl) j t ht
  simp only [List.getElem?_toArray]
  rw [this, List.getElem?_map, hc]
  exact hu
theorem StOwn.with_le {B N : Nat} {w : World} {iv ov mv : Value} {S : PSt} (h : StOwn N w iv ov mv S) (hB : B ≤ N) : StOwn N w iv ov mv S ∧ B ≤ N := ⟨h, hB⟩
/-- What holds while region 15 of Pair comes up. -/
structure R15 (gK : Nat) (P0 P1 : ByteArray) (W2 : World) (D : Nat → Prop) (σ : Nat → Value) (w : World) : Prop where
  c0 : D 0 → σ 0 = .slice (some ⟨gK, 0, none⟩) 4 4
  c1 : D 1 → σ 1 = .int .u64 0
  c2 : D 2 → σ 2 = .int .u64 0
  c3 : D 3 → σ 3 = .pointer (some ⟨gK, 0, none⟩)
  c4 : D 4 → σ 4 = .int .i64 0
  c5 : D 5 → σ 5 = .int .i64 0
  c6 : D 6 → σ 6 = .string P0
  c7 : D 7 → σ 7 = .agg #[.int .i64 0, .int .i64 0, .int .i64 0, .int .i64 0, .int .i64 0, .string P0, .string { data := #[] }, .string { data := #[] }]
  c8 : D 8 → σ 8 = .slice (some ⟨gK, 0, none⟩) 4 4
  c9 : D 9 → σ 9 = .int .u64 0
  c10 : D 10 → σ 10 = .int .u64 0
  c11 : D 11 → σ 11 = .pointer (some ⟨gK, 0, none⟩)
  c12 : D 12 → σ 12 = .int .i64 0
  c13 : D 13 → σ 13 = .int .i64 1
  c14 : D 14 → σ 14 = .string P1
  c15 : D 15 → σ 15 = .agg #[.int .i64 0, .int .i64 1, .int .i64 0, .int .i64 0, .int .i64 0, .string P1, .string { data := #[] }, .string { data := #[] }]
  c16 : D 16 → ∃ b, σ 16 = .pointer (some ⟨b, 0, none⟩) ∧ W2.heap.size ≤ b ∧ (Blk w b #[.int .i64 0, .int .i64 0, .int .i64 0, .int .i64 0, .int .i64 0, .string { data := #[] }, .string { data := #[] }, .string { data := #[] }] 29 ∨ Blk w b #[.int .i64 0, .int .i64 0, .int .i64 0, .int .i64 0, .int .i64 0, .string P0, .string { data := #[] }, .string { data := #[] }] 29) ∧ (D 18 → Blk w b #[.int .i64 0, .int .i64 0, .int .i64 0, .int .i64 0, .int .i64 0, .string P0, .string { data := #[] }, .string { data := #[] }] 29)
  c17 : D 17 → ∃ b, σ 17 = .pointer (some ⟨b, 0, none⟩) ∧ W2.heap.size ≤ b ∧ (Blk w b #[.int .i64 0, .int .i64 0, .int .i64 0, .int .i64 0, .int .i64 0, .string { data := #[] }, .string { data := #[] }, .string { data := #[] }] 29 ∨ Blk w b #[.int .i64 0, .int .i64 1, .int .i64 0, .int .i64 0, .int .i64 0, .string P1, .string { data := #[] }, .string { data := #[] }] 29) ∧ (D 19 → Blk w b #[.int .i64 0, .int .i64 1, .int .i64 0, .int .i64 0, .int .i64 0, .string P1, .string { data := #[] }, .string { data := #[] }] 29)
  ne : D 16 → D 17 → σ 16 ≠ σ 17
  k18 : D 18 → D 16
  k19 : D 19 → D 17
  bk : Blk w gK #[.int .i64 0, .int .i64 1, .int .i64 8, .int .i64 13] 3
  below : Below W2.heap.size W2 w
theorem yielded_of {a : Act} {j : Nat} {d : Tmp} {b : Bool} (h : a.eval (.tmp d) = .bool b) (o : Oper) (ops' : Array Oper) (ho : ops'[j]? = some o) (hd : o.dst = some d) : yielded ops' a.tmps j = some b := by
  unfold yielded
  rw [ho]
  simp only [Option.bind_some, hd]
  rw [evalT] at h
  rcases e : a.tmps[d]? with _ | v
  · rw [e] at h
    cases h
  · rw [e] at h
    simp only [Option.getD_some] at h
    subst h
    rfl
/-- What holds while region 18 of Pair comes up. -/
structure R18 (w : World) (g11 g22 g23 : Nat) (a1 : Option Addr) (a2 a3 : Nat) (a4 : Option Addr) (a5 a6 : Nat) (a7 : Option Addr) (a8 a9 : Nat) (P0 P1 : ByteArray) (S : PSt) (f : Bool) (s7 : Value) (D : Nat → Prop) (σ : Nat → Value) (wr : World) : Prop where
  c0 : D 0 → σ 0 = .agg #[.slice a1 a2 a3, .slice a4 a5 a6, .slice a7 a8 a9]
  c1 : D 1 → σ 1 = .agg #[.int .i64 0, .int .i64 0, .int .i64 0, .int .i64 0, .int .i64 0, .string P0, .string { data := #[] }, .string { data := #[] }]
  c2 : D 2 → σ 2 = .agg #[.int .i64 0, .int .i64 1, .int .i64 0, .int .i64 0, .int .i64 0, .string P1, .string { data := #[] }, .string { data := #[] }]
  c3 : D 3 → σ 3 = .bool false
  c4 : D 4 → σ 4 = .bool false
  c5 : D 5 → σ 5 = .bool f
  c6 : D 6 → σ 6 = .bool f
  c7 : D 7 → σ 7 = s7
  c8 : D 8 → σ 8 = .bool f
  c9 : D 9 → σ 9 = .bool f
  c13 : D 13 → σ 13 = .bool f
  c14 : D 14 → σ 14 = .bool true
  st : StOwn (w.heap.size + 3) wr (.slice a1 a2 a3) (.slice a4 a5 a6) (.slice a7 a8 a9) S
  b11 : Blk wr g11 #[.slice a1 a2 a3, .slice a4 a5 a6, .slice a7 a8 a9] 27
  b22 : Blk wr g22 #[.int .i64 0, .int .i64 0, .int .i64 0, .int .i64 0, .int .i64 0, .string P0, .string { data := #[] }, .string { data := #[] }] 29
  b23 : Blk wr g23 #[.int .i64 0, .int .i64 1, .int .i64 0, .int .i64 0, .int .i64 0, .string P1, .string { data := #[] }, .string { data := #[] }] 29
  s10 : (Blk wr (w.heap.size) #[.slice none 0 0, .slice none 0 0, .slice none 0 0] 27 ∨ Blk wr (w.heap.size) #[.slice a1 a2 a3, .slice a4 a5 a6, .slice a7 a8 a9] 27) ∧ (D 10 → Blk wr (w.heap.size) #[.slice a1 a2 a3, .slice a4 a5 a6, .slice a7 a8 a9] 27)
  s11 : (Blk wr (w.heap.size + 1) #[.int .i64 0, .int .i64 0, .int .i64 0, .int .i64 0, .int .i64 0, .string { data := #[] }, .string { data := #[] }, .string { data := #[] }] 29 ∨ Blk wr (w.heap.size + 1) #[.int .i64 0, .int .i64 0, .int .i64 0, .int .i64 0, .int .i64 0, .string P0, .string { data := #[] }, .string { data := #[] }] 29) ∧ (D 11 → Blk wr (w.heap.size + 1) #[.int .i64 0, .int .i64 0, .int .i64 0, .int .i64 0, .int .i64 0, .string P0, .string { data := #[] }, .string { data := #[] }] 29)
  s12 : (Blk wr (w.heap.size + 1 + 1) #[.int .i64 0, .int .i64 0, .int .i64 0, .int .i64 0, .int .i64 0, .string { data := #[] }, .string { data := #[] }, .string { data := #[] }] 29 ∨ Blk wr (w.heap.size + 1 + 1) #[.int .i64 0, .int .i64 1, .int .i64 0, .int .i64 0, .int .i64 0, .string P1, .string { data := #[] }, .string { data := #[] }] 29) ∧ (D 12 → Blk wr (w.heap.size + 1 + 1) #[.int .i64 0, .int .i64 1, .int .i64 0, .int .i64 0, .int .i64 0, .string P1, .string { data := #[] }, .string { data := #[] }] 29)
  below : Below w.heap.size w wr
/-- The world of the loop. -/
structure PW (w wr : World) (g11 gS : Nat) (a1 : Option Addr) (a2 a3 : Nat) (a4 : Option Addr) (a5 a6 : Nat) (a7 : Option Addr) (a8 a9 : Nat) (S : PSt) : Prop where
  st : StOwn (w.heap.size + 3) wr (.slice a1 a2 a3) (.slice a4 a5 a6) (.slice a7 a8 a9) S
  b11 : Blk wr g11 #[.slice a1 a2 a3, .slice a4 a5 a6, .slice a7 a8 a9] 27
  row : CRow wr gS sixL
  b6 : Blk wr w.heap.size #[.slice none 0 0, .slice none 0 0, .slice none 0 0] 27
  b7 : Blk wr (w.heap.size + 1) #[.int .i64 0, .int .i64 0, .int .i64 0, .int .i64 0, .int .i64 0, .string nil, .string nil, .string nil] 29
  b8 : Blk wr (w.heap.size + 1 + 1) #[.int .i64 0, .int .i64 0, .int .i64 0, .int .i64 0, .int .i64 0, .string nil, .string nil, .string nil] 29
  below : Below w.heap.size w wr
theorem PW.on {w wr w' : World} {g11 gS : Nat} {a1 : Option Addr} {a2 a3 : Nat} {a4 : Option Addr} {a5 a6 : Nat} {a7 : Option Addr} {a8 a9 : Nat} {S : PSt} (h : PW w wr g11 gS a1 a2 a3 a4 a5 a6 a7 a8 a9 S) (hb : Below wr.heap.size wr w') : PW w w' g11 gS a1 a2 a3 a4 a5 a6 a7 a8 a9 S :=
  ⟨h.st.on hb, blk_on h.b11 hb, blk_on h.row hb, blk_on h.b6 hb, blk_on h.b7 hb, blk_on h.b8 hb, h.below.trans (hb.mono h.below.size)⟩
set_option maxRecDepth 100000 in
set_option maxHeartbeats 8000000 in
theorem pair8 (w : World) : Calls Tryz.prog 8 #[.int .i64 0, .int .i64 0, .int .i64 1] w fun e w' => ∃ iv ov mv x y t, e = .returned (.tuple #[.agg #[iv, ov, mv], PCall.val x, PCall.val y, .bool t, .bool true]) ∧ Below w.heap.size w w' ∧ StRead w' iv ov mv s6 := by
  have hnew : ∀ ww, Below w.heap.size w ww → Calls Tryz.prog 11 #[.int .i64 2] ww _ := fun ww hb => new11o 2 (by omega) (by omega) ww
  go_enter Tryz.func8, Tryz.ntmps8
  go_upto_region 2 with (go_at_call 11; refine (hnew _ (bel w _)).mono ?_; rintro e w1 ⟨iv, ov, mv, rfl, hb1, hst⟩; obtain ⟨ai, ni, ci, ao, no, co, am, nm, cm, rfl, rfl, rfl⟩ := hst.forms; obtain ⟨p, rfl⟩ := hb1.rest; have HST := Lib.hid (hst.mono (B' := w.heap.size + 3) (by simp)); clear hst hb1)
  refine abs_world (F := fun W => StOwn (w.heap.size + 3) W (.slice ai ni ci) (.slice ao no co) (.slice am nm cm) s2 ∧ Blk W (w.heap.size + 1 + 1 + 1 + p.len) #[.slice ai ni ci, .slice ao no co, .slice am nm cm] 27 ∧ Blk W w.heap.size #[.slice none 0 0, .slice none 0 0, .slice none 0 0] 27 ∧ Blk W (w.heap.size + 1) #[.int .i64 0, .int .i64 0, .int .i64 0, .int .i64 0, .int .i64 0, .string nil, .string nil, .string nil] 29 ∧ Blk W (w.heap.size + 1 + 1) #[.int .i64 0, .int .i64 0, .int .i64 0, .int .i64 0, .int .i64 0, .string nil, .string nil, .string nil] 29 ∧ Below w.heap.size w W) ⟨HST.out.on (bel _ _), Blk.new_i _ _ _ _, Blk.alloc (Blk.junk (Blk.alloc (Blk.alloc (Blk.new_i _ _ _ _) _) _) _) _, Blk.alloc (Blk.junk (Blk.alloc (Blk.new_i _ _ _ _) _) _) _, Blk.alloc (Blk.junk (Blk.new_i _ _ _ _) _) _, bel w _⟩ ?_
  obtain ⟨g11, hg11⟩ : ∃ g, w.heap.size + 1 + 1 + 1 + p.len = g := ⟨_, rfl⟩
  have hgl : w.heap.size + 3 ≤ g11 := by omega
  rw [hg11]
  clear HST hg11 hnew
  rintro W ⟨hst, h11, h6, h7, h8, hbw⟩
  have hmk := mk200 W
  have hcv := cv200 (W.alloc (.cells zrow 5)) W.heap.size (Blk.new W _ _)
  have i11 := h11.lt
  have HW := Lib.hid (And.intro hst (And.intro h11 (And.intro h6 (And.intro h7 (And.intro h8 hbw)))))
  clear hst h11 h6 h7 h8 hbw
  go_upto_region 3 with fail
  refine abs_world (F := fun W' => PW w W' g11 (W.heap.size + 1) ai ni ci ao no co am nm cm (qs 0)) ⟨HW.out.1.on (bel W _), blk_on HW.out.2.1 (bel W _), Blk.new_i _ _ _ _, blk_on HW.out.2.2.1 (bel W _), blk_on HW.out.2.2.2.1 (bel W _), blk_on HW.out.2.2.2.2.1 (bel W _), HW.out.2.2.2.2.2.trans ((bel W _).mono HW.out.2.2.2.2.2.size)⟩ ?_
  obtain ⟨gS, hgS⟩ : ∃ g, W.heap.size + 1 = g := ⟨_, rfl⟩
  rw [hgS]
  clear HW hgS hmk hcv i11
  intro W' hP0
  have HP0 := Lib.hid hP0
  clear hP0
  obtain ⟨z, hz⟩ : ∃ z, z200 = z := ⟨_, rfl⟩
  simp only [hz]
  go_upto_region 4 with fail
  go_loopw [14] (fun v14 wr => ∃ (j : Nat) (a1 : Option Addr) (a2 a3 : Nat) (a4 : Option Addr) (a5 a6 : Nat) (a7 : Option Addr) (a8 a9 : Nat), v14 = .int .i64 j ∧ j ≤ 6 ∧ PW w wr g11 gS a1 a2 a3 a4 a5 a6 a7 a8 a9 (qs j)) (fun v14 _ => (6 - intOf v14).toNat)
  case atStart => exact ⟨0, _, _, _, _, _, _, _, _, _, rfl, by omega, HP0.out⟩
  case round =>
    obtain ⟨j, a1, a2, a3, a4, a5, a6, a7, a8, a9, rfl, hj, hP⟩ := hrel
    by_cases hlt : j < 6
    · have hltI : (j : Int) < 6 := by omega
      obtain ⟨c, r, hc, hd⟩ := six_did j hlt
      have y0 := hP.row.at_ hc 0 _ rfl
      have y1 := hP.row.at_ hc 1 _ rfl
      have y2 := hP.row.at_ hc 2 _ rfl
      have y3 := hP.row.at_ hc 3 _ rfl
      have y4 := hP.row.at_ hc 4 _ rfl
      have y5 := hP.row.at_ hc 5 _ rfl
      have y6 := hP.row.at_ hc 6 _ rfl
      have y7 := hP.row.at_ hc 7 _ rfl
      rw [Nat.add_zero] at y0
      have x0 := hP.b11.cell 0
      have x1 := hP.b11.cell 1
      have x2 := hP.b11.cell 2
      simp at x0 x1 x2
      have iR := hP.row.lt
      have i11 := hP.b11.lt
      unfold RDid resV at hd
      have h15 := fun ww (hb : Below wr.heap.size wr ww) => hd ww _ _ _ (hP.st.read.below hb (Nat.le_refl _))
      have HP := Lib.hid hP
      clear hP hd
      go_upto_region 6 with fail
      go_cut [15, 16] (fun v15 v16 wx => ∃ (g15 : Nat) (b1 : Option Addr) (b2 b3 : Nat) (b4 : Option Addr) (b5 b6 : Nat) (b7 : Option Addr) (b8 b9 : Nat), v15 = .pointer (some ⟨g15, 0, none⟩) ∧ Blk wx g15 #[.slice b1 b2 b3, .slice b4 b5 b6, .slice b7 b8 b9] 27 ∧ StOwn (w.heap.size + 3) wx (.slice b1 b2 b3) (.slice b4 b5 b6) (.slice b7 b8 b9) (qs (j + 1)) ∧ wr.heap.size ≤ g15 ∧ Below wr.heap.size wr wx)
      case first =>
        go_region_held3 (fun w' => w'.cell? ⟨g11, 0, none⟩ = some (.slice a1 a2 a3) ∧ w'.cell? ⟨g11, 1, none⟩ = some (.slice a4 a5 a6) ∧ w'.cell? ⟨g11, 2, none⟩ = some (.slice a7 a8 a9) ∧ w'.cell? ⟨gS, j * 8, none⟩ = some (.int .i64 c.kind) ∧ w'.cell? ⟨gS, j * 8 + 1, none⟩ = some (.int .i64 c.core) ∧ w'.cell? ⟨gS, j * 8 + 2, none⟩ = some (.int .i64 c.fd) ∧ w'.cell? ⟨gS, j * 8 + 3, none⟩ = some (.int .i64 c.off) ∧ w'.cell? ⟨gS, j * 8 + 4, none⟩ = some (.int .i64 c.num) ∧ w'.cell? ⟨gS, j * 8 + 5, none⟩ = some (.string c.path) ∧ w'.cell? ⟨gS, j * 8 + 6, none⟩ = some (.string c.path2) ∧ w'.cell? ⟨gS, j * 8 + 7, none⟩ = some (.string c.data))
          (first | (try dsimp only) <;> (repeat' apply And.intro) <;> go_simp)
          (first | (go_at_call 15; refine (h15 _ (bel wr _)).mono ?_; rintro e wa ⟨iv1, ov1, mv1, rfl, hb, hs1⟩; obtain ⟨pa, rfl⟩ := hb.rest; have hs2 := hs1.with_le (Nat.le_trans (show w.heap.size + 3 ≤ wr.heap.size by have := HP.out.b8.lt.lt; omega) (bel wr _).size); obtain ⟨b1, b2, b3, b4, b5, b6, b7, b8, b9, rfl, rfl, rfl⟩ := hs1.forms; have HS := Lib.hid hs2; clear hb hs1 hs2))
        all_goals go_wp2_with fail
        all_goals go_meet
        all_goals (refine ⟨_, b1, b2, b3, b4, b5, b6, b7, b8, b9, rfl, ?_, ?_, by omega, bel wr _⟩)
        all_goals first
          | ((repeat (first | exact Blk.new_i _ _ _ _ | refine Blk.alloc ?_ _ | refine Blk.junk ?_ _ | refine Blk.drew ?_)); done)
          | exact (HS.out.1.on (bel _ _)).mono HS.out.2
          | exact (HS.out.1.above _).mono HS.out.2
      case rest =>
        obtain ⟨g15, b1, b2, b3, b4, b5, b6, b7, b8, b9, rfl, h15b, hsb, hgr, hbx⟩ := hcut
        clear x0 x1 x2 y0 y1 y2 y3 y4 y5 y6 y7 iR i11 h15
        have hbw : Below w.heap.size w wc := HP.out.below.trans (hbx.mono HP.out.below.size)
        have hb11 := blk_on HP.out.b11 hbx
        have h11r := HP.out.b11.lt.lt
        have i15 := h15b.lt
        have i11 := hb11.lt
        have x0 := h15b.cell 0
        have x1 := h15b.cell 1
        have x2 := h15b.cell 2
        have o0 := hb11.cell 0
        have o1 := hb11.cell 1
        have o2 := hb11.cell 2
        have f0 := hb11.frozen 0
        have f1 := hb11.frozen 1
        have f2 := hb11.frozen 2
        simp at x0 x1 x2 o0 o1 o2
        have n1 : ¬ g15 = g11 := by omega
        have n2 : ¬ g11 = g15 := by omega
        have hK : Keep (fun g => g = g11) wc (((wc.setCell ⟨g11, 0, none⟩ (.slice b1 b2 b3)).setCell ⟨g11, 1, none⟩ (.slice b4 b5 b6)).setCell ⟨g11, 2, none⟩ (.slice b7 b8 b9)) := (((Keep.refl (fun g => g = g11) wc).setCell (p := ⟨g11, 0, none⟩) (.inl rfl) _).setCell (p := ⟨g11, 1, none⟩) (.inl rfl) _).setCell (p := ⟨g11, 2, none⟩) (.inl rfl) _
        have hP' : PW w (((wc.setCell ⟨g11, 0, none⟩ (.slice b1 b2 b3)).setCell ⟨g11, 1, none⟩ (.slice b4 b5 b6)).setCell ⟨g11, 2, none⟩ (.slice b7 b8 b9)) g11 gS b1 b2 b3 b4 b5 b6 b7 b8 b9 (qs (j + 1)) := {
          st := hsb.keep hK (fun g hg => by rw [hg]; exact ⟨_, 27, hb11, by decide, by decide, by decide, by decide⟩)
          b11 := ((hb11.set_ 0 _).set_ 1 _).set_ 2 _
          row := hK.blk (blk_on HP.out.row hbx) (fun e => by subst e; exact (blk_on HP.out.row hbx).ne_ hb11 (by decide) rfl)
          b6 := hK.blk (blk_on HP.out.b6 hbx) (by omega)
          b7 := hK.blk (blk_on HP.out.b7 hbx) (by omega)
          b8 := hK.blk (blk_on HP.out.b8 hbx) (by omega)
          below := hbw.trans (hK.below hbw.size (fun i hi e => by omega)) }
        have HN := Lib.hid hP'
        clear hP' hK hb11 h15b hsb hbx hbw HP
        go_wp2_with fail
        go_roundw
        case rel => exact ⟨j + 1, b1, b2, b3, b4, b5, b6, b7, b8, b9, by go_num, by omega, HN.out⟩
        case measure => simp [intOf]; omega
    · have hj6 : j = 6 := by omega
      subst hj6
      have HP := Lib.hid hP
      clear hP
      obtain ⟨B0, h16a⟩ : ∃ B0, ∀ ww, Calls Tryz.prog 16 #[.int .i64 0] ww fun e w' => e = .returned (.int .i64 B0) ∧ Below ww.heap.size ww w' := ⟨_, fun ww => bucket16 0 ww⟩
      obtain ⟨B1, h16b⟩ : ∃ B1, ∀ ww, Calls Tryz.prog 16 #[.int .i64 1] ww fun e w' => e = .returned (.int .i64 B1) ∧ Below ww.heap.size ww w' := ⟨_, fun ww => bucket16 1 ww⟩
      obtain ⟨P0, h14a⟩ : ∃ P0, ∀ ww, Calls Tryz.prog 14 #[.int .i64 0] ww fun e w' => e = .returned (.string P0) ∧ Below ww.heap.size ww w' := ⟨_, fun ww => at14 0 ww⟩
      obtain ⟨P1, h14b⟩ : ∃ P1, ∀ ww, Calls Tryz.prog 14 #[.int .i64 1] ww fun e w' => e = .returned (.string P1) ∧ Below ww.heap.size ww w' := ⟨_, fun ww => at14 1 ww⟩
      have h17a := fun ww => named17 0 0 P0 ww
      have h17b := fun ww => named17 0 1 P1 ww
      have h18 := fun ww => bk18 P0 P1 ww
      unfold namedM at h17a h17b
      rw [if_neg (by omega)] at h17a h17b
      unfold PCall.val at h17a h17b
      simp only at h17a h17b
      go_upto_region 15 with (first | (go_at_call 16; (with_reducible refine (h16a _).mono ?_); rintro e w' ⟨rfl, hb⟩; obtain ⟨pA, rfl⟩ := hb.rest; clear hb) | (go_at_call 16; (with_reducible refine (h16b _).mono ?_); rintro e w' ⟨rfl, hb⟩; obtain ⟨pB, rfl⟩ := hb.rest; clear hb))
      refine abs_world (F := fun W2 => PW w W2 g11 gS a1 a2 a3 a4 a5 a6 a7 a8 a9 (qs 6) ∧ Blk W2 (wr.heap.size + (pA.more pB).len) #[.int .i64 0, .int .i64 1, .int .i64 8, .int .i64 13] 3) ⟨HP.out.on (bel wr _), Blk.new_i _ _ _ _⟩ ?_
      obtain ⟨gK, hgK⟩ : ∃ g, wr.heap.size + (pA.more pB).len = g := ⟨_, rfl⟩
      rw [hgK]
      clear HP hgK h16a h16b
      rintro W2 ⟨hP, hK3⟩
      have iK := hK3.lt
      have k0 := hK3.cell 0
      simp at k0
      have HP := Lib.hid (And.intro hP hK3)
      clear hP hK3
      have hBK := HP.out.2
      refine wp_region_inv (R15 gK P0 P1 W2) (by kernel_rfl) (by kernel_rfl) (by kernel_rfl) ?_ ?_ ?_
      · intro σ
        have no : ∀ {k : Nat}, k < 20 → ∀ {p : Prop}, 20 ≤ k → p := fun h _ h2 => absurd h2 (by omega)
        exact ⟨no (by decide), no (by decide), no (by decide), no (by decide), no (by decide), no (by decide), no (by decide), no (by decide), no (by decide), no (by decide), no (by decide), no (by decide), no (by decide), no (by decide), no (by decide), no (by decide), no (by decide), no (by decide), no (by decide), no (by decide), no (by decide), blk_on hBK (bel W2 W2.drew), bel W2 _⟩
      · refine ⟨?_, ?_, ?_, ?_, ?_, ?_, ?_, ?_, ?_, ?_, ?_, ?_, ?_, ?_, ?_, ?_, ?_, ?_, ?_, ?_, trivial⟩
        · intro D σ w1 a hnd hw hR hin hout
          have e21 : (a.tmps[21]?).getD undef = .slice (some ⟨gK, 0, none⟩) 4 4 := (evalT a 21).symm.trans ((hout 21 (by kernel_rfl)).trans (by kernel_rfl))
          refine eff_val (v := .slice (some ⟨gK, 0, none⟩) 4 4) (w' := w1) ?_ ⟨fun _ => rfl, fun h => hR.c1 (h.resolve_left (by decide)), fun h => hR.c2 (h.resolve_left (by decide)), fun h => hR.c3 (h.resolve_left (by decide)), fun h => hR.c4 (h.resolve_left (by decide)), fun h => hR.c5 (h.resolve_left (by decide)), fun h => hR.c6 (h.resolve_left (by decide)), fun h => hR.c7 (h.resolve_left (by decide)), fun h => hR.c8 (h.resolve_left (by decide)), fun h => hR.c9 (h.resolve_left (by decide)), fun h => hR.c10 (h.resolve_left (by decide)), fun h => hR.c11 (h.resolve_left (by decide)), fun h => hR.c12 (h.resolve_left (by decide)), fun h => hR.c13 (h.resolve_left (by decide)), fun h => hR.c14 (h.resolve_left (by decide)), fun h => hR.c15 (h.resolve_left (by decide)), fun h => by obtain ⟨b, e, hb, hc, hs⟩ := hR.c16 (h.resolve_left (by decide)); exact ⟨b, e, hb, hc, fun h => hs (h.resolve_left (by decide))⟩, fun h => by obtain ⟨b, e, hb, hc, hs⟩ := hR.c17 (h.resolve_left (by decide)); exact ⟨b, e, hb, hc, fun h => hs (h.resolve_left (by decide))⟩, fun h h2 => hR.ne (h.resolve_left (by decide)) (h2.resolve_left (by decide)), fun h => .inr (hR.k18 (h.resolve_left (by decide))), fun h => .inr (hR.k19 (h.resolve_left (by decide))), hR.bk, hR.below⟩
          clear hin hout hw hR
          go_simp
          first | done | rfl
        · intro D σ w1 a hnd hw hR hin hout
          have e20 : (a.tmps[20]?).getD undef = .int .u64 0 := (evalT a 20).symm.trans ((hout 20 (by kernel_rfl)).trans (by kernel_rfl))
          refine eff_val (v := .int .u64 0) (w' := w1) ?_ ⟨fun h => hR.c0 (h.resolve_left (by decide)), fun _ => rfl, fun h => hR.c2 (h.resolve_left (by decide)), fun h => hR.c3 (h.resolve_left (by decide)), fun h => hR.c4 (h.resolve_left (by decide)), fun h => hR.c5 (h.resolve_left (by decide)), fun h => hR.c6 (h.resolve_left (by decide)), fun h => hR.c7 (h.resolve_left (by decide)), fun h => hR.c8 (h.resolve_left (by decide)), fun h => hR.c9 (h.resolve_left (by decide)), fun h => hR.c10 (h.resolve_left (by decide)), fun h => hR.c11 (h.resolve_left (by decide)), fun h => hR.c12 (h.resolve_left (by decide)), fun h => hR.c13 (h.resolve_left (by decide)), fun h => hR.c14 (h.resolve_left (by decide)), fun h => hR.c15 (h.resolve_left (by decide)), fun h => by obtain ⟨b, e, hb, hc, hs⟩ := hR.c16 (h.resolve_left (by decide)); exact ⟨b, e, hb, hc, fun h => hs (h.resolve_left (by decide))⟩, fun h => by obtain ⟨b, e, hb, hc, hs⟩ := hR.c17 (h.resolve_left (by decide)); exact ⟨b, e, hb, hc, fun h => hs (h.resolve_left (by decide))⟩, fun h h2 => hR.ne (h.resolve_left (by decide)) (h2.resolve_left (by decide)), fun h => .inr (hR.k18 (h.resolve_left (by decide))), fun h => .inr (hR.k19 (h.resolve_left (by decide))), hR.bk, hR.below⟩
          clear hin hout hw hR
          go_simp
          first | done | rfl
        · intro D σ w1 a hnd hw hR hin hout
          have e89 : (a.tmps[89]?).getD undef = .int .u64 0 := (evalT a 89).symm.trans <| (hin 1 _ 89 rfl rfl).trans (hR.c1 (hw 1 (by kernel_rfl)))
          refine eff_val (v := .int .u64 0) (w' := w1) ?_ ⟨fun h => hR.c0 (h.resolve_left (by decide)), fun h => hR.c1 (h.resolve_left (by decide)), fun _ => rfl, fun h => hR.c3 (h.resolve_left (by decide)), fun h => hR.c4 (h.resolve_left (by decide)), fun h => hR.c5 (h.resolve_left (by decide)), fun h => hR.c6 (h.resolve_left (by decide)), fun h => hR.c7 (h.resolve_left (by decide)), fun h => hR.c8 (h.resolve_left (by decide)), fun h => hR.c9 (h.resolve_left (by decide)), fun h => hR.c10 (h.resolve_left (by decide)), fun h => hR.c11 (h.resolve_left (by decide)), fun h => hR.c12 (h.resolve_left (by decide)), fun h => hR.c13 (h.resolve_left (by decide)), fun h => hR.c14 (h.resolve_left (by decide)), fun h => hR.c15 (h.resolve_left (by decide)), fun h => by obtain ⟨b, e, hb, hc, hs⟩ := hR.c16 (h.resolve_left (by decide)); exact ⟨b, e, hb, hc, fun h => hs (h.resolve_left (by decide))⟩, fun h => by obtain ⟨b, e, hb, hc, hs⟩ := hR.c17 (h.resolve_left (by decide)); exact ⟨b, e, hb, hc, fun h => hs (h.resolve_left (by decide))⟩, fun h h2 => hR.ne (h.resolve_left (by decide)) (h2.resolve_left (by decide)), fun h => .inr (hR.k18 (h.resolve_left (by decide))), fun h => .inr (hR.k19 (h.resolve_left (by decide))), hR.bk, hR.below⟩
          clear hin hout hw hR
          go_simp
          first | done | rfl
        · intro D σ w1 a hnd hw hR hin hout
          have e88 : (a.tmps[88]?).getD undef = .slice (some ⟨gK, 0, none⟩) 4 4 := (evalT a 88).symm.trans <| (hin 0 _ 88 rfl rfl).trans (hR.c0 (hw 0 (by kernel_rfl)))
          have e90 : (a.tmps[90]?).getD undef = .int .u64 0 := (evalT a 90).symm.trans <| (hin 2 _ 90 rfl rfl).trans (hR.c2 (hw 2 (by kernel_rfl)))
          refine eff_val (v := .pointer (some ⟨gK, 0, none⟩)) (w' := w1) ?_ ⟨fun h => hR.c0 (h.resolve_left (by decide)), fun h => hR.c1 (h.resolve_left (by decide)), fun h => hR.c2 (h.resolve_left (by decide)), fun _ => rfl, fun h => hR.c4 (h.resolve_left (by decide)), fun h => hR.c5 (h.resolve_left (by decide)), fun h => hR.c6 (h.resolve_left (by decide)), fun h => hR.c7 (h.resolve_left (by decide)), fun h => hR.c8 (h.resolve_left (by decide)), fun h => hR.c9 (h.resolve_left (by decide)), fun h => hR.c10 (h.resolve_left (by decide)), fun h => hR.c11 (h.resolve_left (by decide)), fun h => hR.c12 (h.resolve_left (by decide)), fun h => hR.c13 (h.resolve_left (by decide)), fun h => hR.c14 (h.resolve_left (by decide)), fun h => hR.c15 (h.resolve_left (by decide)), fun h => by obtain ⟨b, e, hb, hc, hs⟩ := hR.c16 (h.resolve_left (by decide)); exact ⟨b, e, hb, hc, fun h => hs (h.resolve_left (by decide))⟩, fun h => by obtain ⟨b, e, hb, hc, hs⟩ := hR.c17 (h.resolve_left (by decide)); exact ⟨b, e, hb, hc, fun h => hs (h.resolve_left (by decide))⟩, fun h h2 => hR.ne (h.resolve_left (by decide)) (h2.resolve_left (by decide)), fun h => .inr (hR.k18 (h.resolve_left (by decide))), fun h => .inr (hR.k19 (h.resolve_left (by decide))), hR.bk, hR.below⟩
          clear hin hout hw hR
          go_simp
          first | done | rfl
        · intro D σ w1 a hnd hw hR hin hout
          have e91 : (a.tmps[91]?).getD undef = .pointer (some ⟨gK, 0, none⟩) := (evalT a 91).symm.trans <| (hin 3 _ 91 rfl rfl).trans (hR.c3 (hw 3 (by kernel_rfl)))
          have k0 := hR.bk.cell 0
          simp at k0
          refine eff_val (v := .int .i64 0) (w' := w1) ?_ ⟨fun h => hR.c0 (h.resolve_left (by decide)), fun h => hR.c1 (h.resolve_left (by decide)), fun h => hR.c2 (h.resolve_left (by decide)), fun h => hR.c3 (h.resolve_left (by decide)), fun _ => rfl, fun h => hR.c5 (h.resolve_left (by decide)), fun h => hR.c6 (h.resolve_left (by decide)), fun h => hR.c7 (h.resolve_left (by decide)), fun h => hR.c8 (h.resolve_left (by decide)), fun h => hR.c9 (h.resolve_left (by decide)), fun h => hR.c10 (h.resolve_left (by decide)), fun h => hR.c11 (h.resolve_left (by decide)), fun h => hR.c12 (h.resolve_left (by decide)), fun h => hR.c13 (h.resolve_left (by decide)), fun h => hR.c14 (h.resolve_left (by decide)), fun h => hR.c15 (h.resolve_left (by decide)), fun h => by obtain ⟨b, e, hb, hc, hs⟩ := hR.c16 (h.resolve_left (by decide)); exact ⟨b, e, hb, hc, fun h => hs (h.resolve_left (by decide))⟩, fun h => by obtain ⟨b, e, hb, hc, hs⟩ := hR.c17 (h.resolve_left (by decide)); exact ⟨b, e, hb, hc, fun h => hs (h.resolve_left (by decide))⟩, fun h h2 => hR.ne (h.resolve_left (by decide)) (h2.resolve_left (by decide)), fun h => .inr (hR.k18 (h.resolve_left (by decide))), fun h => .inr (hR.k19 (h.resolve_left (by decide))), hR.bk, hR.below⟩
          clear hin hout hw hR
          go_simp
          first | done | rfl
        · intro D σ w1 a hnd hw hR hin hout
          have e17 : (a.tmps[17]?).getD undef = .int .i64 0 := (evalT a 17).symm.trans ((hout 17 (by kernel_rfl)).trans (by kernel_rfl))
          refine eff_val (v := .int .i64 0) (w' := w1) ?_ ⟨fun h => hR.c0 (h.resolve_left (by decide)), fun h => hR.c1 (h.resolve_left (by decide)), fun h => hR.c2 (h.resolve_left (by decide)), fun h => hR.c3 (h.resolve_left (by decide)), fun h => hR.c4 (h.resolve_left (by decide)), fun _ => rfl, fun h => hR.c6 (h.resolve_left (by decide)), fun h => hR.c7 (h.resolve_left (by decide)), fun h => hR.c8 (h.resolve_left (by decide)), fun h => hR.c9 (h.resolve_left (by decide)), fun h => hR.c10 (h.resolve_left (by decide)), fun h => hR.c11 (h.resolve_left (by decide)), fun h => hR.c12 (h.resolve_left (by decide)), fun h => hR.c13 (h.resolve_left (by decide)), fun h => hR.c14 (h.resolve_left (by decide)), fun h => hR.c15 (h.resolve_left (by decide)), fun h => by obtain ⟨b, e, hb, hc, hs⟩ := hR.c16 (h.resolve_left (by decide)); exact ⟨b, e, hb, hc, fun h => hs (h.resolve_left (by decide))⟩, fun h => by obtain ⟨b, e, hb, hc, hs⟩ := hR.c17 (h.resolve_left (by decide)); exact ⟨b, e, hb, hc, fun h => hs (h.resolve_left (by decide))⟩, fun h h2 => hR.ne (h.resolve_left (by decide)) (h2.resolve_left (by decide)), fun h => .inr (hR.k18 (h.resolve_left (by decide))), fun h => .inr (hR.k19 (h.resolve_left (by decide))), hR.bk, hR.below⟩
          clear hin hout hw hR
          go_simp
          first | done | rfl
        · intro D σ w1 a hnd hw hR hin hout
          have e93 : (a.tmps[93]?).getD undef = .int .i64 0 := (evalT a 93).symm.trans <| (hin 5 _ 93 rfl rfl).trans (hR.c5 (hw 5 (by kernel_rfl)))
          refine eff_call 14 #[.int .i64 0] ?_ ?_
          · clear hin hout hw hR
            go_simp
            first | done | rfl
          refine (h14a _).mono ?_
          rintro e w' ⟨rfl, hqb⟩
          exact ⟨_, rfl, ⟨fun h => hR.c0 (h.resolve_left (by decide)), fun h => hR.c1 (h.resolve_left (by decide)), fun h => hR.c2 (h.resolve_left (by decide)), fun h => hR.c3 (h.resolve_left (by decide)), fun h => hR.c4 (h.resolve_left (by decide)), fun h => hR.c5 (h.resolve_left (by decide)), fun _ => rfl, fun h => hR.c7 (h.resolve_left (by decide)), fun h => hR.c8 (h.resolve_left (by decide)), fun h => hR.c9 (h.resolve_left (by decide)), fun h => hR.c10 (h.resolve_left (by decide)), fun h => hR.c11 (h.resolve_left (by decide)), fun h => hR.c12 (h.resolve_left (by decide)), fun h => hR.c13 (h.resolve_left (by decide)), fun h => hR.c14 (h.resolve_left (by decide)), fun h => hR.c15 (h.resolve_left (by decide)), fun h => by obtain ⟨b, e, hb, hc, hs⟩ := hR.c16 (h.resolve_left (by decide)); exact ⟨b, e, hb, hc.imp (fun x => blk_on x hqb) (fun x => blk_on x hqb), fun h => blk_on (hs (h.resolve_left (by decide))) hqb⟩, fun h => by obtain ⟨b, e, hb, hc, hs⟩ := hR.c17 (h.resolve_left (by decide)); exact ⟨b, e, hb, hc.imp (fun x => blk_on x hqb) (fun x => blk_on x hqb), fun h => blk_on (hs (h.resolve_left (by decide))) hqb⟩, fun h h2 => hR.ne (h.resolve_left (by decide)) (h2.resolve_left (by decide)), fun h => .inr (hR.k18 (h.resolve_left (by decide))), fun h => .inr (hR.k19 (h.resolve_left (by decide))), blk_on hR.bk hqb, hR.below.trans (hqb.mono hR.below.size)⟩⟩
        · intro D σ w1 a hnd hw hR hin hout
          have e92 : (a.tmps[92]?).getD undef = .int .i64 0 := (evalT a 92).symm.trans <| (hin 4 _ 92 rfl rfl).trans (hR.c4 (hw 4 (by kernel_rfl)))
          have e94 : (a.tmps[94]?).getD undef = .string P0 := (evalT a 94).symm.trans <| (hin 6 _ 94 rfl rfl).trans (hR.c6 (hw 6 (by kernel_rfl)))
          refine eff_call 17 #[.int .i64 0, .int .i64 0, .string P0] ?_ ?_
          · clear hin hout hw hR
            go_simp
            first | done | rfl
          refine (h17a _).mono ?_
          rintro e w' ⟨rfl, hqb⟩
          exact ⟨_, rfl, ⟨fun h => hR.c0 (h.resolve_left (by decide)), fun h => hR.c1 (h.resolve_left (by decide)), fun h => hR.c2 (h.resolve_left (by decide)), fun h => hR.c3 (h.resolve_left (by decide)), fun h => hR.c4 (h.resolve_left (by decide)), fun h => hR.c5 (h.resolve_left (by decide)), fun h => hR.c6 (h.resolve_left (by decide)), fun _ => rfl, fun h => hR.c8 (h.resolve_left (by decide)), fun h => hR.c9 (h.resolve_left (by decide)), fun h => hR.c10 (h.resolve_left (by decide)), fun h => hR.c11 (h.resolve_left (by decide)), fun h => hR.c12 (h.resolve_left (by decide)), fun h => hR.c13 (h.resolve_left (by decide)), fun h => hR.c14 (h.resolve_left (by decide)), fun h => hR.c15 (h.resolve_left (by decide)), fun h => by obtain ⟨b, e, hb, hc, hs⟩ := hR.c16 (h.resolve_left (by decide)); exact ⟨b, e, hb, hc.imp (fun x => blk_on x hqb) (fun x => blk_on x hqb), fun h => blk_on (hs (h.resolve_left (by decide))) hqb⟩, fun h => by obtain ⟨b, e, hb, hc, hs⟩ := hR.c17 (h.resolve_left (by decide)); exact ⟨b, e, hb, hc.imp (fun x => blk_on x hqb) (fun x => blk_on x hqb), fun h => blk_on (hs (h.resolve_left (by decide))) hqb⟩, fun h h2 => hR.ne (h.resolve_left (by decide)) (h2.resolve_left (by decide)), fun h => .inr (hR.k18 (h.resolve_left (by decide))), fun h => .inr (hR.k19 (h.resolve_left (by decide))), blk_on hR.bk hqb, hR.below.trans (hqb.mono hR.below.size)⟩⟩
        · intro D σ w1 a hnd hw hR hin hout
          have e21 : (a.tmps[21]?).getD undef = .slice (some ⟨gK, 0, none⟩) 4 4 := (evalT a 21).symm.trans ((hout 21 (by kernel_rfl)).trans (by kernel_rfl))
          refine eff_val (v := .slice (some ⟨gK, 0, none⟩) 4 4) (w' := w1) ?_ ⟨fun h => hR.c0 (h.resolve_left (by decide)), fun h => hR.c1 (h.resolve_left (by decide)), fun h => hR.c2 (h.resolve_left (by decide)), fun h => hR.c3 (h.resolve_left (by decide)), fun h => hR.c4 (h.resolve_left (by decide)), fun h => hR.c5 (h.resolve_left (by decide)), fun h => hR.c6 (h.resolve_left (by decide)), fun h => hR.c7 (h.resolve_left (by decide)), fun _ => rfl, fun h => hR.c9 (h.resolve_left (by decide)), fun h => hR.c10 (h.resolve_left (by decide)), fun h => hR.c11 (h.resolve_left (by decide)), fun h => hR.c12 (h.resolve_left (by decide)), fun h => hR.c13 (h.resolve_left (by decide)), fun h => hR.c14 (h.resolve_left (by decide)), fun h => hR.c15 (h.resolve_left (by decide)), fun h => by obtain ⟨b, e, hb, hc, hs⟩ := hR.c16 (h.resolve_left (by decide)); exact ⟨b, e, hb, hc, fun h => hs (h.resolve_left (by decide))⟩, fun h => by obtain ⟨b, e, hb, hc, hs⟩ := hR.c17 (h.resolve_left (by decide)); exact ⟨b, e, hb, hc, fun h => hs (h.resolve_left (by decide))⟩, fun h h2 => hR.ne (h.resolve_left (by decide)) (h2.resolve_left (by decide)), fun h => .inr (hR.k18 (h.resolve_left (by decide))), fun h => .inr (hR.k19 (h.resolve_left (by decide))), hR.bk, hR.below⟩
          clear hin hout hw hR
          go_simp
          first | done | rfl
        · intro D σ w1 a hnd hw hR hin hout
          have e20 : (a.tmps[20]?).getD undef = .int .u64 0 := (evalT a 20).symm.trans ((hout 20 (by kernel_rfl)).trans (by kernel_rfl))
          refine eff_val (v := .int .u64 0) (w' := w1) ?_ ⟨fun h => hR.c0 (h.resolve_left (by decide)), fun h => hR.c1 (h.resolve_left (by decide)), fun h => hR.c2 (h.resolve_left (by decide)), fun h => hR.c3 (h.resolve_left (by decide)), fun h => hR.c4 (h.resolve_left (by decide)), fun h => hR.c5 (h.resolve_left (by decide)), fun h => hR.c6 (h.resolve_left (by decide)), fun h => hR.c7 (h.resolve_left (by decide)), fun h => hR.c8 (h.resolve_left (by decide)), fun _ => rfl, fun h => hR.c10 (h.resolve_left (by decide)), fun h => hR.c11 (h.resolve_left (by decide)), fun h => hR.c12 (h.resolve_left (by decide)), fun h => hR.c13 (h.resolve_left (by decide)), fun h => hR.c14 (h.resolve_left (by decide)), fun h => hR.c15 (h.resolve_left (by decide)), fun h => by obtain ⟨b, e, hb, hc, hs⟩ := hR.c16 (h.resolve_left (by decide)); exact ⟨b, e, hb, hc, fun h => hs (h.resolve_left (by decide))⟩, fun h => by obtain ⟨b, e, hb, hc, hs⟩ := hR.c17 (h.resolve_left (by decide)); exact ⟨b, e, hb, hc, fun h => hs (h.resolve_left (by decide))⟩, fun h h2 => hR.ne (h.resolve_left (by decide)) (h2.resolve_left (by decide)), fun h => .inr (hR.k18 (h.resolve_left (by decide))), fun h => .inr (hR.k19 (h.resolve_left (by decide))), hR.bk, hR.below⟩
          clear hin hout hw hR
          go_simp
          first | done | rfl
        · intro D σ w1 a hnd hw hR hin hout
          have e97 : (a.tmps[97]?).getD undef = .int .u64 0 := (evalT a 97).symm.trans <| (hin 9 _ 97 rfl rfl).trans (hR.c9 (hw 9 (by kernel_rfl)))
          refine eff_val (v := .int .u64 0) (w' := w1) ?_ ⟨fun h => hR.c0 (h.resolve_left (by decide)), fun h => hR.c1 (h.resolve_left (by decide)), fun h => hR.c2 (h.resolve_left (by decide)), fun h => hR.c3 (h.resolve_left (by decide)), fun h => hR.c4 (h.resolve_left (by decide)), fun h => hR.c5 (h.resolve_left (by decide)), fun h => hR.c6 (h.resolve_left (by decide)), fun h => hR.c7 (h.resolve_left (by decide)), fun h => hR.c8 (h.resolve_left (by decide)), fun h => hR.c9 (h.resolve_left (by decide)), fun _ => rfl, fun h => hR.c11 (h.resolve_left (by decide)), fun h => hR.c12 (h.resolve_left (by decide)), fun h => hR.c13 (h.resolve_left (by decide)), fun h => hR.c14 (h.resolve_left (by decide)), fun h => hR.c15 (h.resolve_left (by decide)), fun h => by obtain ⟨b, e, hb, hc, hs⟩ := hR.c16 (h.resolve_left (by decide)); exact ⟨b, e, hb, hc, fun h => hs (h.resolve_left (by decide))⟩, fun h => by obtain ⟨b, e, hb, hc, hs⟩ := hR.c17 (h.resolve_left (by decide)); exact ⟨b, e, hb, hc, fun h => hs (h.resolve_left (by decide))⟩, fun h h2 => hR.ne (h.resolve_left (by decide)) (h2.resolve_left (by decide)), fun h => .inr (hR.k18 (h.resolve_left (by decide))), fun h => .inr (hR.k19 (h.resolve_left (by decide))), hR.bk, hR.below⟩
          clear hin hout hw hR
          go_simp
          first | done | rfl
        · intro D σ w1 a hnd hw hR hin hout
          have e96 : (a.tmps[96]?).getD undef = .slice (some ⟨gK, 0, none⟩) 4 4 := (evalT a 96).symm.trans <| (hin 8 _ 96 rfl rfl).trans (hR.c8 (hw 8 (by kernel_rfl)))
          have e98 : (a.tmps[98]?).getD undef = .int .u64 0 := (evalT a 98).symm.trans <| (hin 10 _ 98 rfl rfl).trans (hR.c10 (hw 10 (by kernel_rfl)))
          refine eff_val (v := .pointer (some ⟨gK, 0, none⟩)) (w' := w1) ?_ ⟨fun h => hR.c0 (h.resolve_left (by decide)), fun h => hR.c1 (h.resolve_left (by decide)), fun h => hR.c2 (h.resolve_left (by decide)), fun h => hR.c3 (h.resolve_left (by decide)), fun h => hR.c4 (h.resolve_left (by decide)), fun h => hR.c5 (h.resolve_left (by decide)), fun h => hR.c6 (h.resolve_left (by decide)), fun h => hR.c7 (h.resolve_left (by decide)), fun h => hR.c8 (h.resolve_left (by decide)), fun h => hR.c9 (h.resolve_left (by decide)), fun h => hR.c10 (h.resolve_left (by decide)), fun _ => rfl, fun h => hR.c12 (h.resolve_left (by decide)), fun h => hR.c13 (h.resolve_left (by decide)), fun h => hR.c14 (h.resolve_left (by decide)), fun h => hR.c15 (h.resolve_left (by decide)), fun h => by obtain ⟨b, e, hb, hc, hs⟩ := hR.c16 (h.resolve_left (by decide)); exact ⟨b, e, hb, hc, fun h => hs (h.resolve_left (by decide))⟩, fun h => by obtain ⟨b, e, hb, hc, hs⟩ := hR.c17 (h.resolve_left (by decide)); exact ⟨b, e, hb, hc, fun h => hs (h.resolve_left (by decide))⟩, fun h h2 => hR.ne (h.resolve_left (by decide)) (h2.resolve_left (by decide)), fun h => .inr (hR.k18 (h.resolve_left (by decide))), fun h => .inr (hR.k19 (h.resolve_left (by decide))), hR.bk, hR.below⟩
          clear hin hout hw hR
          go_simp
          first | done | rfl
        · intro D σ w1 a hnd hw hR hin hout
          have e99 : (a.tmps[99]?).getD undef = .pointer (some ⟨gK, 0, none⟩) := (evalT a 99).symm.trans <| (hin 11 _ 99 rfl rfl).trans (hR.c11 (hw 11 (by kernel_rfl)))
          have k0 := hR.bk.cell 0
          simp at k0
          refine eff_val (v := .int .i64 0) (w' := w1) ?_ ⟨fun h => hR.c0 (h.resolve_left (by decide)), fun h => hR.c1 (h.resolve_left (by decide)), fun h => hR.c2 (h.resolve_left (by decide)), fun h => hR.c3 (h.resolve_left (by decide)), fun h => hR.c4 (h.resolve_left (by decide)), fun h => hR.c5 (h.resolve_left (by decide)), fun h => hR.c6 (h.resolve_left (by decide)), fun h => hR.c7 (h.resolve_left (by decide)), fun h => hR.c8 (h.resolve_left (by decide)), fun h => hR.c9 (h.resolve_left (by decide)), fun h => hR.c10 (h.resolve_left (by decide)), fun h => hR.c11 (h.resolve_left (by decide)), fun _ => rfl, fun h => hR.c13 (h.resolve_left (by decide)), fun h => hR.c14 (h.resolve_left (by decide)), fun h => hR.c15 (h.resolve_left (by decide)), fun h => by obtain ⟨b, e, hb, hc, hs⟩ := hR.c16 (h.resolve_left (by decide)); exact ⟨b, e, hb, hc, fun h => hs (h.resolve_left (by decide))⟩, fun h => by obtain ⟨b, e, hb, hc, hs⟩ := hR.c17 (h.resolve_left (by decide)); exact ⟨b, e, hb, hc, fun h => hs (h.resolve_left (by decide))⟩, fun h h2 => hR.ne (h.resolve_left (by decide)) (h2.resolve_left (by decide)), fun h => .inr (hR.k18 (h.resolve_left (by decide))), fun h => .inr (hR.k19 (h.resolve_left (by decide))), hR.bk, hR.below⟩
          clear hin hout hw hR
          go_simp
          first | done | rfl
        · intro D σ w1 a hnd hw hR hin hout
          have e18 : (a.tmps[18]?).getD undef = .int .i64 1 := (evalT a 18).symm.trans ((hout 18 (by kernel_rfl)).trans (by kernel_rfl))
          refine eff_val (v := .int .i64 1) (w' := w1) ?_ ⟨fun h => hR.c0 (h.resolve_left (by decide)), fun h => hR.c1 (h.resolve_left (by decide)), fun h => hR.c2 (h.resolve_left (by decide)), fun h => hR.c3 (h.resolve_left (by decide)), fun h => hR.c4 (h.resolve_left (by decide)), fun h => hR.c5 (h.resolve_left (by decide)), fun h => hR.c6 (h.resolve_left (by decide)), fun h => hR.c7 (h.resolve_left (by decide)), fun h => hR.c8 (h.resolve_left (by decide)), fun h => hR.c9 (h.resolve_left (by decide)), fun h => hR.c10 (h.resolve_left (by decide)), fun h => hR.c11 (h.resolve_left (by decide)), fun h => hR.c12 (h.resolve_left (by decide)), fun _ => rfl, fun h => hR.c14 (h.resolve_left (by decide)), fun h => hR.c15 (h.resolve_left (by decide)), fun h => by obtain ⟨b, e, hb, hc, hs⟩ := hR.c16 (h.resolve_left (by decide)); exact ⟨b, e, hb, hc, fun h => hs (h.resolve_left (by decide))⟩, fun h => by obtain ⟨b, e, hb, hc, hs⟩ := hR.c17 (h.resolve_left (by decide)); exact ⟨b, e, hb, hc, fun h => hs (h.resolve_left (by decide))⟩, fun h h2 => hR.ne (h.resolve_left (by decide)) (h2.resolve_left (by decide)), fun h => .inr (hR.k18 (h.resolve_left (by decide))), fun h => .inr (hR.k19 (h.resolve_left (by decide))), hR.bk, hR.below⟩
          clear hin hout hw hR
          go_simp
          first | done | rfl
        · intro D σ w1 a hnd hw hR hin hout
          have e101 : (a.tmps[101]?).getD undef = .int .i64 1 := (evalT a 101).symm.trans <| (hin 13 _ 101 rfl rfl).trans (hR.c13 (hw 13 (by kernel_rfl)))
          refine eff_call 14 #[.int .i64 1] ?_ ?_
          · clear hin hout hw hR
            go_simp
            first | done | rfl
          refine (h14b _).mono ?_
          rintro e w' ⟨rfl, hqb⟩
          exact ⟨_, rfl, ⟨fun h => hR.c0 (h.resolve_left (by decide)), fun h => hR.c1 (h.resolve_left (by decide)), fun h => hR.c2 (h.resolve_left (by decide)), fun h => hR.c3 (h.resolve_left (by decide)), fun h => hR.c4 (h.resolve_left (by decide)), fun h => hR.c5 (h.resolve_left (by decide)), fun h => hR.c6 (h.resolve_left (by decide)), fun h => hR.c7 (h.resolve_left (by decide)), fun h => hR.c8 (h.resolve_left (by decide)), fun h => hR.c9 (h.resolve_left (by decide)), fun h => hR.c10 (h.resolve_left (by decide)), fun h => hR.c11 (h.resolve_left (by decide)), fun h => hR.c12 (h.resolve_left (by decide)), fun h => hR.c13 (h.resolve_left (by decide)), fun _ => rfl, fun h => hR.c15 (h.resolve_left (by decide)), fun h => by obtain ⟨b, e, hb, hc, hs⟩ := hR.c16 (h.resolve_left (by decide)); exact ⟨b, e, hb, hc.imp (fun x => blk_on x hqb) (fun x => blk_on x hqb), fun h => blk_on (hs (h.resolve_left (by decide))) hqb⟩, fun h => by obtain ⟨b, e, hb, hc, hs⟩ := hR.c17 (h.resolve_left (by decide)); exact ⟨b, e, hb, hc.imp (fun x => blk_on x hqb) (fun x => blk_on x hqb), fun h => blk_on (hs (h.resolve_left (by decide))) hqb⟩, fun h h2 => hR.ne (h.resolve_left (by decide)) (h2.resolve_left (by decide)), fun h => .inr (hR.k18 (h.resolve_left (by decide))), fun h => .inr (hR.k19 (h.resolve_left (by decide))), blk_on hR.bk hqb, hR.below.trans (hqb.mono hR.below.size)⟩⟩
        · intro D σ w1 a hnd hw hR hin hout
          have e100 : (a.tmps[100]?).getD undef = .int .i64 0 := (evalT a 100).symm.trans <| (hin 12 _ 100 rfl rfl).trans (hR.c12 (hw 12 (by kernel_rfl)))
          have e102 : (a.tmps[102]?).getD undef = .string P1 := (evalT a 102).symm.trans <| (hin 14 _ 102 rfl rfl).trans (hR.c14 (hw 14 (by kernel_rfl)))
          refine eff_call 17 #[.int .i64 0, .int .i64 1, .string P1] ?_ ?_
          · clear hin hout hw hR
            go_simp
            first | done | rfl
          refine (h17b _).mono ?_
          rintro e w' ⟨rfl, hqb⟩
          exact ⟨_, rfl, ⟨fun h => hR.c0 (h.resolve_left (by decide)), fun h => hR.c1 (h.resolve_left (by decide)), fun h => hR.c2 (h.resolve_left (by decide)), fun h => hR.c3 (h.resolve_left (by decide)), fun h => hR.c4 (h.resolve_left (by decide)), fun h => hR.c5 (h.resolve_left (by decide)), fun h => hR.c6 (h.resolve_left (by decide)), fun h => hR.c7 (h.resolve_left (by decide)), fun h => hR.c8 (h.resolve_left (by decide)), fun h => hR.c9 (h.resolve_left (by decide)), fun h => hR.c10 (h.resolve_left (by decide)), fun h => hR.c11 (h.resolve_left (by decide)), fun h => hR.c12 (h.resolve_left (by decide)), fun h => hR.c13 (h.resolve_left (by decide)), fun h => hR.c14 (h.resolve_left (by decide)), fun _ => rfl, fun h => by obtain ⟨b, e, hb, hc, hs⟩ := hR.c16 (h.resolve_left (by decide)); exact ⟨b, e, hb, hc.imp (fun x => blk_on x hqb) (fun x => blk_on x hqb), fun h => blk_on (hs (h.resolve_left (by decide))) hqb⟩, fun h => by obtain ⟨b, e, hb, hc, hs⟩ := hR.c17 (h.resolve_left (by decide)); exact ⟨b, e, hb, hc.imp (fun x => blk_on x hqb) (fun x => blk_on x hqb), fun h => blk_on (hs (h.resolve_left (by decide))) hqb⟩, fun h h2 => hR.ne (h.resolve_left (by decide)) (h2.resolve_left (by decide)), fun h => .inr (hR.k18 (h.resolve_left (by decide))), fun h => .inr (hR.k19 (h.resolve_left (by decide))), blk_on hR.bk hqb, hR.below.trans (hqb.mono hR.below.size)⟩⟩
        · intro D σ w1 a hnd hw hR hin hout
          refine eff_val (v := .pointer (some ⟨w1.heap.size, 0, none⟩)) (w' := w1.alloc (.cells #[.int .i64 0, .int .i64 0, .int .i64 0, .int .i64 0, .int .i64 0, .string { data := #[] }, .string { data := #[] }, .string { data := #[] }] 29)) ?_ ⟨fun h => hR.c0 (h.resolve_left (by decide)), fun h => hR.c1 (h.resolve_left (by decide)), fun h => hR.c2 (h.resolve_left (by decide)), fun h => hR.c3 (h.resolve_left (by decide)), fun h => hR.c4 (h.resolve_left (by decide)), fun h => hR.c5 (h.resolve_left (by decide)), fun h => hR.c6 (h.resolve_left (by decide)), fun h => hR.c7 (h.resolve_left (by decide)), fun h => hR.c8 (h.resolve_left (by decide)), fun h => hR.c9 (h.resolve_left (by decide)), fun h => hR.c10 (h.resolve_left (by decide)), fun h => hR.c11 (h.resolve_left (by decide)), fun h => hR.c12 (h.resolve_left (by decide)), fun h => hR.c13 (h.resolve_left (by decide)), fun h => hR.c14 (h.resolve_left (by decide)), fun h => hR.c15 (h.resolve_left (by decide)), fun _ => ⟨w1.heap.size, rfl, hR.below.size, .inl (Blk.new w1 #[.int .i64 0, .int .i64 0, .int .i64 0, .int .i64 0, .int .i64 0, .string { data := #[] }, .string { data := #[] }, .string { data := #[] }] 29), fun h => absurd (hR.k18 (h.resolve_left (by decide))) hnd⟩, fun h => by obtain ⟨b, e, hb, hc, hs⟩ := hR.c17 (h.resolve_left (by decide)); exact ⟨b, e, hb, hc.imp (fun x => Blk.alloc x _) (fun x => Blk.alloc x _), fun h => Blk.alloc (hs (h.resolve_left (by decide))) _⟩, fun _ h2 e => by obtain ⟨b, e2, hb, hc, hs⟩ := hR.c17 (h2.resolve_left (by decide)); have e3 : σ 17 = .pointer (some ⟨w1.heap.size, 0, none⟩) := e.symm; rw [e2] at e3; cases e3; have := hc.elim (fun x => x.lt.lt) (fun x => x.lt.lt); omega, fun _ => .inl rfl, fun h => .inr (hR.k19 (h.resolve_left (by decide))), hR.bk.alloc _, hR.below.trans ((bel w1 _).mono hR.below.size)⟩
          clear hin hout hw hR
          go_simp
        · intro D σ w1 a hnd hw hR hin hout
          refine eff_val (v := .pointer (some ⟨w1.heap.size, 0, none⟩)) (w' := w1.alloc (.cells #[.int .i64 0, .int .i64 0, .int .i64 0, .int .i64 0, .int .i64 0, .string { data := #[] }, .string { data := #[] }, .string { data := #[] }] 29)) ?_ ⟨fun h => hR.c0 (h.resolve_left (by decide)), fun h => hR.c1 (h.resolve_left (by decide)), fun h => hR.c2 (h.resolve_left (by decide)), fun h => hR.c3 (h.resolve_left (by decide)), fun h => hR.c4 (h.resolve_left (by decide)), fun h => hR.c5 (h.resolve_left (by decide)), fun h => hR.c6 (h.resolve_left (by decide)), fun h => hR.c7 (h.resolve_left (by decide)), fun h => hR.c8 (h.resolve_left (by decide)), fun h => hR.c9 (h.resolve_left (by decide)), fun h => hR.c10 (h.resolve_left (by decide)), fun h => hR.c11 (h.resolve_left (by decide)), fun h => hR.c12 (h.resolve_left (by decide)), fun h => hR.c13 (h.resolve_left (by decide)), fun h => hR.c14 (h.resolve_left (by decide)), fun h => hR.c15 (h.resolve_left (by decide)), fun h => by obtain ⟨b, e, hb, hc, hs⟩ := hR.c16 (h.resolve_left (by decide)); exact ⟨b, e, hb, hc.imp (fun x => Blk.alloc x _) (fun x => Blk.alloc x _), fun h => Blk.alloc (hs (h.resolve_left (by decide))) _⟩, fun _ => ⟨w1.heap.size, rfl, hR.below.size, .inl (Blk.new w1 #[.int .i64 0, .int .i64 0, .int .i64 0, .int .i64 0, .int .i64 0, .string { data := #[] }, .string { data := #[] }, .string { data := #[] }] 29), fun h => absurd (hR.k19 (h.resolve_left (by decide))) hnd⟩, fun h2 _ e => by obtain ⟨b, e2, hb, hc, hs⟩ := hR.c16 (h2.resolve_left (by decide)); have e3 : σ 16 = .pointer (some ⟨w1.heap.size, 0, none⟩) := e; rw [e2] at e3; cases e3; have := hc.elim (fun x => x.lt.lt) (fun x => x.lt.lt); omega, fun h => .inr (hR.k18 (h.resolve_left (by decide))), fun _ => .inl rfl, hR.bk.alloc _, hR.below.trans ((bel w1 _).mono hR.below.size)⟩
          clear hin hout hw hR
          go_simp
        · intro D σ w1 a hnd hw hR hin hout
          obtain ⟨b, eb, hbl, hbc, hbs⟩ := hR.c16 (hw 16 (by kernel_rfl))
          have e22 : (a.tmps[22]?).getD undef = .pointer (some ⟨b, 0, none⟩) := (evalT a 22).symm.trans <| (hin 16 _ 22 rfl rfl).trans eb
          have e95 : (a.tmps[95]?).getD undef = .agg #[.int .i64 0, .int .i64 0, .int .i64 0, .int .i64 0, .int .i64 0, .string P0, .string { data := #[] }, .string { data := #[] }] := (evalT a 95).symm.trans <| (hin 7 _ 95 rfl rfl).trans (hR.c7 (hw 7 (by kernel_rfl)))
          have hK : Keep (fun g => g = b) w1 ((((((((w1.setCell ⟨b, 0, none⟩ (.int .i64 0)).setCell ⟨b, 1, none⟩ (.int .i64 0)).setCell ⟨b, 2, none⟩ (.int .i64 0)).setCell ⟨b, 3, none⟩ (.int .i64 0)).setCell ⟨b, 4, none⟩ (.int .i64 0)).setCell ⟨b, 5, none⟩ (.string P0)).setCell ⟨b, 6, none⟩ (.string { data := #[] })).setCell ⟨b, 7, none⟩ (.string { data := #[] })) := ((((((((Keep.refl (fun g => g = b) w1).setCell (p := ⟨b, 0, none⟩) (.inl rfl) (.int .i64 0)).setCell (p := ⟨b, 1, none⟩) (.inl rfl) (.int .i64 0)).setCell (p := ⟨b, 2, none⟩) (.inl rfl) (.int .i64 0)).setCell (p := ⟨b, 3, none⟩) (.inl rfl) (.int .i64 0)).setCell (p := ⟨b, 4, none⟩) (.inl rfl) (.int .i64 0)).setCell (p := ⟨b, 5, none⟩) (.inl rfl) (.string P0)).setCell (p := ⟨b, 6, none⟩) (.inl rfl) (.string { data := #[] })).setCell (p := ⟨b, 7, none⟩) (.inl rfl) (.string { data := #[] })
          rcases hbc with hblk | hblk
          · have hnew : Blk ((((((((w1.setCell ⟨b, 0, none⟩ (.int .i64 0)).setCell ⟨b, 1, none⟩ (.int .i64 0)).setCell ⟨b, 2, none⟩ (.int .i64 0)).setCell ⟨b, 3, none⟩ (.int .i64 0)).setCell ⟨b, 4, none⟩ (.int .i64 0)).setCell ⟨b, 5, none⟩ (.string P0)).setCell ⟨b, 6, none⟩ (.string { data := #[] })).setCell ⟨b, 7, none⟩ (.string { data := #[] })) b #[.int .i64 0, .int .i64 0, .int .i64 0, .int .i64 0, .int .i64 0, .string P0, .string { data := #[] }, .string { data := #[] }] 29 := by
              have h := ((((((((hblk.set_ 0 (.int .i64 0)).set_ 1 (.int .i64 0)).set_ 2 (.int .i64 0)).set_ 3 (.int .i64 0)).set_ 4 (.int .i64 0)).set_ 5 (.string P0)).set_ 6 (.string { data := #[] })).set_ 7 (.string { data := #[] }))
              simpa only [List.setIfInBounds_toArray, List.set_cons_zero, List.set_cons_succ] using h
            have iB := hblk.lt
            have q0 := hblk.cell 0
            have fz0 := hblk.frozen 0
            have q1 := hblk.cell 1
            have fz1 := hblk.frozen 1
            have q2 := hblk.cell 2
            have fz2 := hblk.frozen 2
            have q3 := hblk.cell 3
            have fz3 := hblk.frozen 3
            have q4 := hblk.cell 4
            have fz4 := hblk.frozen 4
            have q5 := hblk.cell 5
            have fz5 := hblk.frozen 5
            have q6 := hblk.cell 6
            have fz6 := hblk.frozen 6
            have q7 := hblk.cell 7
            have fz7 := hblk.frozen 7
            simp at q0 q1 q2 q3 q4 q5 q6 q7
            refine eff_skip (w' := ((((((((w1.setCell ⟨b, 0, none⟩ (.int .i64 0)).setCell ⟨b, 1, none⟩ (.int .i64 0)).setCell ⟨b, 2, none⟩ (.int .i64 0)).setCell ⟨b, 3, none⟩ (.int .i64 0)).setCell ⟨b, 4, none⟩ (.int .i64 0)).setCell ⟨b, 5, none⟩ (.string P0)).setCell ⟨b, 6, none⟩ (.string { data := #[] })).setCell ⟨b, 7, none⟩ (.string { data := #[] }))) ?_ ⟨fun h => hR.c0 (h.resolve_left (by decide)), fun h => hR.c1 (h.resolve_left (by decide)), fun h => hR.c2 (h.resolve_left (by decide)), fun h => hR.c3 (h.resolve_left (by decide)), fun h => hR.c4 (h.resolve_left (by decide)), fun h => hR.c5 (h.resolve_left (by decide)), fun h => hR.c6 (h.resolve_left (by decide)), fun h => hR.c7 (h.resolve_left (by decide)), fun h => hR.c8 (h.resolve_left (by decide)), fun h => hR.c9 (h.resolve_left (by decide)), fun h => hR.c10 (h.resolve_left (by decide)), fun h => hR.c11 (h.resolve_left (by decide)), fun h => hR.c12 (h.resolve_left (by decide)), fun h => hR.c13 (h.resolve_left (by decide)), fun h => hR.c14 (h.resolve_left (by decide)), fun h => hR.c15 (h.resolve_left (by decide)), fun _ => ⟨b, eb, hbl, .inr hnew, fun _ => hnew⟩, fun h => by obtain ⟨b', e, hb', hc, hs⟩ := hR.c17 (h.resolve_left (by decide)); have hne : ¬ b' = b := (fun e4 => hR.ne (hw 16 (by kernel_rfl)) (h.resolve_left (by decide)) (by rw [eb, e, e4])); exact ⟨b', e, hb', hc.imp (fun x => hK.blk x hne) (fun x => hK.blk x hne), fun h => hK.blk (hs (h.resolve_left (by decide))) hne⟩, fun h h2 => hR.ne (h.resolve_left (by decide)) (h2.resolve_left (by decide)), fun _ => .inr (hw 16 (by kernel_rfl)), fun h => .inr (hR.k19 (h.resolve_left (by decide))), hK.blk hR.bk (fun e => by subst e; exact hR.bk.ne_ hblk (by decide) rfl), hR.below.trans (hK.below hR.below.size (fun i hi e => by omega))⟩
            clear hin hout hw hR hK hnew hbs
            go_simp
          · have hnew : Blk ((((((((w1.setCell ⟨b, 0, none⟩ (.int .i64 0)).setCell ⟨b, 1, none⟩ (.int .i64 0)).setCell ⟨b, 2, none⟩ (.int .i64 0)).setCell ⟨b, 3, none⟩ (.int .i64 0)).setCell ⟨b, 4, none⟩ (.int .i64 0)).setCell ⟨b, 5, none⟩ (.string P0)).setCell ⟨b, 6, none⟩ (.string { data := #[] })).setCell ⟨b, 7, none⟩ (.string { data := #[] })) b #[.int .i64 0, .int .i64 0, .int .i64 0, .int .i64 0, .int .i64 0, .string P0, .string { data := #[] }, .string { data := #[] }] 29 := by
              have h := ((((((((hblk.set_ 0 (.int .i64 0)).set_ 1 (.int .i64 0)).set_ 2 (.int .i64 0)).set_ 3 (.int .i64 0)).set_ 4 (.int .i64 0)).set_ 5 (.string P0)).set_ 6 (.string { data := #[] })).set_ 7 (.string { data := #[] }))
              simpa only [List.setIfInBounds_toArray, List.set_cons_zero, List.set_cons_succ] using h
            have iB := hblk.lt
            have q0 := hblk.cell 0
            have fz0 := hblk.frozen 0
            have q1 := hblk.cell 1
            have fz1 := hblk.frozen 1
            have q2 := hblk.cell 2
            have fz2 := hblk.frozen 2
            have q3 := hblk.cell 3
            have fz3 := hblk.frozen 3
            have q4 := hblk.cell 4
            have fz4 := hblk.frozen 4
            have q5 := hblk.cell 5
            have fz5 := hblk.frozen 5
            have q6 := hblk.cell 6
            have fz6 := hblk.frozen 6
            have q7 := hblk.cell 7
            have fz7 := hblk.frozen 7
            simp at q0 q1 q2 q3 q4 q5 q6 q7
            refine eff_skip (w' := ((((((((w1.setCell ⟨b, 0, none⟩ (.int .i64 0)).setCell ⟨b, 1, none⟩ (.int .i64 0)).setCell ⟨b, 2, none⟩ (.int .i64 0)).setCell ⟨b, 3, none⟩ (.int .i64 0)).setCell ⟨b, 4, none⟩ (.int .i64 0)).setCell ⟨b, 5, none⟩ (.string P0)).setCell ⟨b, 6, none⟩ (.string { data := #[] })).setCell ⟨b, 7, none⟩ (.string { data := #[] }))) ?_ ⟨fun h => hR.c0 (h.resolve_left (by decide)), fun h => hR.c1 (h.resolve_left (by decide)), fun h => hR.c2 (h.resolve_left (by decide)), fun h => hR.c3 (h.resolve_left (by decide)), fun h => hR.c4 (h.resolve_left (by decide)), fun h => hR.c5 (h.resolve_left (by decide)), fun h => hR.c6 (h.resolve_left (by decide)), fun h => hR.c7 (h.resolve_left (by decide)), fun h => hR.c8 (h.resolve_left (by decide)), fun h => hR.c9 (h.resolve_left (by decide)), fun h => hR.c10 (h.resolve_left (by decide)), fun h => hR.c11 (h.resolve_left (by decide)), fun h => hR.c12 (h.resolve_left (by decide)), fun h => hR.c13 (h.resolve_left (by decide)), fun h => hR.c14 (h.resolve_left (by decide)), fun h => hR.c15 (h.resolve_left (by decide)), fun _ => ⟨b, eb, hbl, .inr hnew, fun _ => hnew⟩, fun h => by obtain ⟨b', e, hb', hc, hs⟩ := hR.c17 (h.resolve_left (by decide)); have hne : ¬ b' = b := (fun e4 => hR.ne (hw 16 (by kernel_rfl)) (h.resolve_left (by decide)) (by rw [eb, e, e4])); exact ⟨b', e, hb', hc.imp (fun x => hK.blk x hne) (fun x => hK.blk x hne), fun h => hK.blk (hs (h.resolve_left (by decide))) hne⟩, fun h h2 => hR.ne (h.resolve_left (by decide)) (h2.resolve_left (by decide)), fun _ => .inr (hw 16 (by kernel_rfl)), fun h => .inr (hR.k19 (h.resolve_left (by decide))), hK.blk hR.bk (fun e => by subst e; exact hR.bk.ne_ hblk (by decide) rfl), hR.below.trans (hK.below hR.below.size (fun i hi e => by omega))⟩
            clear hin hout hw hR hK hnew hbs
            go_simp
        · intro D σ w1 a hnd hw hR hin hout
          obtain ⟨b, eb, hbl, hbc, hbs⟩ := hR.c17 (hw 17 (by kernel_rfl))
          have e23 : (a.tmps[23]?).getD undef = .pointer (some ⟨b, 0, none⟩) := (evalT a 23).symm.trans <| (hin 17 _ 23 rfl rfl).trans eb
          have e103 : (a.tmps[103]?).getD undef = .agg #[.int .i64 0, .int .i64 1, .int .i64 0, .int .i64 0, .int .i64 0, .string P1, .string { data := #[] }, .string { data := #[] }] := (evalT a 103).symm.trans <| (hin 15 _ 103 rfl rfl).trans (hR.c15 (hw 15 (by kernel_rfl)))
          have hK : Keep (fun g => g = b) w1 ((((((((w1.setCell ⟨b, 0, none⟩ (.int .i64 0)).setCell ⟨b, 1, none⟩ (.int .i64 1)).setCell ⟨b, 2, none⟩ (.int .i64 0)).setCell ⟨b, 3, none⟩ (.int .i64 0)).setCell ⟨b, 4, none⟩ (.int .i64 0)).setCell ⟨b, 5, none⟩ (.string P1)).setCell ⟨b, 6, none⟩ (.string { data := #[] })).setCell ⟨b, 7, none⟩ (.string { data := #[] })) := ((((((((Keep.refl (fun g => g = b) w1).setCell (p := ⟨b, 0, none⟩) (.inl rfl) (.int .i64 0)).setCell (p := ⟨b, 1, none⟩) (.inl rfl) (.int .i64 1)).setCell (p := ⟨b, 2, none⟩) (.inl rfl) (.int .i64 0)).setCell (p := ⟨b, 3, none⟩) (.inl rfl) (.int .i64 0)).setCell (p := ⟨b, 4, none⟩) (.inl rfl) (.int .i64 0)).setCell (p := ⟨b, 5, none⟩) (.inl rfl) (.string P1)).setCell (p := ⟨b, 6, none⟩) (.inl rfl) (.string { data := #[] })).setCell (p := ⟨b, 7, none⟩) (.inl rfl) (.string { data := #[] })
          rcases hbc with hblk | hblk
          · have hnew : Blk ((((((((w1.setCell ⟨b, 0, none⟩ (.int .i64 0)).setCell ⟨b, 1, none⟩ (.int .i64 1)).setCell ⟨b, 2, none⟩ (.int .i64 0)).setCell ⟨b, 3, none⟩ (.int .i64 0)).setCell ⟨b, 4, none⟩ (.int .i64 0)).setCell ⟨b, 5, none⟩ (.string P1)).setCell ⟨b, 6, none⟩ (.string { data := #[] })).setCell ⟨b, 7, none⟩ (.string { data := #[] })) b #[.int .i64 0, .int .i64 1, .int .i64 0, .int .i64 0, .int .i64 0, .string P1, .string { data := #[] }, .string { data := #[] }] 29 := by
              have h := ((((((((hblk.set_ 0 (.int .i64 0)).set_ 1 (.int .i64 1)).set_ 2 (.int .i64 0)).set_ 3 (.int .i64 0)).set_ 4 (.int .i64 0)).set_ 5 (.string P1)).set_ 6 (.string { data := #[] })).set_ 7 (.string { data := #[] }))
              simpa only [List.setIfInBounds_toArray, List.set_cons_zero, List.set_cons_succ] using h
            have iB := hblk.lt
            have q0 := hblk.cell 0
            have fz0 := hblk.frozen 0
            have q1 := hblk.cell 1
            have fz1 := hblk.frozen 1
            have q2 := hblk.cell 2
            have fz2 := hblk.frozen 2
            have q3 := hblk.cell 3
            have fz3 := hblk.frozen 3
            have q4 := hblk.cell 4
            have fz4 := hblk.frozen 4
            have q5 := hblk.cell 5
            have fz5 := hblk.frozen 5
            have q6 := hblk.cell 6
            have fz6 := hblk.frozen 6
            have q7 := hblk.cell 7
            have fz7 := hblk.frozen 7
            simp at q0 q1 q2 q3 q4 q5 q6 q7
            refine eff_skip (w' := ((((((((w1.setCell ⟨b, 0, none⟩ (.int .i64 0)).setCell ⟨b, 1, none⟩ (.int .i64 1)).setCell ⟨b, 2, none⟩ (.int .i64 0)).setCell ⟨b, 3, none⟩ (.int .i64 0)).setCell ⟨b, 4, none⟩ (.int .i64 0)).setCell ⟨b, 5, none⟩ (.string P1)).setCell ⟨b, 6, none⟩ (.string { data := #[] })).setCell ⟨b, 7, none⟩ (.string { data := #[] }))) ?_ ⟨fun h => hR.c0 (h.resolve_left (by decide)), fun h => hR.c1 (h.resolve_left (by decide)), fun h => hR.c2 (h.resolve_left (by decide)), fun h => hR.c3 (h.resolve_left (by decide)), fun h => hR.c4 (h.resolve_left (by decide)), fun h => hR.c5 (h.resolve_left (by decide)), fun h => hR.c6 (h.resolve_left (by decide)), fun h => hR.c7 (h.resolve_left (by decide)), fun h => hR.c8 (h.resolve_left (by decide)), fun h => hR.c9 (h.resolve_left (by decide)), fun h => hR.c10 (h.resolve_left (by decide)), fun h => hR.c11 (h.resolve_left (by decide)), fun h => hR.c12 (h.resolve_left (by decide)), fun h => hR.c13 (h.resolve_left (by decide)), fun h => hR.c14 (h.resolve_left (by decide)), fun h => hR.c15 (h.resolve_left (by decide)), fun h => by obtain ⟨b', e, hb', hc, hs⟩ := hR.c16 (h.resolve_left (by decide)); have hne : ¬ b' = b := (fun e4 => hR.ne (h.resolve_left (by decide)) (hw 17 (by kernel_rfl)) (by rw [e, eb, e4])); exact ⟨b', e, hb', hc.imp (fun x => hK.blk x hne) (fun x => hK.blk x hne), fun h => hK.blk (hs (h.resolve_left (by decide))) hne⟩, fun _ => ⟨b, eb, hbl, .inr hnew, fun _ => hnew⟩, fun h h2 => hR.ne (h.resolve_left (by decide)) (h2.resolve_left (by decide)), fun h => .inr (hR.k18 (h.resolve_left (by decide))), fun _ => .inr (hw 17 (by kernel_rfl)), hK.blk hR.bk (fun e => by subst e; exact hR.bk.ne_ hblk (by decide) rfl), hR.below.trans (hK.below hR.below.size (fun i hi e => by omega))⟩
            clear hin hout hw hR hK hnew hbs
            go_simp
          · have hnew : Blk ((((((((w1.setCell ⟨b, 0, none⟩ (.int .i64 0)).setCell ⟨b, 1, none⟩ (.int .i64 1)).setCell ⟨b, 2, none⟩ (.int .i64 0)).setCell ⟨b, 3, none⟩ (.int .i64 0)).setCell ⟨b, 4, none⟩ (.int .i64 0)).setCell ⟨b, 5, none⟩ (.string P1)).setCell ⟨b, 6, none⟩ (.string { data := #[] })).setCell ⟨b, 7, none⟩ (.string { data := #[] })) b #[.int .i64 0, .int .i64 1, .int .i64 0, .int .i64 0, .int .i64 0, .string P1, .string { data := #[] }, .string { data := #[] }] 29 := by
              have h := ((((((((hblk.set_ 0 (.int .i64 0)).set_ 1 (.int .i64 1)).set_ 2 (.int .i64 0)).set_ 3 (.int .i64 0)).set_ 4 (.int .i64 0)).set_ 5 (.string P1)).set_ 6 (.string { data := #[] })).set_ 7 (.string { data := #[] }))
              simpa only [List.setIfInBounds_toArray, List.set_cons_zero, List.set_cons_succ] using h
            have iB := hblk.lt
            have q0 := hblk.cell 0
            have fz0 := hblk.frozen 0
            have q1 := hblk.cell 1
            have fz1 := hblk.frozen 1
            have q2 := hblk.cell 2
            have fz2 := hblk.frozen 2
            have q3 := hblk.cell 3
            have fz3 := hblk.frozen 3
            have q4 := hblk.cell 4
            have fz4 := hblk.frozen 4
            have q5 := hblk.cell 5
            have fz5 := hblk.frozen 5
            have q6 := hblk.cell 6
            have fz6 := hblk.frozen 6
            have q7 := hblk.cell 7
            have fz7 := hblk.frozen 7
            simp at q0 q1 q2 q3 q4 q5 q6 q7
            refine eff_skip (w' := ((((((((w1.setCell ⟨b, 0, none⟩ (.int .i64 0)).setCell ⟨b, 1, none⟩ (.int .i64 1)).setCell ⟨b, 2, none⟩ (.int .i64 0)).setCell ⟨b, 3, none⟩ (.int .i64 0)).setCell ⟨b, 4, none⟩ (.int .i64 0)).setCell ⟨b, 5, none⟩ (.string P1)).setCell ⟨b, 6, none⟩ (.string { data := #[] })).setCell ⟨b, 7, none⟩ (.string { data := #[] }))) ?_ ⟨fun h => hR.c0 (h.resolve_left (by decide)), fun h => hR.c1 (h.resolve_left (by decide)), fun h => hR.c2 (h.resolve_left (by decide)), fun h => hR.c3 (h.resolve_left (by decide)), fun h => hR.c4 (h.resolve_left (by decide)), fun h => hR.c5 (h.resolve_left (by decide)), fun h => hR.c6 (h.resolve_left (by decide)), fun h => hR.c7 (h.resolve_left (by decide)), fun h => hR.c8 (h.resolve_left (by decide)), fun h => hR.c9 (h.resolve_left (by decide)), fun h => hR.c10 (h.resolve_left (by decide)), fun h => hR.c11 (h.resolve_left (by decide)), fun h => hR.c12 (h.resolve_left (by decide)), fun h => hR.c13 (h.resolve_left (by decide)), fun h => hR.c14 (h.resolve_left (by decide)), fun h => hR.c15 (h.resolve_left (by decide)), fun h => by obtain ⟨b', e, hb', hc, hs⟩ := hR.c16 (h.resolve_left (by decide)); have hne : ¬ b' = b := (fun e4 => hR.ne (h.resolve_left (by decide)) (hw 17 (by kernel_rfl)) (by rw [e, eb, e4])); exact ⟨b', e, hb', hc.imp (fun x => hK.blk x hne) (fun x => hK.blk x hne), fun h => hK.blk (hs (h.resolve_left (by decide))) hne⟩, fun _ => ⟨b, eb, hbl, .inr hnew, fun _ => hnew⟩, fun h h2 => hR.ne (h.resolve_left (by decide)) (h2.resolve_left (by decide)), fun h => .inr (hR.k18 (h.resolve_left (by decide))), fun _ => .inr (hw 17 (by kernel_rfl)), hK.blk hR.bk (fun e => by subst e; exact hR.bk.ne_ hblk (by decide) rfl), hR.below.trans (hK.below hR.below.size (fun i hi e => by omega))⟩
            clear hin hout hw hR hK hnew hbs
            go_simp
      · intro σ w3 hR
        obtain ⟨g22, e22, hg22, -, h22⟩ := hR.c16 trivial
        obtain ⟨g23, e23, hg23, -, h23⟩ := hR.c17 trivial
        have h22 := h22 trivial
        have h23 := h23 trivial
        have hR3 := hR.below
        have hP3 := HP.out.1.on hR3
        simp only [putsL, Act.put, List.setIfInBounds_toArray, List.set_cons_zero, List.set_cons_succ, Nat.reduceAdd]
        rw [e22, e23]
        clear k0 iK
        have hW2 : w.heap.size + 3 ≤ W2.heap.size := by have := HP.out.1.b8.lt.lt; omega
        have hk3 := hR.bk
        have iK := hk3.lt
        have k0 := hk3.cell 0
        simp at k0
        clear hk3 hR e22 e23 HP hBK h17a h17b
        obtain ⟨f, hf⟩ : ∃ f, (B0 != B1) = f := ⟨_, rfl⟩
        rw [hf]
        clear hf
        have HF := Lib.hid (And.intro hP3 (And.intro h22 (And.intro h23 (And.intro hg22 hg23))))
        have iG := h22.lt
        clear hP3 h22 h23 hR3
        have hu0 : IntKind.u64.wrap 0 = 0 := rfl
        go_upto_region 17 with fail
        refine wp_region_quiet_rest (by kernel_rfl) (by kernel_rfl) (WQ.out ?_)
        repeat
          refine WQ_step (fun K hK => ?_)
          go_simp
          first
            | (refine hK _ ?_; clear hK K)
            | (apply Exists.intro
               refine ⟨fun _ => ?_, hK _ ?_⟩
               focus (first | ((with_reducible refine calls_in (h14a _) (fun w' hb => ?_)); first | exact hb.rest | exact rest1 hb | exact rest2 hb) | ((with_reducible refine calls_in (h14b _) (fun w' hb => ?_)); first | exact hb.rest | exact rest1 hb | exact rest2 hb) | ((with_reducible refine calls_in (h18 _) (fun w' hb => ?_)); first | exact hb.rest | exact rest1 hb | exact rest2 hb))
               clear hK K)
        refine WQ_nil ?_
        intro w4 hw4
        obtain ⟨p4, hw4⟩ := hw4
        subst hw4
        clear k0 iK iG h14a h14b h18
        go_upto_region 18 with fail
        refine abs_world (F := fun wz => PW w wz g11 gS a1 a2 a3 a4 a5 a6 a7 a8 a9 (qs 6) ∧ Blk wz g22 #[.int .i64 0, .int .i64 0, .int .i64 0, .int .i64 0, .int .i64 0, .string P0, .string { data := #[] }, .string { data := #[] }] 29 ∧ Blk wz g23 #[.int .i64 0, .int .i64 1, .int .i64 0, .int .i64 0, .int .i64 0, .string P1, .string { data := #[] }, .string { data := #[] }] 29) ⟨HF.out.1.on (bel w3 _), blk_on HF.out.2.1 (bel w3 _), blk_on HF.out.2.2.1 (bel w3 _)⟩ ?_
        rintro wz ⟨hP, h22, h23⟩
        have hg22 := HF.out.2.2.2.1
        have hg23 := HF.out.2.2.2.2
        have h11l := hP.b11.lt.lt
        clear HF
        have hgl2 := hgl
        rcases f with _ | _
        · refine wp_region_invG (R18 w g11 g22 g23 a1 a2 a3 a4 a5 a6 a7 a8 a9 P0 P1 (qs 6) false undef) (by kernel_rfl) (by kernel_rfl) (by kernel_rfl) ?_ ?_ ?_
          · intro σ
            have no : ∀ {k : Nat}, k < 15 → ∀ {p : Prop}, 15 ≤ k → p := fun h _ h2 => absurd h2 (by omega)
            exact ⟨no (by decide), no (by decide), no (by decide), no (by decide), no (by decide), no (by decide), no (by decide), no (by decide), no (by decide), no (by decide), no (by decide), no (by decide), hP.st, hP.b11, h22, h23, ⟨.inl hP.b6, no (by decide)⟩, ⟨.inl hP.b7, no (by decide)⟩, ⟨.inl hP.b8, no (by decide)⟩, hP.below.trans ((bel wz wz.drew).mono hP.below.size)⟩
          · refine ⟨?_, ?_, ?_, ?_, ?_, ?_, ?_, ?_, ?_, ?_, ?_, ?_, ?_, ?_, ?_, trivial⟩
            · intro D σ w1 a hnd hw hR hin hout
              refine ⟨fun _ => ?_, fun e => by cases e⟩
              have e11 : (a.tmps[11]?).getD undef = .pointer (some ⟨g11, 0, none⟩) := (evalT a 11).symm.trans ((hout 11 (by kernel_rfl)).trans (by kernel_rfl))
              have q0 := hR.b11.cell 0
              have q1 := hR.b11.cell 1
              have q2 := hR.b11.cell 2
              simp at q0 q1 q2
              refine eff_val (v := .agg #[.slice a1 a2 a3, .slice a4 a5 a6, .slice a7 a8 a9]) (w' := w1) ?_ ⟨fun _ => rfl, fun h => hR.c1 (h.resolve_left (by decide)), fun h => hR.c2 (h.resolve_left (by decide)), fun h => hR.c3 (h.resolve_left (by decide)), fun h => hR.c4 (h.resolve_left (by decide)), fun h => hR.c5 (h.resolve_left (by decide)), fun h => hR.c6 (h.resolve_left (by decide)), fun h => hR.c7 (h.resolve_left (by decide)), fun h => hR.c8 (h.resolve_left (by decide)), fun h => hR.c9 (h.resolve_left (by decide)), fun h => hR.c13 (h.resolve_left (by decide)), fun h => hR.c14 (h.resolve_left (by decide)), hR.st, hR.b11, hR.b22, hR.b23, ⟨hR.s10.1, fun h => hR.s10.2 (h.resolve_left (by decide))⟩, ⟨hR.s11.1, fun h => hR.s11.2 (h.resolve_left (by decide))⟩, ⟨hR.s12.1, fun h => hR.s12.2 (h.resolve_left (by decide))⟩, hR.below⟩
              clear hin hout hw hR
              go_simp
              first | done | rfl
            · intro D σ w1 a hnd hw hR hin hout
              refine ⟨fun _ => ?_, fun e => by cases e⟩
              have e22 : (a.tmps[22]?).getD undef = .pointer (some ⟨g22, 0, none⟩) := (evalT a 22).symm.trans ((hout 22 (by kernel_rfl)).trans (by kernel_rfl))
              have q0 := hR.b22.cell 0
              have q1 := hR.b22.cell 1
              have q2 := hR.b22.cell 2
              have q3 := hR.b22.cell 3
              have q4 := hR.b22.cell 4
              have q5 := hR.b22.cell 5
              have q6 := hR.b22.cell 6
              have q7 := hR.b22.cell 7
              simp at q0 q1 q2 q3 q4 q5 q6 q7
              refine eff_val (v := .agg #[.int .i64 0, .int .i64 0, .int .i64 0, .int .i64 0, .int .i64 0, .string P0, .string { data := #[] }, .string { data := #[] }]) (w' := w1) ?_ ⟨fun h => hR.c0 (h.resolve_left (by decide)), fun _ => rfl, fun h => hR.c2 (h.resolve_left (by decide)), fun h => hR.c3 (h.resolve_left (by decide)), fun h => hR.c4 (h.resolve_left (by decide)), fun h => hR.c5 (h.resolve_left (by decide)), fun h => hR.c6 (h.resolve_left (by decide)), fun h => hR.c7 (h.resolve_left (by decide)), fun h => hR.c8 (h.resolve_left (by decide)), fun h => hR.c9 (h.resolve_left (by decide)), fun h => hR.c13 (h.resolve_left (by decide)), fun h => hR.c14 (h.resolve_left (by decide)), hR.st, hR.b11, hR.b22, hR.b23, ⟨hR.s10.1, fun h => hR.s10.2 (h.resolve_left (by decide))⟩, ⟨hR.s11.1, fun h => hR.s11.2 (h.resolve_left (by decide))⟩, ⟨hR.s12.1, fun h => hR.s12.2 (h.resolve_left (by decide))⟩, hR.below⟩
              clear hin hout hw hR
              go_simp
              first | done | rfl
            · intro D σ w1 a hnd hw hR hin hout
              refine ⟨fun _ => ?_, fun e => by cases e⟩
              have e23 : (a.tmps[23]?).getD undef = .pointer (some ⟨g23, 0, none⟩) := (evalT a 23).symm.trans ((hout 23 (by kernel_rfl)).trans (by kernel_rfl))
              have q0 := hR.b23.cell 0
              have q1 := hR.b23.cell 1
              have q2 := hR.b23.cell 2
              have q3 := hR.b23.cell 3
              have q4 := hR.b23.cell 4
              have q5 := hR.b23.cell 5
              have q6 := hR.b23.cell 6
              have q7 := hR.b23.cell 7
              simp at q0 q1 q2 q3 q4 q5 q6 q7
              refine eff_val (v := .agg #[.int .i64 0, .int .i64 1, .int .i64 0, .int .i64 0, .int .i64 0, .string P1, .string { data := #[] }, .string { data := #[] }]) (w' := w1) ?_ ⟨fun h => hR.c0 (h.resolve_left (by decide)), fun h => hR.c1 (h.resolve_left (by decide)), fun _ => rfl, fun h => hR.c3 (h.resolve_left (by decide)), fun h => hR.c4 (h.resolve_left (by decide)), fun h => hR.c5 (h.resolve_left (by decide)), fun h => hR.c6 (h.resolve_left (by decide)), fun h => hR.c7 (h.resolve_left (by decide)), fun h => hR.c8 (h.resolve_left (by decide)), fun h => hR.c9 (h.resolve_left (by decide)), fun h => hR.c13 (h.resolve_left (by decide)), fun h => hR.c14 (h.resolve_left (by decide)), hR.st, hR.b11, hR.b22, hR.b23, ⟨hR.s10.1, fun h => hR.s10.2 (h.resolve_left (by decide))⟩, ⟨hR.s11.1, fun h => hR.s11.2 (h.resolve_left (by decide))⟩, ⟨hR.s12.1, fun h => hR.s12.2 (h.resolve_left (by decide))⟩, hR.below⟩
              clear hin hout hw hR
              go_simp
              first | done | rfl
            · intro D σ w1 a hnd hw hR hin hout
              refine ⟨fun _ => ?_, fun e => by cases e⟩
              have e24 : (a.tmps[24]?).getD undef = .bool false := (evalT a 24).symm.trans ((hout 24 (by kernel_rfl)).trans (by kernel_rfl))
              refine eff_val (v := .bool false) (w' := w1) ?_ ⟨fun h => hR.c0 (h.resolve_left (by decide)), fun h => hR.c1 (h.resolve_left (by decide)), fun h => hR.c2 (h.resolve_left (by decide)), fun _ => rfl, fun h => hR.c4 (h.resolve_left (by decide)), fun h => hR.c5 (h.resolve_left (by decide)), fun h => hR.c6 (h.resolve_left (by decide)), fun h => hR.c7 (h.resolve_left (by decide)), fun h => hR.c8 (h.resolve_left (by decide)), fun h => hR.c9 (h.resolve_left (by decide)), fun h => hR.c13 (h.resolve_left (by decide)), fun h => hR.c14 (h.resolve_left (by decide)), hR.st, hR.b11, hR.b22, hR.b23, ⟨hR.s10.1, fun h => hR.s10.2 (h.resolve_left (by decide))⟩, ⟨hR.s11.1, fun h => hR.s11.2 (h.resolve_left (by decide))⟩, ⟨hR.s12.1, fun h => hR.s12.2 (h.resolve_left (by decide))⟩, hR.below⟩
              clear hin hout hw hR
              go_simp
              first | done | rfl
            · intro D σ w1 a hnd hw hR hin hout
              refine ⟨fun _ => ?_, fun e => by cases e⟩
              have e130 : (a.tmps[130]?).getD undef = .bool false := (evalT a 130).symm.trans <| (hin 3 _ 130 rfl rfl).trans (hR.c3 (hw 3 (by kernel_rfl)))
              refine eff_val (v := .bool false) (w' := w1) ?_ ⟨fun h => hR.c0 (h.resolve_left (by decide)), fun h => hR.c1 (h.resolve_left (by decide)), fun h => hR.c2 (h.resolve_left (by decide)), fun h => hR.c3 (h.resolve_left (by decide)), fun _ => rfl, fun h => hR.c5 (h.resolve_left (by decide)), fun h => hR.c6 (h.resolve_left (by decide)), fun h => hR.c7 (h.resolve_left (by decide)), fun h => hR.c8 (h.resolve_left (by decide)), fun h => hR.c9 (h.resolve_left (by decide)), fun h => hR.c13 (h.resolve_left (by decide)), fun h => hR.c14 (h.resolve_left (by decide)), hR.st, hR.b11, hR.b22, hR.b23, ⟨hR.s10.1, fun h => hR.s10.2 (h.resolve_left (by decide))⟩, ⟨hR.s11.1, fun h => hR.s11.2 (h.resolve_left (by decide))⟩, ⟨hR.s12.1, fun h => hR.s12.2 (h.resolve_left (by decide))⟩, hR.below⟩
              clear hin hout hw hR
              go_simp
              first | done | rfl
            · intro D σ w1 a hnd hw hR hin hout
              have eg : a.eval (.tmp 131) = .bool false := (hin 4 _ 131 rfl rfl).trans (hR.c4 (hw 4 (by kernel_rfl)))
              have ey := yielded_of (j := 4) (d := 131) eg
              refine ⟨fun _ => ?_, fun e => by simp only [Region.wanted] at e; rw [ey _ _ rfl rfl] at e; cases e⟩
              have e19 : (a.tmps[19]?).getD undef = .bool false := (evalT a 19).symm.trans ((hout 19 (by kernel_rfl)).trans (by kernel_rfl))
              refine eff_val (v := .bool false) (w' := w1) ?_ ⟨fun h => hR.c0 (h.resolve_left (by decide)), fun h => hR.c1 (h.resolve_left (by decide)), fun h => hR.c2 (h.resolve_left (by decide)), fun h => hR.c3 (h.resolve_left (by decide)), fun h => hR.c4 (h.resolve_left (by decide)), fun _ => rfl, fun h => hR.c6 (h.resolve_left (by decide)), fun h => hR.c7 (h.resolve_left (by decide)), fun h => hR.c8 (h.resolve_left (by decide)), fun h => hR.c9 (h.resolve_left (by decide)), fun h => hR.c13 (h.resolve_left (by decide)), fun h => hR.c14 (h.resolve_left (by decide)), hR.st, hR.b11, hR.b22, hR.b23, ⟨hR.s10.1, fun h => hR.s10.2 (h.resolve_left (by decide))⟩, ⟨hR.s11.1, fun h => hR.s11.2 (h.resolve_left (by decide))⟩, ⟨hR.s12.1, fun h => hR.s12.2 (h.resolve_left (by decide))⟩, hR.below⟩
              clear hin hout hw hR
              go_simp
              first | done | rfl
            · intro D σ w1 a hnd hw hR hin hout
              have eg : a.eval (.tmp 131) = .bool false := (hin 4 _ 131 rfl rfl).trans (hR.c4 (hw 4 (by kernel_rfl)))
              have ey := yielded_of (j := 4) (d := 131) eg
              refine ⟨fun _ => ?_, fun e => by simp only [Region.wanted] at e; rw [ey _ _ rfl rfl] at e; cases e⟩
              have e132 : (a.tmps[132]?).getD undef = .bool false := (evalT a 132).symm.trans <| (hin 5 _ 132 rfl rfl).trans (hR.c5 (hw 5 (by kernel_rfl)))
              refine eff_val (v := .bool false) (w' := w1) ?_ ⟨fun h => hR.c0 (h.resolve_left (by decide)), fun h => hR.c1 (h.resolve_left (by decide)), fun h => hR.c2 (h.resolve_left (by decide)), fun h => hR.c3 (h.resolve_left (by decide)), fun h => hR.c4 (h.resolve_left (by decide)), fun h => hR.c5 (h.resolve_left (by decide)), fun _ => rfl, fun h => hR.c7 (h.resolve_left (by decide)), fun h => hR.c8 (h.resolve_left (by decide)), fun h => hR.c9 (h.resolve_left (by decide)), fun h => hR.c13 (h.resolve_left (by decide)), fun h => hR.c14 (h.resolve_left (by decide)), hR.st, hR.b11, hR.b22, hR.b23, ⟨hR.s10.1, fun h => hR.s10.2 (h.resolve_left (by decide))⟩, ⟨hR.s11.1, fun h => hR.s11.2 (h.resolve_left (by decide))⟩, ⟨hR.s12.1, fun h => hR.s12.2 (h.resolve_left (by decide))⟩, hR.below⟩
              clear hin hout hw hR
              go_simp
              first | done | rfl
            · intro D σ w1 a hnd hw hR hin hout
              have eg : a.eval (.tmp 133) = .bool false := (hin 6 _ 133 rfl rfl).trans (hR.c6 (hw 6 (by kernel_rfl)))
              have ey := yielded_of (j := 6) (d := 133) eg
              refine ⟨fun e => (by simp only [Region.wanted] at e; rw [ey _ _ rfl rfl] at e; cases e), fun _ => ⟨fun h => hR.c0 (h.resolve_left (by decide)), fun h => hR.c1 (h.resolve_left (by decide)), fun h => hR.c2 (h.resolve_left (by decide)), fun h => hR.c3 (h.resolve_left (by decide)), fun h => hR.c4 (h.resolve_left (by decide)), fun h => hR.c5 (h.resolve_left (by decide)), fun h => hR.c6 (h.resolve_left (by decide)), fun _ => rfl, fun h => hR.c8 (h.resolve_left (by decide)), fun h => hR.c9 (h.resolve_left (by decide)), fun h => hR.c13 (h.resolve_left (by decide)), fun h => hR.c14 (h.resolve_left (by decide)), hR.st, hR.b11, hR.b22, hR.b23, ⟨hR.s10.1, fun h => hR.s10.2 (h.resolve_left (by decide))⟩, ⟨hR.s11.1, fun h => hR.s11.2 (h.resolve_left (by decide))⟩, ⟨hR.s12.1, fun h => hR.s12.2 (h.resolve_left (by decide))⟩, hR.below⟩⟩
            · intro D σ w1 a hnd hw hR hin hout
              have eg : a.eval (.tmp 131) = .bool false := (hin 4 _ 131 rfl rfl).trans (hR.c4 (hw 4 (by kernel_rfl)))
              have ey := yielded_of (j := 4) (d := 131) eg
              refine ⟨fun _ => ?_, fun e => by simp only [Region.wanted] at e; rw [ey _ _ rfl rfl] at e; cases e⟩
              have e133 : (a.tmps[133]?).getD undef = .bool false := (evalT a 133).symm.trans <| (hin 6 _ 133 rfl rfl).trans (hR.c6 (hw 6 (by kernel_rfl)))
              have e134 : (a.tmps[134]?).getD undef = undef := (evalT a 134).symm.trans <| (hin 7 _ 134 rfl rfl).trans (hR.c7 (hw 7 (by kernel_rfl)))
              refine eff_val (v := .bool false) (w' := w1) ?_ ⟨fun h => hR.c0 (h.resolve_left (by decide)), fun h => hR.c1 (h.resolve_left (by decide)), fun h => hR.c2 (h.resolve_left (by decide)), fun h => hR.c3 (h.resolve_left (by decide)), fun h => hR.c4 (h.resolve_left (by decide)), fun h => hR.c5 (h.resolve_left (by decide)), fun h => hR.c6 (h.resolve_left (by decide)), fun h => hR.c7 (h.resolve_left (by decide)), fun _ => rfl, fun h => hR.c9 (h.resolve_left (by decide)), fun h => hR.c13 (h.resolve_left (by decide)), fun h => hR.c14 (h.resolve_left (by decide)), hR.st, hR.b11, hR.b22, hR.b23, ⟨hR.s10.1, fun h => hR.s10.2 (h.resolve_left (by decide))⟩, ⟨hR.s11.1, fun h => hR.s11.2 (h.resolve_left (by decide))⟩, ⟨hR.s12.1, fun h => hR.s12.2 (h.resolve_left (by decide))⟩, hR.below⟩
              clear hin hout hw hR
              go_simp
              first | done | rfl
            · intro D σ w1 a hnd hw hR hin hout
              refine ⟨fun _ => ?_, fun e => by cases e⟩
              have e131 : (a.tmps[131]?).getD undef = .bool false := (evalT a 131).symm.trans <| (hin 4 _ 131 rfl rfl).trans (hR.c4 (hw 4 (by kernel_rfl)))
              have e135 : (a.tmps[135]?).getD undef = .bool false := (evalT a 135).symm.trans <| (hin 8 _ 135 rfl rfl).trans (hR.c8 (hw 8 (by kernel_rfl)))
              refine eff_val (v := .bool false) (w' := w1) ?_ ⟨fun h => hR.c0 (h.resolve_left (by decide)), fun h => hR.c1 (h.resolve_left (by decide)), fun h => hR.c2 (h.resolve_left (by decide)), fun h => hR.c3 (h.resolve_left (by decide)), fun h => hR.c4 (h.resolve_left (by decide)), fun h => hR.c5 (h.resolve_left (by decide)), fun h => hR.c6 (h.resolve_left (by decide)), fun h => hR.c7 (h.resolve_left (by decide)), fun h => hR.c8 (h.resolve_left (by decide)), fun _ => rfl, fun h => hR.c13 (h.resolve_left (by decide)), fun h => hR.c14 (h.resolve_left (by decide)), hR.st, hR.b11, hR.b22, hR.b23, ⟨hR.s10.1, fun h => hR.s10.2 (h.resolve_left (by decide))⟩, ⟨hR.s11.1, fun h => hR.s11.2 (h.resolve_left (by decide))⟩, ⟨hR.s12.1, fun h => hR.s12.2 (h.resolve_left (by decide))⟩, hR.below⟩
              clear hin hout hw hR
              go_simp
              first | done | rfl
            · intro D σ w1 a hnd hw hR hin hout
              refine ⟨fun _ => ?_, fun e => by cases e⟩
              have e6 : (a.tmps[6]?).getD undef = .pointer (some ⟨w.heap.size, 0, none⟩) := (evalT a 6).symm.trans ((hout 6 (by kernel_rfl)).trans (by kernel_rfl))
              have e127 : (a.tmps[127]?).getD undef = .agg #[.slice a1 a2 a3, .slice a4 a5 a6, .slice a7 a8 a9] := (evalT a 127).symm.trans <| (hin 0 _ 127 rfl rfl).trans (hR.c0 (hw 0 (by kernel_rfl)))
              have hK : Keep (fun g => g = w.heap.size) w1 (((w1.setCell ⟨w.heap.size, 0, none⟩ (.slice a1 a2 a3)).setCell ⟨w.heap.size, 1, none⟩ (.slice a4 a5 a6)).setCell ⟨w.heap.size, 2, none⟩ (.slice a7 a8 a9)) := (((Keep.refl (fun g => g = w.heap.size) w1).setCell (p := ⟨w.heap.size, 0, none⟩) (.inl rfl) (.slice a1 a2 a3)).setCell (p := ⟨w.heap.size, 1, none⟩) (.inl rfl) (.slice a4 a5 a6)).setCell (p := ⟨w.heap.size, 2, none⟩) (.inl rfl) (.slice a7 a8 a9)
              rcases hR.s10.1 with hblk | hblk
              · have hnew : Blk (((w1.setCell ⟨w.heap.size, 0, none⟩ (.slice a1 a2 a3)).setCell ⟨w.heap.size, 1, none⟩ (.slice a4 a5 a6)).setCell ⟨w.heap.size, 2, none⟩ (.slice a7 a8 a9)) (w.heap.size) #[.slice a1 a2 a3, .slice a4 a5 a6, .slice a7 a8 a9] 27 := by
                  have h := (((hblk.set_ 0 (.slice a1 a2 a3)).set_ 1 (.slice a4 a5 a6)).set_ 2 (.slice a7 a8 a9))
                  simpa only [List.setIfInBounds_toArray, List.set_cons_zero, List.set_cons_succ] using h
                have iB := hblk.lt
                have q0 := hblk.cell 0
                have fz0 := hblk.frozen 0
                have q1 := hblk.cell 1
                have fz1 := hblk.frozen 1
                have q2 := hblk.cell 2
                have fz2 := hblk.frozen 2
                simp at q0 q1 q2
                refine eff_skip (w' := (((w1.setCell ⟨w.heap.size, 0, none⟩ (.slice a1 a2 a3)).setCell ⟨w.heap.size, 1, none⟩ (.slice a4 a5 a6)).setCell ⟨w.heap.size, 2, none⟩ (.slice a7 a8 a9))) ?_ ⟨fun h => hR.c0 (h.resolve_left (by decide)), fun h => hR.c1 (h.resolve_left (by decide)), fun h => hR.c2 (h.resolve_left (by decide)), fun h => hR.c3 (h.resolve_left (by decide)), fun h => hR.c4 (h.resolve_left (by decide)), fun h => hR.c5 (h.resolve_left (by decide)), fun h => hR.c6 (h.resolve_left (by decide)), fun h => hR.c7 (h.resolve_left (by decide)), fun h => hR.c8 (h.resolve_left (by decide)), fun h => hR.c9 (h.resolve_left (by decide)), fun h => hR.c13 (h.resolve_left (by decide)), fun h => hR.c14 (h.resolve_left (by decide)), hR.st.keep hK (fun g hg => by rw [hg]; exact ⟨_, 27, hblk, by decide, by decide, by decide, by decide⟩), hK.blk hR.b11 (by omega), hK.blk hR.b22 (by omega), hK.blk hR.b23 (by omega), ⟨.inr hnew, fun _ => hnew⟩, ⟨hR.s11.1.imp (fun x => hK.blk x (by omega)) (fun x => hK.blk x (by omega)), fun h => hK.blk (hR.s11.2 (h.resolve_left (by decide))) (by omega)⟩, ⟨hR.s12.1.imp (fun x => hK.blk x (by omega)) (fun x => hK.blk x (by omega)), fun h => hK.blk (hR.s12.2 (h.resolve_left (by decide))) (by omega)⟩, hR.below.trans (hK.below hR.below.size (fun i hi e => by omega))⟩
                clear hin hout hw hR hK hnew
                go_simp
              · have hnew : Blk (((w1.setCell ⟨w.heap.size, 0, none⟩ (.slice a1 a2 a3)).setCell ⟨w.heap.size, 1, none⟩ (.slice a4 a5 a6)).setCell ⟨w.heap.size, 2, none⟩ (.slice a7 a8 a9)) (w.heap.size) #[.slice a1 a2 a3, .slice a4 a5 a6, .slice a7 a8 a9] 27 := by
                  have h := (((hblk.set_ 0 (.slice a1 a2 a3)).set_ 1 (.slice a4 a5 a6)).set_ 2 (.slice a7 a8 a9))
                  simpa only [List.setIfInBounds_toArray, List.set_cons_zero, List.set_cons_succ] using h
                have iB := hblk.lt
                have q0 := hblk.cell 0
                have fz0 := hblk.frozen 0
                have q1 := hblk.cell 1
                have fz1 := hblk.frozen 1
                have q2 := hblk.cell 2
                have fz2 := hblk.frozen 2
                simp at q0 q1 q2
                refine eff_skip (w' := (((w1.setCell ⟨w.heap.size, 0, none⟩ (.slice a1 a2 a3)).setCell ⟨w.heap.size, 1, none⟩ (.slice a4 a5 a6)).setCell ⟨w.heap.size, 2, none⟩ (.slice a7 a8 a9))) ?_ ⟨fun h => hR.c0 (h.resolve_left (by decide)), fun h => hR.c1 (h.resolve_left (by decide)), fun h => hR.c2 (h.resolve_left (by decide)), fun h => hR.c3 (h.resolve_left (by decide)), fun h => hR.c4 (h.resolve_left (by decide)), fun h => hR.c5 (h.resolve_left (by decide)), fun h => hR.c6 (h.resolve_left (by decide)), fun h => hR.c7 (h.resolve_left (by decide)), fun h => hR.c8 (h.resolve_left (by decide)), fun h => hR.c9 (h.resolve_left (by decide)), fun h => hR.c13 (h.resolve_left (by decide)), fun h => hR.c14 (h.resolve_left (by decide)), hR.st.keep hK (fun g hg => by rw [hg]; exact ⟨_, 27, hblk, by decide, by decide, by decide, by decide⟩), hK.blk hR.b11 (by omega), hK.blk hR.b22 (by omega), hK.blk hR.b23 (by omega), ⟨.inr hnew, fun _ => hnew⟩, ⟨hR.s11.1.imp (fun x => hK.blk x (by omega)) (fun x => hK.blk x (by omega)), fun h => hK.blk (hR.s11.2 (h.resolve_left (by decide))) (by omega)⟩, ⟨hR.s12.1.imp (fun x => hK.blk x (by omega)) (fun x => hK.blk x (by omega)), fun h => hK.blk (hR.s12.2 (h.resolve_left (by decide))) (by omega)⟩, hR.below.trans (hK.below hR.below.size (fun i hi e => by omega))⟩
                clear hin hout hw hR hK hnew
                go_simp
            · intro D σ w1 a hnd hw hR hin hout
              refine ⟨fun _ => ?_, fun e => by cases e⟩
              have e7 : (a.tmps[7]?).getD undef = .pointer (some ⟨w.heap.size + 1, 0, none⟩) := (evalT a 7).symm.trans ((hout 7 (by kernel_rfl)).trans (by kernel_rfl))
              have e128 : (a.tmps[128]?).getD undef = .agg #[.int .i64 0, .int .i64 0, .int .i64 0, .int .i64 0, .int .i64 0, .string P0, .string { data := #[] }, .string { data := #[] }] := (evalT a 128).symm.trans <| (hin 1 _ 128 rfl rfl).trans (hR.c1 (hw 1 (by kernel_rfl)))
              have hK : Keep (fun g => g = w.heap.size + 1) w1 ((((((((w1.setCell ⟨w.heap.size + 1, 0, none⟩ (.int .i64 0)).setCell ⟨w.heap.size + 1, 1, none⟩ (.int .i64 0)).setCell ⟨w.heap.size + 1, 2, none⟩ (.int .i64 0)).setCell ⟨w.heap.size + 1, 3, none⟩ (.int .i64 0)).setCell ⟨w.heap.size + 1, 4, none⟩ (.int .i64 0)).setCell ⟨w.heap.size + 1, 5, none⟩ (.string P0)).setCell ⟨w.heap.size + 1, 6, none⟩ (.string { data := #[] })).setCell ⟨w.heap.size + 1, 7, none⟩ (.string { data := #[] })) := ((((((((Keep.refl (fun g => g = w.heap.size + 1) w1).setCell (p := ⟨w.heap.size + 1, 0, none⟩) (.inl rfl) (.int .i64 0)).setCell (p := ⟨w.heap.size + 1, 1, none⟩) (.inl rfl) (.int .i64 0)).setCell (p := ⟨w.heap.size + 1, 2, none⟩) (.inl rfl) (.int .i64 0)).setCell (p := ⟨w.heap.size + 1, 3, none⟩) (.inl rfl) (.int .i64 0)).setCell (p := ⟨w.heap.size + 1, 4, none⟩) (.inl rfl) (.int .i64 0)).setCell (p := ⟨w.heap.size + 1, 5, none⟩) (.inl rfl) (.string P0)).setCell (p := ⟨w.heap.size + 1, 6, none⟩) (.inl rfl) (.string { data := #[] })).setCell (p := ⟨w.heap.size + 1, 7, none⟩) (.inl rfl) (.string { data := #[] })
              rcases hR.s11.1 with hblk | hblk
              · have hnew : Blk ((((((((w1.setCell ⟨w.heap.size + 1, 0, none⟩ (.int .i64 0)).setCell ⟨w.heap.size + 1, 1, none⟩ (.int .i64 0)).setCell ⟨w.heap.size + 1, 2, none⟩ (.int .i64 0)).setCell ⟨w.heap.size + 1, 3, none⟩ (.int .i64 0)).setCell ⟨w.heap.size + 1, 4, none⟩ (.int .i64 0)).setCell ⟨w.heap.size + 1, 5, none⟩ (.string P0)).setCell ⟨w.heap.size + 1, 6, none⟩ (.string { data := #[] })).setCell ⟨w.heap.size + 1, 7, none⟩ (.string { data := #[] })) (w.heap.size + 1) #[.int .i64 0, .int .i64 0, .int .i64 0, .int .i64 0, .int .i64 0, .string P0, .string { data := #[] }, .string { data := #[] }] 29 := by
                  have h := ((((((((hblk.set_ 0 (.int .i64 0)).set_ 1 (.int .i64 0)).set_ 2 (.int .i64 0)).set_ 3 (.int .i64 0)).set_ 4 (.int .i64 0)).set_ 5 (.string P0)).set_ 6 (.string { data := #[] })).set_ 7 (.string { data := #[] }))
                  simpa only [List.setIfInBounds_toArray, List.set_cons_zero, List.set_cons_succ] using h
                have iB := hblk.lt
                have q0 := hblk.cell 0
                have fz0 := hblk.frozen 0
                have q1 := hblk.cell 1
                have fz1 := hblk.frozen 1
                have q2 := hblk.cell 2
                have fz2 := hblk.frozen 2
                have q3 := hblk.cell 3
                have fz3 := hblk.frozen 3
                have q4 := hblk.cell 4
                have fz4 := hblk.frozen 4
                have q5 := hblk.cell 5
                have fz5 := hblk.frozen 5
                have q6 := hblk.cell 6
                have fz6 := hblk.frozen 6
                have q7 := hblk.cell 7
                have fz7 := hblk.frozen 7
                simp at q0 q1 q2 q3 q4 q5 q6 q7
                refine eff_skip (w' := ((((((((w1.setCell ⟨w.heap.size + 1, 0, none⟩ (.int .i64 0)).setCell ⟨w.heap.size + 1, 1, none⟩ (.int .i64 0)).setCell ⟨w.heap.size + 1, 2, none⟩ (.int .i64 0)).setCell ⟨w.heap.size + 1, 3, none⟩ (.int .i64 0)).setCell ⟨w.heap.size + 1, 4, none⟩ (.int .i64 0)).setCell ⟨w.heap.size + 1, 5, none⟩ (.string P0)).setCell ⟨w.heap.size + 1, 6, none⟩ (.string { data := #[] })).setCell ⟨w.heap.size + 1, 7, none⟩ (.string { data := #[] }))) ?_ ⟨fun h => hR.c0 (h.resolve_left (by decide)), fun h => hR.c1 (h.resolve_left (by decide)), fun h => hR.c2 (h.resolve_left (by decide)), fun h => hR.c3 (h.resolve_left (by decide)), fun h => hR.c4 (h.resolve_left (by decide)), fun h => hR.c5 (h.resolve_left (by decide)), fun h => hR.c6 (h.resolve_left (by decide)), fun h => hR.c7 (h.resolve_left (by decide)), fun h => hR.c8 (h.resolve_left (by decide)), fun h => hR.c9 (h.resolve_left (by decide)), fun h => hR.c13 (h.resolve_left (by decide)), fun h => hR.c14 (h.resolve_left (by decide)), hR.st.keep hK (fun g hg => by rw [hg]; exact ⟨_, 29, hblk, by decide, by decide, by decide, by decide⟩), hK.blk hR.b11 (by omega), hK.blk hR.b22 (by omega), hK.blk hR.b23 (by omega), ⟨hR.s10.1.imp (fun x => hK.blk x (by omega)) (fun x => hK.blk x (by omega)), fun h => hK.blk (hR.s10.2 (h.resolve_left (by decide))) (by omega)⟩, ⟨.inr hnew, fun _ => hnew⟩, ⟨hR.s12.1.imp (fun x => hK.blk x (by omega)) (fun x => hK.blk x (by omega)), fun h => hK.blk (hR.s12.2 (h.resolve_left (by decide))) (by omega)⟩, hR.below.trans (hK.below hR.below.size (fun i hi e => by omega))⟩
                clear hin hout hw hR hK hnew
                go_simp
              · have hnew : Blk ((((((((w1.setCell ⟨w.heap.size + 1, 0, none⟩ (.int .i64 0)).setCell ⟨w.heap.size + 1, 1, none⟩ (.int .i64 0)).setCell ⟨w.heap.size + 1, 2, none⟩ (.int .i64 0)).setCell ⟨w.heap.size + 1, 3, none⟩ (.int .i64 0)).setCell ⟨w.heap.size + 1, 4, none⟩ (.int .i64 0)).setCell ⟨w.heap.size + 1, 5, none⟩ (.string P0)).setCell ⟨w.heap.size + 1, 6, none⟩ (.string { data := #[] })).setCell ⟨w.heap.size + 1, 7, none⟩ (.string { data := #[] })) (w.heap.size + 1) #[.int .i64 0, .int .i64 0, .int .i64 0, .int .i64 0, .int .i64 0, .string P0, .string { data := #[] }, .string { data := #[] }] 29 := by
                  have h := ((((((((hblk.set_ 0 (.int .i64 0)).set_ 1 (.int .i64 0)).set_ 2 (.int .i64 0)).set_ 3 (.int .i64 0)).set_ 4 (.int .i64 0)).set_ 5 (.string P0)).set_ 6 (.string { data := #[] })).set_ 7 (.string { data := #[] }))
                  simpa only [List.setIfInBounds_toArray, List.set_cons_zero, List.set_cons_succ] using h
                have iB := hblk.lt
                have q0 := hblk.cell 0
                have fz0 := hblk.frozen 0
                have q1 := hblk.cell 1
                have fz1 := hblk.frozen 1
                have q2 := hblk.cell 2
                have fz2 := hblk.frozen 2
                have q3 := hblk.cell 3
                have fz3 := hblk.frozen 3
                have q4 := hblk.cell 4
                have fz4 := hblk.frozen 4
                have q5 := hblk.cell 5
                have fz5 := hblk.frozen 5
                have q6 := hblk.cell 6
                have fz6 := hblk.frozen 6
                have q7 := hblk.cell 7
                have fz7 := hblk.frozen 7
                simp at q0 q1 q2 q3 q4 q5 q6 q7
                refine eff_skip (w' := ((((((((w1.setCell ⟨w.heap.size + 1, 0, none⟩ (.int .i64 0)).setCell ⟨w.heap.size + 1, 1, none⟩ (.int .i64 0)).setCell ⟨w.heap.size + 1, 2, none⟩ (.int .i64 0)).setCell ⟨w.heap.size + 1, 3, none⟩ (.int .i64 0)).setCell ⟨w.heap.size + 1, 4, none⟩ (.int .i64 0)).setCell ⟨w.heap.size + 1, 5, none⟩ (.string P0)).setCell ⟨w.heap.size + 1, 6, none⟩ (.string { data := #[] })).setCell ⟨w.heap.size + 1, 7, none⟩ (.string { data := #[] }))) ?_ ⟨fun h => hR.c0 (h.resolve_left (by decide)), fun h => hR.c1 (h.resolve_left (by decide)), fun h => hR.c2 (h.resolve_left (by decide)), fun h => hR.c3 (h.resolve_left (by decide)), fun h => hR.c4 (h.resolve_left (by decide)), fun h => hR.c5 (h.resolve_left (by decide)), fun h => hR.c6 (h.resolve_left (by decide)), fun h => hR.c7 (h.resolve_left (by decide)), fun h => hR.c8 (h.resolve_left (by decide)), fun h => hR.c9 (h.resolve_left (by decide)), fun h => hR.c13 (h.resolve_left (by decide)), fun h => hR.c14 (h.resolve_left (by decide)), hR.st.keep hK (fun g hg => by rw [hg]; exact ⟨_, 29, hblk, by decide, by decide, by decide, by decide⟩), hK.blk hR.b11 (by omega), hK.blk hR.b22 (by omega), hK.blk hR.b23 (by omega), ⟨hR.s10.1.imp (fun x => hK.blk x (by omega)) (fun x => hK.blk x (by omega)), fun h => hK.blk (hR.s10.2 (h.resolve_left (by decide))) (by omega)⟩, ⟨.inr hnew, fun _ => hnew⟩, ⟨hR.s12.1.imp (fun x => hK.blk x (by omega)) (fun x => hK.blk x (by omega)), fun h => hK.blk (hR.s12.2 (h.resolve_left (by decide))) (by omega)⟩, hR.below.trans (hK.below hR.below.size (fun i hi e => by omega))⟩
                clear hin hout hw hR hK hnew
                go_simp
            · intro D σ w1 a hnd hw hR hin hout
              refine ⟨fun _ => ?_, fun e => by cases e⟩
              have e8 : (a.tmps[8]?).getD undef = .pointer (some ⟨w.heap.size + 1 + 1, 0, none⟩) := (evalT a 8).symm.trans ((hout 8 (by kernel_rfl)).trans (by kernel_rfl))
              have e129 : (a.tmps[129]?).getD undef = .agg #[.int .i64 0, .int .i64 1, .int .i64 0, .int .i64 0, .int .i64 0, .string P1, .string { data := #[] }, .string { data := #[] }] := (evalT a 129).symm.trans <| (hin 2 _ 129 rfl rfl).trans (hR.c2 (hw 2 (by kernel_rfl)))
              have hK : Keep (fun g => g = w.heap.size + 1 + 1) w1 ((((((((w1.setCell ⟨w.heap.size + 1 + 1, 0, none⟩ (.int .i64 0)).setCell ⟨w.heap.size + 1 + 1, 1, none⟩ (.int .i64 1)).setCell ⟨w.heap.size + 1 + 1, 2, none⟩ (.int .i64 0)).setCell ⟨w.heap.size + 1 + 1, 3, none⟩ (.int .i64 0)).setCell ⟨w.heap.size + 1 + 1, 4, none⟩ (.int .i64 0)).setCell ⟨w.heap.size + 1 + 1, 5, none⟩ (.string P1)).setCell ⟨w.heap.size + 1 + 1, 6, none⟩ (.string { data := #[] })).setCell ⟨w.heap.size + 1 + 1, 7, none⟩ (.string { data := #[] })) := ((((((((Keep.refl (fun g => g = w.heap.size + 1 + 1) w1).setCell (p := ⟨w.heap.size + 1 + 1, 0, none⟩) (.inl rfl) (.int .i64 0)).setCell (p := ⟨w.heap.size + 1 + 1, 1, none⟩) (.inl rfl) (.int .i64 1)).setCell (p := ⟨w.heap.size + 1 + 1, 2, none⟩) (.inl rfl) (.int .i64 0)).setCell (p := ⟨w.heap.size + 1 + 1, 3, none⟩) (.inl rfl) (.int .i64 0)).setCell (p := ⟨w.heap.size + 1 + 1, 4, none⟩) (.inl rfl) (.int .i64 0)).setCell (p := ⟨w.heap.size + 1 + 1, 5, none⟩) (.inl rfl) (.string P1)).setCell (p := ⟨w.heap.size + 1 + 1, 6, none⟩) (.inl rfl) (.string { data := #[] })).setCell (p := ⟨w.heap.size + 1 + 1, 7, none⟩) (.inl rfl) (.string { data := #[] })
              rcases hR.s12.1 with hblk | hblk
              · have hnew : Blk ((((((((w1.setCell ⟨w.heap.size + 1 + 1, 0, none⟩ (.int .i64 0)).setCell ⟨w.heap.size + 1 + 1, 1, none⟩ (.int .i64 1)).setCell ⟨w.heap.size + 1 + 1, 2, none⟩ (.int .i64 0)).setCell ⟨w.heap.size + 1 + 1, 3, none⟩ (.int .i64 0)).setCell ⟨w.heap.size + 1 + 1, 4, none⟩ (.int .i64 0)).setCell ⟨w.heap.size + 1 + 1, 5, none⟩ (.string P1)).setCell ⟨w.heap.size + 1 + 1, 6, none⟩ (.string { data := #[] })).setCell ⟨w.heap.size + 1 + 1, 7, none⟩ (.string { data := #[] })) (w.heap.size + 1 + 1) #[.int .i64 0, .int .i64 1, .int .i64 0, .int .i64 0, .int .i64 0, .string P1, .string { data := #[] }, .string { data := #[] }] 29 := by
                  have h := ((((((((hblk.set_ 0 (.int .i64 0)).set_ 1 (.int .i64 1)).set_ 2 (.int .i64 0)).set_ 3 (.int .i64 0)).set_ 4 (.int .i64 0)).set_ 5 (.string P1)).set_ 6 (.string { data := #[] })).set_ 7 (.string { data := #[] }))
                  simpa only [List.setIfInBounds_toArray, List.set_cons_zero, List.set_cons_succ] using h
                have iB := hblk.lt
                have q0 := hblk.cell 0
                have fz0 := hblk.frozen 0
                have q1 := hblk.cell 1
                have fz1 := hblk.frozen 1
                have q2 := hblk.cell 2
                have fz2 := hblk.frozen 2
                have q3 := hblk.cell 3
                have fz3 := hblk.frozen 3
                have q4 := hblk.cell 4
                have fz4 := hblk.frozen 4
                have q5 := hblk.cell 5
                have fz5 := hblk.frozen 5
                have q6 := hblk.cell 6
                have fz6 := hblk.frozen 6
                have q7 := hblk.cell 7
                have fz7 := hblk.frozen 7
                simp at q0 q1 q2 q3 q4 q5 q6 q7
                refine eff_skip (w' := ((((((((w1.setCell ⟨w.heap.size + 1 + 1, 0, none⟩ (.int .i64 0)).setCell ⟨w.heap.size + 1 + 1, 1, none⟩ (.int .i64 1)).setCell ⟨w.heap.size + 1 + 1, 2, none⟩ (.int .i64 0)).setCell ⟨w.heap.size + 1 + 1, 3, none⟩ (.int .i64 0)).setCell ⟨w.heap.size + 1 + 1, 4, none⟩ (.int .i64 0)).setCell ⟨w.heap.size + 1 + 1, 5, none⟩ (.string P1)).setCell ⟨w.heap.size + 1 + 1, 6, none⟩ (.string { data := #[] })).setCell ⟨w.heap.size + 1 + 1, 7, none⟩ (.string { data := #[] }))) ?_ ⟨fun h => hR.c0 (h.resolve_left (by decide)), fun h => hR.c1 (h.resolve_left (by decide)), fun h => hR.c2 (h.resolve_left (by decide)), fun h => hR.c3 (h.resolve_left (by decide)), fun h => hR.c4 (h.resolve_left (by decide)), fun h => hR.c5 (h.resolve_left (by decide)), fun h => hR.c6 (h.resolve_left (by decide)), fun h => hR.c7 (h.resolve_left (by decide)), fun h => hR.c8 (h.resolve_left (by decide)), fun h => hR.c9 (h.resolve_left (by decide)), fun h => hR.c13 (h.resolve_left (by decide)), fun h => hR.c14 (h.resolve_left (by decide)), hR.st.keep hK (fun g hg => by rw [hg]; exact ⟨_, 29, hblk, by decide, by decide, by decide, by decide⟩), hK.blk hR.b11 (by omega), hK.blk hR.b22 (by omega), hK.blk hR.b23 (by omega), ⟨hR.s10.1.imp (fun x => hK.blk x (by omega)) (fun x => hK.blk x (by omega)), fun h => hK.blk (hR.s10.2 (h.resolve_left (by decide))) (by omega)⟩, ⟨hR.s11.1.imp (fun x => hK.blk x (by omega)) (fun x => hK.blk x (by omega)), fun h => hK.blk (hR.s11.2 (h.resolve_left (by decide))) (by omega)⟩, ⟨.inr hnew, fun _ => hnew⟩, hR.below.trans (hK.below hR.below.size (fun i hi e => by omega))⟩
                clear hin hout hw hR hK hnew
                go_simp
              · have hnew : Blk ((((((((w1.setCell ⟨w.heap.size + 1 + 1, 0, none⟩ (.int .i64 0)).setCell ⟨w.heap.size + 1 + 1, 1, none⟩ (.int .i64 1)).setCell ⟨w.heap.size + 1 + 1, 2, none⟩ (.int .i64 0)).setCell ⟨w.heap.size + 1 + 1, 3, none⟩ (.int .i64 0)).setCell ⟨w.heap.size + 1 + 1, 4, none⟩ (.int .i64 0)).setCell ⟨w.heap.size + 1 + 1, 5, none⟩ (.string P1)).setCell ⟨w.heap.size + 1 + 1, 6, none⟩ (.string { data := #[] })).setCell ⟨w.heap.size + 1 + 1, 7, none⟩ (.string { data := #[] })) (w.heap.size + 1 + 1) #[.int .i64 0, .int .i64 1, .int .i64 0, .int .i64 0, .int .i64 0, .string P1, .string { data := #[] }, .string { data := #[] }] 29 := by
                  have h := ((((((((hblk.set_ 0 (.int .i64 0)).set_ 1 (.int .i64 1)).set_ 2 (.int .i64 0)).set_ 3 (.int .i64 0)).set_ 4 (.int .i64 0)).set_ 5 (.string P1)).set_ 6 (.string { data := #[] })).set_ 7 (.string { data := #[] }))
                  simpa only [List.setIfInBounds_toArray, List.set_cons_zero, List.set_cons_succ] using h
                have iB := hblk.lt
                have q0 := hblk.cell 0
                have fz0 := hblk.frozen 0
                have q1 := hblk.cell 1
                have fz1 := hblk.frozen 1
                have q2 := hblk.cell 2
                have fz2 := hblk.frozen 2
                have q3 := hblk.cell 3
                have fz3 := hblk.frozen 3
                have q4 := hblk.cell 4
                have fz4 := hblk.frozen 4
                have q5 := hblk.cell 5
                have fz5 := hblk.frozen 5
                have q6 := hblk.cell 6
                have fz6 := hblk.frozen 6
                have q7 := hblk.cell 7
                have fz7 := hblk.frozen 7
                simp at q0 q1 q2 q3 q4 q5 q6 q7
                refine eff_skip (w' := ((((((((w1.setCell ⟨w.heap.size + 1 + 1, 0, none⟩ (.int .i64 0)).setCell ⟨w.heap.size + 1 + 1, 1, none⟩ (.int .i64 1)).setCell ⟨w.heap.size + 1 + 1, 2, none⟩ (.int .i64 0)).setCell ⟨w.heap.size + 1 + 1, 3, none⟩ (.int .i64 0)).setCell ⟨w.heap.size + 1 + 1, 4, none⟩ (.int .i64 0)).setCell ⟨w.heap.size + 1 + 1, 5, none⟩ (.string P1)).setCell ⟨w.heap.size + 1 + 1, 6, none⟩ (.string { data := #[] })).setCell ⟨w.heap.size + 1 + 1, 7, none⟩ (.string { data := #[] }))) ?_ ⟨fun h => hR.c0 (h.resolve_left (by decide)), fun h => hR.c1 (h.resolve_left (by decide)), fun h => hR.c2 (h.resolve_left (by decide)), fun h => hR.c3 (h.resolve_left (by decide)), fun h => hR.c4 (h.resolve_left (by decide)), fun h => hR.c5 (h.resolve_left (by decide)), fun h => hR.c6 (h.resolve_left (by decide)), fun h => hR.c7 (h.resolve_left (by decide)), fun h => hR.c8 (h.resolve_left (by decide)), fun h => hR.c9 (h.resolve_left (by decide)), fun h => hR.c13 (h.resolve_left (by decide)), fun h => hR.c14 (h.resolve_left (by decide)), hR.st.keep hK (fun g hg => by rw [hg]; exact ⟨_, 29, hblk, by decide, by decide, by decide, by decide⟩), hK.blk hR.b11 (by omega), hK.blk hR.b22 (by omega), hK.blk hR.b23 (by omega), ⟨hR.s10.1.imp (fun x => hK.blk x (by omega)) (fun x => hK.blk x (by omega)), fun h => hK.blk (hR.s10.2 (h.resolve_left (by decide))) (by omega)⟩, ⟨hR.s11.1.imp (fun x => hK.blk x (by omega)) (fun x => hK.blk x (by omega)), fun h => hK.blk (hR.s11.2 (h.resolve_left (by decide))) (by omega)⟩, ⟨.inr hnew, fun _ => hnew⟩, hR.below.trans (hK.below hR.below.size (fun i hi e => by omega))⟩
                clear hin hout hw hR hK hnew
                go_simp
            · intro D σ w1 a hnd hw hR hin hout
              refine ⟨fun _ => ?_, fun e => by cases e⟩
              have e136 : (a.tmps[136]?).getD undef = .bool false := (evalT a 136).symm.trans <| (hin 9 _ 136 rfl rfl).trans (hR.c9 (hw 9 (by kernel_rfl)))
              refine eff_val (v := .bool false) (w' := w1) ?_ ⟨fun h => hR.c0 (h.resolve_left (by decide)), fun h => hR.c1 (h.resolve_left (by decide)), fun h => hR.c2 (h.resolve_left (by decide)), fun h => hR.c3 (h.resolve_left (by decide)), fun h => hR.c4 (h.resolve_left (by decide)), fun h => hR.c5 (h.resolve_left (by decide)), fun h => hR.c6 (h.resolve_left (by decide)), fun h => hR.c7 (h.resolve_left (by decide)), fun h => hR.c8 (h.resolve_left (by decide)), fun h => hR.c9 (h.resolve_left (by decide)), fun _ => rfl, fun h => hR.c14 (h.resolve_left (by decide)), hR.st, hR.b11, hR.b22, hR.b23, ⟨hR.s10.1, fun h => hR.s10.2 (h.resolve_left (by decide))⟩, ⟨hR.s11.1, fun h => hR.s11.2 (h.resolve_left (by decide))⟩, ⟨hR.s12.1, fun h => hR.s12.2 (h.resolve_left (by decide))⟩, hR.below⟩
              clear hin hout hw hR
              go_simp
              first | done | rfl
            · intro D σ w1 a hnd hw hR hin hout
              refine ⟨fun _ => ?_, fun e => by cases e⟩
              refine eff_val (v := .bool true) (w' := w1) ?_ ⟨fun h => hR.c0 (h.resolve_left (by decide)), fun h => hR.c1 (h.resolve_left (by decide)), fun h => hR.c2 (h.resolve_left (by decide)), fun h => hR.c3 (h.resolve_left (by decide)), fun h => hR.c4 (h.resolve_left (by decide)), fun h => hR.c5 (h.resolve_left (by decide)), fun h => hR.c6 (h.resolve_left (by decide)), fun h => hR.c7 (h.resolve_left (by decide)), fun h => hR.c8 (h.resolve_left (by decide)), fun h => hR.c9 (h.resolve_left (by decide)), fun h => hR.c13 (h.resolve_left (by decide)), fun _ => rfl, hR.st, hR.b11, hR.b22, hR.b23, ⟨hR.s10.1, fun h => hR.s10.2 (h.resolve_left (by decide))⟩, ⟨hR.s11.1, fun h => hR.s11.2 (h.resolve_left (by decide))⟩, ⟨hR.s12.1, fun h => hR.s12.2 (h.resolve_left (by decide))⟩, hR.below⟩
              clear hin hout hw hR
              go_simp
              first | done | rfl
          · intro σ w5 hR
            have e13 := hR.c13 trivial
            have e14 := hR.c14 trivial
            have hb6 := hR.s10.2 trivial
            have hb7 := hR.s11.2 trivial
            have hb8 := hR.s12.2 trivial
            have hst := hR.st
            have hbf := hR.below
            simp only [putsL, Act.put, List.setIfInBounds_toArray, List.set_cons_zero, List.set_cons_succ, Nat.reduceAdd]
            rw [e13, e14]
            have u0 := hb6.cell 0
            have u1 := hb6.cell 1
            have u2 := hb6.cell 2
            simp at u0 u1 u2
            have v0 := hb7.cell 0
            have v1 := hb7.cell 1
            have v2 := hb7.cell 2
            have v3 := hb7.cell 3
            have v4 := hb7.cell 4
            have v5 := hb7.cell 5
            have v6 := hb7.cell 6
            have v7 := hb7.cell 7
            simp at v0 v1 v2 v3 v4 v5 v6 v7
            have z0 := hb8.cell 0
            have z1 := hb8.cell 1
            have z2 := hb8.cell 2
            have z3 := hb8.cell 3
            have z4 := hb8.cell 4
            have z5 := hb8.cell 5
            have z6 := hb8.cell 6
            have z7 := hb8.cell 7
            simp at z0 z1 z2 z3 z4 z5 z6 z7
            have HZ := Lib.hid (And.intro hst hbf)
            clear hR hb6 hb7 hb8 hst hbf e13 e14
            go_wp2_with fail
            exact bodyPost_ret (v := .tuple #[.agg #[.slice a1 a2 a3, .slice a4 a5 a6, .slice a7 a8 a9], .agg #[.int .i64 0, .int .i64 0, .int .i64 0, .int .i64 0, .int .i64 0, .string P0, .string { data := #[] }, .string { data := #[] }], .agg #[.int .i64 0, .int .i64 1, .int .i64 0, .int .i64 0, .int .i64 0, .string P1, .string { data := #[] }, .string { data := #[] }], .bool false, .bool true]) (by unfold results; simp only [Tryz.results8]; go_simp) rfl ⟨_, _, _, ⟨0, 0, 0, 0, 0, P0, nil, nil⟩, ⟨0, 1, 0, 0, 0, P1, nil, nil⟩, false, rfl, HZ.out.2, HZ.out.1.read⟩
        · refine wp_region_invG (R18 w g11 g22 g23 a1 a2 a3 a4 a5 a6 a7 a8 a9 P0 P1 (qs 6) true (.bool true)) (by kernel_rfl) (by kernel_rfl) (by kernel_rfl) ?_ ?_ ?_
          · intro σ
            have no : ∀ {k : Nat}, k < 15 → ∀ {p : Prop}, 15 ≤ k → p := fun h _ h2 => absurd h2 (by omega)
            exact ⟨no (by decide), no (by decide), no (by decide), no (by decide), no (by decide), no (by decide), no (by decide), no (by decide), no (by decide), no (by decide), no (by decide), no (by decide), hP.st, hP.b11, h22, h23, ⟨.inl hP.b6, no (by decide)⟩, ⟨.inl hP.b7, no (by decide)⟩, ⟨.inl hP.b8, no (by decide)⟩, hP.below.trans ((bel wz wz.drew).mono hP.below.size)⟩
          · refine ⟨?_, ?_, ?_, ?_, ?_, ?_, ?_, ?_, ?_, ?_, ?_, ?_, ?_, ?_, ?_, trivial⟩
            · intro D σ w1 a hnd hw hR hin hout
              refine ⟨fun _ => ?_, fun e => by cases e⟩
              have e11 : (a.tmps[11]?).getD undef = .pointer (some ⟨g11, 0, none⟩) := (evalT a 11).symm.trans ((hout 11 (by kernel_rfl)).trans (by kernel_rfl))
              have q0 := hR.b11.cell 0
              have q1 := hR.b11.cell 1
              have q2 := hR.b11.cell 2
              simp at q0 q1 q2
              refine eff_val (v := .agg #[.slice a1 a2 a3, .slice a4 a5 a6, .slice a7 a8 a9]) (w' := w1) ?_ ⟨fun _ => rfl, fun h => hR.c1 (h.resolve_left (by decide)), fun h => hR.c2 (h.resolve_left (by decide)), fun h => hR.c3 (h.resolve_left (by decide)), fun h => hR.c4 (h.resolve_left (by decide)), fun h => hR.c5 (h.resolve_left (by decide)), fun h => hR.c6 (h.resolve_left (by decide)), fun h => hR.c7 (h.resolve_left (by decide)), fun h => hR.c8 (h.resolve_left (by decide)), fun h => hR.c9 (h.resolve_left (by decide)), fun h => hR.c13 (h.resolve_left (by decide)), fun h => hR.c14 (h.resolve_left (by decide)), hR.st, hR.b11, hR.b22, hR.b23, ⟨hR.s10.1, fun h => hR.s10.2 (h.resolve_left (by decide))⟩, ⟨hR.s11.1, fun h => hR.s11.2 (h.resolve_left (by decide))⟩, ⟨hR.s12.1, fun h => hR.s12.2 (h.resolve_left (by decide))⟩, hR.below⟩
              clear hin hout hw hR
              go_simp
              first | done | rfl
            · intro D σ w1 a hnd hw hR hin hout
              refine ⟨fun _ => ?_, fun e => by cases e⟩
              have e22 : (a.tmps[22]?).getD undef = .pointer (some ⟨g22, 0, none⟩) := (evalT a 22).symm.trans ((hout 22 (by kernel_rfl)).trans (by kernel_rfl))
              have q0 := hR.b22.cell 0
              have q1 := hR.b22.cell 1
              have q2 := hR.b22.cell 2
              have q3 := hR.b22.cell 3
              have q4 := hR.b22.cell 4
              have q5 := hR.b22.cell 5
              have q6 := hR.b22.cell 6
              have q7 := hR.b22.cell 7
              simp at q0 q1 q2 q3 q4 q5 q6 q7
              refine eff_val (v := .agg #[.int .i64 0, .int .i64 0, .int .i64 0, .int .i64 0, .int .i64 0, .string P0, .string { data := #[] }, .string { data := #[] }]) (w' := w1) ?_ ⟨fun h => hR.c0 (h.resolve_left (by decide)), fun _ => rfl, fun h => hR.c2 (h.resolve_left (by decide)), fun h => hR.c3 (h.resolve_left (by decide)), fun h => hR.c4 (h.resolve_left (by decide)), fun h => hR.c5 (h.resolve_left (by decide)), fun h => hR.c6 (h.resolve_left (by decide)), fun h => hR.c7 (h.resolve_left (by decide)), fun h => hR.c8 (h.resolve_left (by decide)), fun h => hR.c9 (h.resolve_left (by decide)), fun h => hR.c13 (h.resolve_left (by decide)), fun h => hR.c14 (h.resolve_left (by decide)), hR.st, hR.b11, hR.b22, hR.b23, ⟨hR.s10.1, fun h => hR.s10.2 (h.resolve_left (by decide))⟩, ⟨hR.s11.1, fun h => hR.s11.2 (h.resolve_left (by decide))⟩, ⟨hR.s12.1, fun h => hR.s12.2 (h.resolve_left (by decide))⟩, hR.below⟩
              clear hin hout hw hR
              go_simp
              first | done | rfl
            · intro D σ w1 a hnd hw hR hin hout
              refine ⟨fun _ => ?_, fun e => by cases e⟩
              have e23 : (a.tmps[23]?).getD undef = .pointer (some ⟨g23, 0, none⟩) := (evalT a 23).symm.trans ((hout 23 (by kernel_rfl)).trans (by kernel_rfl))
              have q0 := hR.b23.cell 0
              have q1 := hR.b23.cell 1
              have q2 := hR.b23.cell 2
              have q3 := hR.b23.cell 3
              have q4 := hR.b23.cell 4
              have q5 := hR.b23.cell 5
              have q6 := hR.b23.cell 6
              have q7 := hR.b23.cell 7
              simp at q0 q1 q2 q3 q4 q5 q6 q7
              refine eff_val (v := .agg #[.int .i64 0, .int .i64 1, .int .i64 0, .int .i64 0, .int .i64 0, .string P1, .string { data := #[] }, .string { data := #[] }]) (w' := w1) ?_ ⟨fun h => hR.c0 (h.resolve_left (by decide)), fun h => hR.c1 (h.resolve_left (by decide)), fun _ => rfl, fun h => hR.c3 (h.resolve_left (by decide)), fun h => hR.c4 (h.resolve_left (by decide)), fun h => hR.c5 (h.resolve_left (by decide)), fun h => hR.c6 (h.resolve_left (by decide)), fun h => hR.c7 (h.resolve_left (by decide)), fun h => hR.c8 (h.resolve_left (by decide)), fun h => hR.c9 (h.resolve_left (by decide)), fun h => hR.c13 (h.resolve_left (by decide)), fun h => hR.c14 (h.resolve_left (by decide)), hR.st, hR.b11, hR.b22, hR.b23, ⟨hR.s10.1, fun h => hR.s10.2 (h.resolve_left (by decide))⟩, ⟨hR.s11.1, fun h => hR.s11.2 (h.resolve_left (by decide))⟩, ⟨hR.s12.1, fun h => hR.s12.2 (h.resolve_left (by decide))⟩, hR.below⟩
              clear hin hout hw hR
              go_simp
              first | done | rfl
            · intro D σ w1 a hnd hw hR hin hout
              refine ⟨fun _ => ?_, fun e => by cases e⟩
              have e24 : (a.tmps[24]?).getD undef = .bool false := (evalT a 24).symm.trans ((hout 24 (by kernel_rfl)).trans (by kernel_rfl))
              refine eff_val (v := .bool false) (w' := w1) ?_ ⟨fun h => hR.c0 (h.resolve_left (by decide)), fun h => hR.c1 (h.resolve_left (by decide)), fun h => hR.c2 (h.resolve_left (by decide)), fun _ => rfl, fun h => hR.c4 (h.resolve_left (by decide)), fun h => hR.c5 (h.resolve_left (by decide)), fun h => hR.c6 (h.resolve_left (by decide)), fun h => hR.c7 (h.resolve_left (by decide)), fun h => hR.c8 (h.resolve_left (by decide)), fun h => hR.c9 (h.resolve_left (by decide)), fun h => hR.c13 (h.resolve_left (by decide)), fun h => hR.c14 (h.resolve_left (by decide)), hR.st, hR.b11, hR.b22, hR.b23, ⟨hR.s10.1, fun h => hR.s10.2 (h.resolve_left (by decide))⟩, ⟨hR.s11.1, fun h => hR.s11.2 (h.resolve_left (by decide))⟩, ⟨hR.s12.1, fun h => hR.s12.2 (h.resolve_left (by decide))⟩, hR.below⟩
              clear hin hout hw hR
              go_simp
              first | done | rfl
            · intro D σ w1 a hnd hw hR hin hout
              refine ⟨fun _ => ?_, fun e => by cases e⟩
              have e130 : (a.tmps[130]?).getD undef = .bool false := (evalT a 130).symm.trans <| (hin 3 _ 130 rfl rfl).trans (hR.c3 (hw 3 (by kernel_rfl)))
              refine eff_val (v := .bool false) (w' := w1) ?_ ⟨fun h => hR.c0 (h.resolve_left (by decide)), fun h => hR.c1 (h.resolve_left (by decide)), fun h => hR.c2 (h.resolve_left (by decide)), fun h => hR.c3 (h.resolve_left (by decide)), fun _ => rfl, fun h => hR.c5 (h.resolve_left (by decide)), fun h => hR.c6 (h.resolve_left (by decide)), fun h => hR.c7 (h.resolve_left (by decide)), fun h => hR.c8 (h.resolve_left (by decide)), fun h => hR.c9 (h.resolve_left (by decide)), fun h => hR.c13 (h.resolve_left (by decide)), fun h => hR.c14 (h.resolve_left (by decide)), hR.st, hR.b11, hR.b22, hR.b23, ⟨hR.s10.1, fun h => hR.s10.2 (h.resolve_left (by decide))⟩, ⟨hR.s11.1, fun h => hR.s11.2 (h.resolve_left (by decide))⟩, ⟨hR.s12.1, fun h => hR.s12.2 (h.resolve_left (by decide))⟩, hR.below⟩
              clear hin hout hw hR
              go_simp
              first | done | rfl
            · intro D σ w1 a hnd hw hR hin hout
              have eg : a.eval (.tmp 131) = .bool false := (hin 4 _ 131 rfl rfl).trans (hR.c4 (hw 4 (by kernel_rfl)))
              have ey := yielded_of (j := 4) (d := 131) eg
              refine ⟨fun _ => ?_, fun e => by simp only [Region.wanted] at e; rw [ey _ _ rfl rfl] at e; cases e⟩
              have e19 : (a.tmps[19]?).getD undef = .bool true := (evalT a 19).symm.trans ((hout 19 (by kernel_rfl)).trans (by kernel_rfl))
              refine eff_val (v := .bool true) (w' := w1) ?_ ⟨fun h => hR.c0 (h.resolve_left (by decide)), fun h => hR.c1 (h.resolve_left (by decide)), fun h => hR.c2 (h.resolve_left (by decide)), fun h => hR.c3 (h.resolve_left (by decide)), fun h => hR.c4 (h.resolve_left (by decide)), fun _ => rfl, fun h => hR.c6 (h.resolve_left (by decide)), fun h => hR.c7 (h.resolve_left (by decide)), fun h => hR.c8 (h.resolve_left (by decide)), fun h => hR.c9 (h.resolve_left (by decide)), fun h => hR.c13 (h.resolve_left (by decide)), fun h => hR.c14 (h.resolve_left (by decide)), hR.st, hR.b11, hR.b22, hR.b23, ⟨hR.s10.1, fun h => hR.s10.2 (h.resolve_left (by decide))⟩, ⟨hR.s11.1, fun h => hR.s11.2 (h.resolve_left (by decide))⟩, ⟨hR.s12.1, fun h => hR.s12.2 (h.resolve_left (by decide))⟩, hR.below⟩
              clear hin hout hw hR
              go_simp
              first | done | rfl
            · intro D σ w1 a hnd hw hR hin hout
              have eg : a.eval (.tmp 131) = .bool false := (hin 4 _ 131 rfl rfl).trans (hR.c4 (hw 4 (by kernel_rfl)))
              have ey := yielded_of (j := 4) (d := 131) eg
              refine ⟨fun _ => ?_, fun e => by simp only [Region.wanted] at e; rw [ey _ _ rfl rfl] at e; cases e⟩
              have e132 : (a.tmps[132]?).getD undef = .bool true := (evalT a 132).symm.trans <| (hin 5 _ 132 rfl rfl).trans (hR.c5 (hw 5 (by kernel_rfl)))
              refine eff_val (v := .bool true) (w' := w1) ?_ ⟨fun h => hR.c0 (h.resolve_left (by decide)), fun h => hR.c1 (h.resolve_left (by decide)), fun h => hR.c2 (h.resolve_left (by decide)), fun h => hR.c3 (h.resolve_left (by decide)), fun h => hR.c4 (h.resolve_left (by decide)), fun h => hR.c5 (h.resolve_left (by decide)), fun _ => rfl, fun h => hR.c7 (h.resolve_left (by decide)), fun h => hR.c8 (h.resolve_left (by decide)), fun h => hR.c9 (h.resolve_left (by decide)), fun h => hR.c13 (h.resolve_left (by decide)), fun h => hR.c14 (h.resolve_left (by decide)), hR.st, hR.b11, hR.b22, hR.b23, ⟨hR.s10.1, fun h => hR.s10.2 (h.resolve_left (by decide))⟩, ⟨hR.s11.1, fun h => hR.s11.2 (h.resolve_left (by decide))⟩, ⟨hR.s12.1, fun h => hR.s12.2 (h.resolve_left (by decide))⟩, hR.below⟩
              clear hin hout hw hR
              go_simp
              first | done | rfl
            · intro D σ w1 a hnd hw hR hin hout
              have eg : a.eval (.tmp 133) = .bool true := (hin 6 _ 133 rfl rfl).trans (hR.c6 (hw 6 (by kernel_rfl)))
              have ey := yielded_of (j := 6) (d := 133) eg
              refine ⟨fun _ => ?_, fun e => by simp only [Region.wanted] at e; rw [ey _ _ rfl rfl] at e; cases e⟩
              have e25 : (a.tmps[25]?).getD undef = .bool true := (evalT a 25).symm.trans ((hout 25 (by kernel_rfl)).trans (by kernel_rfl))
              refine eff_val (v := .bool true) (w' := w1) ?_ ⟨fun h => hR.c0 (h.resolve_left (by decide)), fun h => hR.c1 (h.resolve_left (by decide)), fun h => hR.c2 (h.resolve_left (by decide)), fun h => hR.c3 (h.resolve_left (by decide)), fun h => hR.c4 (h.resolve_left (by decide)), fun h => hR.c5 (h.resolve_left (by decide)), fun h => hR.c6 (h.resolve_left (by decide)), fun _ => rfl, fun h => hR.c8 (h.resolve_left (by decide)), fun h => hR.c9 (h.resolve_left (by decide)), fun h => hR.c13 (h.resolve_left (by decide)), fun h => hR.c14 (h.resolve_left (by decide)), hR.st, hR.b11, hR.b22, hR.b23, ⟨hR.s10.1, fun h => hR.s10.2 (h.resolve_left (by decide))⟩, ⟨hR.s11.1, fun h => hR.s11.2 (h.resolve_left (by decide))⟩, ⟨hR.s12.1, fun h => hR.s12.2 (h.resolve_left (by decide))⟩, hR.below⟩
              clear hin hout hw hR
              go_simp
              first | done | rfl
            · intro D σ w1 a hnd hw hR hin hout
              have eg : a.eval (.tmp 131) = .bool false := (hin 4 _ 131 rfl rfl).trans (hR.c4 (hw 4 (by kernel_rfl)))
              have ey := yielded_of (j := 4) (d := 131) eg
              refine ⟨fun _ => ?_, fun e => by simp only [Region.wanted] at e; rw [ey _ _ rfl rfl] at e; cases e⟩
              have e133 : (a.tmps[133]?).getD undef = .bool true := (evalT a 133).symm.trans <| (hin 6 _ 133 rfl rfl).trans (hR.c6 (hw 6 (by kernel_rfl)))
              have e134 : (a.tmps[134]?).getD undef = .bool true := (evalT a 134).symm.trans <| (hin 7 _ 134 rfl rfl).trans (hR.c7 (hw 7 (by kernel_rfl)))
              refine eff_val (v := .bool true) (w' := w1) ?_ ⟨fun h => hR.c0 (h.resolve_left (by decide)), fun h => hR.c1 (h.resolve_left (by decide)), fun h => hR.c2 (h.resolve_left (by decide)), fun h => hR.c3 (h.resolve_left (by decide)), fun h => hR.c4 (h.resolve_left (by decide)), fun h => hR.c5 (h.resolve_left (by decide)), fun h => hR.c6 (h.resolve_left (by decide)), fun h => hR.c7 (h.resolve_left (by decide)), fun _ => rfl, fun h => hR.c9 (h.resolve_left (by decide)), fun h => hR.c13 (h.resolve_left (by decide)), fun h => hR.c14 (h.resolve_left (by decide)), hR.st, hR.b11, hR.b22, hR.b23, ⟨hR.s10.1, fun h => hR.s10.2 (h.resolve_left (by decide))⟩, ⟨hR.s11.1, fun h => hR.s11.2 (h.resolve_left (by decide))⟩, ⟨hR.s12.1, fun h => hR.s12.2 (h.resolve_left (by decide))⟩, hR.below⟩
              clear hin hout hw hR
              go_simp
              first | done | rfl
            · intro D σ w1 a hnd hw hR hin hout
              refine ⟨fun _ => ?_, fun e => by cases e⟩
              have e131 : (a.tmps[131]?).getD undef = .bool false := (evalT a 131).symm.trans <| (hin 4 _ 131 rfl rfl).trans (hR.c4 (hw 4 (by kernel_rfl)))
              have e135 : (a.tmps[135]?).getD undef = .bool true := (evalT a 135).symm.trans <| (hin 8 _ 135 rfl rfl).trans (hR.c8 (hw 8 (by kernel_rfl)))
              refine eff_val (v := .bool true) (w' := w1) ?_ ⟨fun h => hR.c0 (h.resolve_left (by decide)), fun h => hR.c1 (h.resolve_left (by decide)), fun h => hR.c2 (h.resolve_left (by decide)), fun h => hR.c3 (h.resolve_left (by decide)), fun h => hR.c4 (h.resolve_left (by decide)), fun h => hR.c5 (h.resolve_left (by decide)), fun h => hR.c6 (h.resolve_left (by decide)), fun h => hR.c7 (h.resolve_left (by decide)), fun h => hR.c8 (h.resolve_left (by decide)), fun _ => rfl, fun h => hR.c13 (h.resolve_left (by decide)), fun h => hR.c14 (h.resolve_left (by decide)), hR.st, hR.b11, hR.b22, hR.b23, ⟨hR.s10.1, fun h => hR.s10.2 (h.resolve_left (by decide))⟩, ⟨hR.s11.1, fun h => hR.s11.2 (h.resolve_left (by decide))⟩, ⟨hR.s12.1, fun h => hR.s12.2 (h.resolve_left (by decide))⟩, hR.below⟩
              clear hin hout hw hR
              go_simp
              first | done | rfl
            · intro D σ w1 a hnd hw hR hin hout
              refine ⟨fun _ => ?_, fun e => by cases e⟩
              have e6 : (a.tmps[6]?).getD undef = .pointer (some ⟨w.heap.size, 0, none⟩) := (evalT a 6).symm.trans ((hout 6 (by kernel_rfl)).trans (by kernel_rfl))
              have e127 : (a.tmps[127]?).getD undef = .agg #[.slice a1 a2 a3, .slice a4 a5 a6, .slice a7 a8 a9] := (evalT a 127).symm.trans <| (hin 0 _ 127 rfl rfl).trans (hR.c0 (hw 0 (by kernel_rfl)))
              have hK : Keep (fun g => g = w.heap.size) w1 (((w1.setCell ⟨w.heap.size, 0, none⟩ (.slice a1 a2 a3)).setCell ⟨w.heap.size, 1, none⟩ (.slice a4 a5 a6)).setCell ⟨w.heap.size, 2, none⟩ (.slice a7 a8 a9)) := (((Keep.refl (fun g => g = w.heap.size) w1).setCell (p := ⟨w.heap.size, 0, none⟩) (.inl rfl) (.slice a1 a2 a3)).setCell (p := ⟨w.heap.size, 1, none⟩) (.inl rfl) (.slice a4 a5 a6)).setCell (p := ⟨w.heap.size, 2, none⟩) (.inl rfl) (.slice a7 a8 a9)
              rcases hR.s10.1 with hblk | hblk
              · have hnew : Blk (((w1.setCell ⟨w.heap.size, 0, none⟩ (.slice a1 a2 a3)).setCell ⟨w.heap.size, 1, none⟩ (.slice a4 a5 a6)).setCell ⟨w.heap.size, 2, none⟩ (.slice a7 a8 a9)) (w.heap.size) #[.slice a1 a2 a3, .slice a4 a5 a6, .slice a7 a8 a9] 27 := by
                  have h := (((hblk.set_ 0 (.slice a1 a2 a3)).set_ 1 (.slice a4 a5 a6)).set_ 2 (.slice a7 a8 a9))
                  simpa only [List.setIfInBounds_toArray, List.set_cons_zero, List.set_cons_succ] using h
                have iB := hblk.lt
                have q0 := hblk.cell 0
                have fz0 := hblk.frozen 0
                have q1 := hblk.cell 1
                have fz1 := hblk.frozen 1
                have q2 := hblk.cell 2
                have fz2 := hblk.frozen 2
                simp at q0 q1 q2
                refine eff_skip (w' := (((w1.setCell ⟨w.heap.size, 0, none⟩ (.slice a1 a2 a3)).setCell ⟨w.heap.size, 1, none⟩ (.slice a4 a5 a6)).setCell ⟨w.heap.size, 2, none⟩ (.slice a7 a8 a9))) ?_ ⟨fun h => hR.c0 (h.resolve_left (by decide)), fun h => hR.c1 (h.resolve_left (by decide)), fun h => hR.c2 (h.resolve_left (by decide)), fun h => hR.c3 (h.resolve_left (by decide)), fun h => hR.c4 (h.resolve_left (by decide)), fun h => hR.c5 (h.resolve_left (by decide)), fun h => hR.c6 (h.resolve_left (by decide)), fun h => hR.c7 (h.resolve_left (by decide)), fun h => hR.c8 (h.resolve_left (by decide)), fun h => hR.c9 (h.resolve_left (by decide)), fun h => hR.c13 (h.resolve_left (by decide)), fun h => hR.c14 (h.resolve_left (by decide)), hR.st.keep hK (fun g hg => by rw [hg]; exact ⟨_, 27, hblk, by decide, by decide, by decide, by decide⟩), hK.blk hR.b11 (by omega), hK.blk hR.b22 (by omega), hK.blk hR.b23 (by omega), ⟨.inr hnew, fun _ => hnew⟩, ⟨hR.s11.1.imp (fun x => hK.blk x (by omega)) (fun x => hK.blk x (by omega)), fun h => hK.blk (hR.s11.2 (h.resolve_left (by decide))) (by omega)⟩, ⟨hR.s12.1.imp (fun x => hK.blk x (by omega)) (fun x => hK.blk x (by omega)), fun h => hK.blk (hR.s12.2 (h.resolve_left (by decide))) (by omega)⟩, hR.below.trans (hK.below hR.below.size (fun i hi e => by omega))⟩
                clear hin hout hw hR hK hnew
                go_simp
              · have hnew : Blk (((w1.setCell ⟨w.heap.size, 0, none⟩ (.slice a1 a2 a3)).setCell ⟨w.heap.size, 1, none⟩ (.slice a4 a5 a6)).setCell ⟨w.heap.size, 2, none⟩ (.slice a7 a8 a9)) (w.heap.size) #[.slice a1 a2 a3, .slice a4 a5 a6, .slice a7 a8 a9] 27 := by
                  have h := (((hblk.set_ 0 (.slice a1 a2 a3)).set_ 1 (.slice a4 a5 a6)).set_ 2 (.slice a7 a8 a9))
                  simpa only [List.setIfInBounds_toArray, List.set_cons_zero, List.set_cons_succ] using h
                have iB := hblk.lt
                have q0 := hblk.cell 0
                have fz0 := hblk.frozen 0
                have q1 := hblk.cell 1
                have fz1 := hblk.frozen 1
                have q2 := hblk.cell 2
                have fz2 := hblk.frozen 2
                simp at q0 q1 q2
                refine eff_skip (w' := (((w1.setCell ⟨w.heap.size, 0, none⟩ (.slice a1 a2 a3)).setCell ⟨w.heap.size, 1, none⟩ (.slice a4 a5 a6)).setCell ⟨w.heap.size, 2, none⟩ (.slice a7 a8 a9))) ?_ ⟨fun h => hR.c0 (h.resolve_left (by decide)), fun h => hR.c1 (h.resolve_left (by decide)), fun h => hR.c2 (h.resolve_left (by decide)), fun h => hR.c3 (h.resolve_left (by decide)), fun h => hR.c4 (h.resolve_left (by decide)), fun h => hR.c5 (h.resolve_left (by decide)), fun h => hR.c6 (h.resolve_left (by decide)), fun h => hR.c7 (h.resolve_left (by decide)), fun h => hR.c8 (h.resolve_left (by decide)), fun h => hR.c9 (h.resolve_left (by decide)), fun h => hR.c13 (h.resolve_left (by decide)), fun h => hR.c14 (h.resolve_left (by decide)), hR.st.keep hK (fun g hg => by rw [hg]; exact ⟨_, 27, hblk, by decide, by decide, by decide, by decide⟩), hK.blk hR.b11 (by omega), hK.blk hR.b22 (by omega), hK.blk hR.b23 (by omega), ⟨.inr hnew, fun _ => hnew⟩, ⟨hR.s11.1.imp (fun x => hK.blk x (by omega)) (fun x => hK.blk x (by omega)), fun h => hK.blk (hR.s11.2 (h.resolve_left (by decide))) (by omega)⟩, ⟨hR.s12.1.imp (fun x => hK.blk x (by omega)) (fun x => hK.blk x (by omega)), fun h => hK.blk (hR.s12.2 (h.resolve_left (by decide))) (by omega)⟩, hR.below.trans (hK.below hR.below.size (fun i hi e => by omega))⟩
                clear hin hout hw hR hK hnew
                go_simp
            · intro D σ w1 a hnd hw hR hin hout
              refine ⟨fun _ => ?_, fun e => by cases e⟩
              have e7 : (a.tmps[7]?).getD undef = .pointer (some ⟨w.heap.size + 1, 0, none⟩) := (evalT a 7).symm.trans ((hout 7 (by kernel_rfl)).trans (by kernel_rfl))
              have e128 : (a.tmps[128]?).getD undef = .agg #[.int .i64 0, .int .i64 0, .int .i64 0, .int .i64 0, .int .i64 0, .string P0, .string { data := #[] }, .string { data := #[] }] := (evalT a 128).symm.trans <| (hin 1 _ 128 rfl rfl).trans (hR.c1 (hw 1 (by kernel_rfl)))
              have hK : Keep (fun g => g = w.heap.size + 1) w1 ((((((((w1.setCell ⟨w.heap.size + 1, 0, none⟩ (.int .i64 0)).setCell ⟨w.heap.size + 1, 1, none⟩ (.int .i64 0)).setCell ⟨w.heap.size + 1, 2, none⟩ (.int .i64 0)).setCell ⟨w.heap.size + 1, 3, none⟩ (.int .i64 0)).setCell ⟨w.heap.size + 1, 4, none⟩ (.int .i64 0)).setCell ⟨w.heap.size + 1, 5, none⟩ (.string P0)).setCell ⟨w.heap.size + 1, 6, none⟩ (.string { data := #[] })).setCell ⟨w.heap.size + 1, 7, none⟩ (.string { data := #[] })) := ((((((((Keep.refl (fun g => g = w.heap.size + 1) w1).setCell (p := ⟨w.heap.size + 1, 0, none⟩) (.inl rfl) (.int .i64 0)).setCell (p := ⟨w.heap.size + 1, 1, none⟩) (.inl rfl) (.int .i64 0)).setCell (p := ⟨w.heap.size + 1, 2, none⟩) (.inl rfl) (.int .i64 0)).setCell (p := ⟨w.heap.size + 1, 3, none⟩) (.inl rfl) (.int .i64 0)).setCell (p := ⟨w.heap.size + 1, 4, none⟩) (.inl rfl) (.int .i64 0)).setCell (p := ⟨w.heap.size + 1, 5, none⟩) (.inl rfl) (.string P0)).setCell (p := ⟨w.heap.size + 1, 6, none⟩) (.inl rfl) (.string { data := #[] })).setCell (p := ⟨w.heap.size + 1, 7, none⟩) (.inl rfl) (.string { data := #[] })
              rcases hR.s11.1 with hblk | hblk
              · have hnew : Blk ((((((((w1.setCell ⟨w.heap.size + 1, 0, none⟩ (.int .i64 0)).setCell ⟨w.heap.size + 1, 1, none⟩ (.int .i64 0)).setCell ⟨w.heap.size + 1, 2, none⟩ (.int .i64 0)).setCell ⟨w.heap.size + 1, 3, none⟩ (.int .i64 0)).setCell ⟨w.heap.size + 1, 4, none⟩ (.int .i64 0)).setCell ⟨w.heap.size + 1, 5, none⟩ (.string P0)).setCell ⟨w.heap.size + 1, 6, none⟩ (.string { data := #[] })).setCell ⟨w.heap.size + 1, 7, none⟩ (.string { data := #[] })) (w.heap.size + 1) #[.int .i64 0, .int .i64 0, .int .i64 0, .int .i64 0, .int .i64 0, .string P0, .string { data := #[] }, .string { data := #[] }] 29 := by
                  have h := ((((((((hblk.set_ 0 (.int .i64 0)).set_ 1 (.int .i64 0)).set_ 2 (.int .i64 0)).set_ 3 (.int .i64 0)).set_ 4 (.int .i64 0)).set_ 5 (.string P0)).set_ 6 (.string { data := #[] })).set_ 7 (.string { data := #[] }))
                  simpa only [List.setIfInBounds_toArray, List.set_cons_zero, List.set_cons_succ] using h
                have iB := hblk.lt
                have q0 := hblk.cell 0
                have fz0 := hblk.frozen 0
                have q1 := hblk.cell 1
                have fz1 := hblk.frozen 1
                have q2 := hblk.cell 2
                have fz2 := hblk.frozen 2
                have q3 := hblk.cell 3
                have fz3 := hblk.frozen 3
                have q4 := hblk.cell 4
                have fz4 := hblk.frozen 4
                have q5 := hblk.cell 5
                have fz5 := hblk.frozen 5
                have q6 := hblk.cell 6
                have fz6 := hblk.frozen 6
                have q7 := hblk.cell 7
                have fz7 := hblk.frozen 7
                simp at q0 q1 q2 q3 q4 q5 q6 q7
                refine eff_skip (w' := ((((((((w1.setCell ⟨w.heap.size + 1, 0, none⟩ (.int .i64 0)).setCell ⟨w.heap.size + 1, 1, none⟩ (.int .i64 0)).setCell ⟨w.heap.size + 1, 2, none⟩ (.int .i64 0)).setCell ⟨w.heap.size + 1, 3, none⟩ (.int .i64 0)).setCell ⟨w.heap.size + 1, 4, none⟩ (.int .i64 0)).setCell ⟨w.heap.size + 1, 5, none⟩ (.string P0)).setCell ⟨w.heap.size + 1, 6, none⟩ (.string { data := #[] })).setCell ⟨w.heap.size + 1, 7, none⟩ (.string { data := #[] }))) ?_ ⟨fun h => hR.c0 (h.resolve_left (by decide)), fun h => hR.c1 (h.resolve_left (by decide)), fun h => hR.c2 (h.resolve_left (by decide)), fun h => hR.c3 (h.resolve_left (by decide)), fun h => hR.c4 (h.resolve_left (by decide)), fun h => hR.c5 (h.resolve_left (by decide)), fun h => hR.c6 (h.resolve_left (by decide)), fun h => hR.c7 (h.resolve_left (by decide)), fun h => hR.c8 (h.resolve_left (by decide)), fun h => hR.c9 (h.resolve_left (by decide)), fun h => hR.c13 (h.resolve_left (by decide)), fun h => hR.c14 (h.resolve_left (by decide)), hR.st.keep hK (fun g hg => by rw [hg]; exact ⟨_, 29, hblk, by decide, by decide, by decide, by decide⟩), hK.blk hR.b11 (by omega), hK.blk hR.b22 (by omega), hK.blk hR.b23 (by omega), ⟨hR.s10.1.imp (fun x => hK.blk x (by omega)) (fun x => hK.blk x (by omega)), fun h => hK.blk (hR.s10.2 (h.resolve_left (by decide))) (by omega)⟩, ⟨.inr hnew, fun _ => hnew⟩, ⟨hR.s12.1.imp (fun x => hK.blk x (by omega)) (fun x => hK.blk x (by omega)), fun h => hK.blk (hR.s12.2 (h.resolve_left (by decide))) (by omega)⟩, hR.below.trans (hK.below hR.below.size (fun i hi e => by omega))⟩
                clear hin hout hw hR hK hnew
                go_simp
              · have hnew : Blk ((((((((w1.setCell ⟨w.heap.size + 1, 0, none⟩ (.int .i64 0)).setCell ⟨w.heap.size + 1, 1, none⟩ (.int .i64 0)).setCell ⟨w.heap.size + 1, 2, none⟩ (.int .i64 0)).setCell ⟨w.heap.size + 1, 3, none⟩ (.int .i64 0)).setCell ⟨w.heap.size + 1, 4, none⟩ (.int .i64 0)).setCell ⟨w.heap.size + 1, 5, none⟩ (.string P0)).setCell ⟨w.heap.size + 1, 6, none⟩ (.string { data := #[] })).setCell ⟨w.heap.size + 1, 7, none⟩ (.string { data := #[] })) (w.heap.size + 1) #[.int .i64 0, .int .i64 0, .int .i64 0, .int .i64 0, .int .i64 0, .string P0, .string { data := #[] }, .string { data := #[] }] 29 := by
                  have h := ((((((((hblk.set_ 0 (.int .i64 0)).set_ 1 (.int .i64 0)).set_ 2 (.int .i64 0)).set_ 3 (.int .i64 0)).set_ 4 (.int .i64 0)).set_ 5 (.string P0)).set_ 6 (.string { data := #[] })).set_ 7 (.string { data := #[] }))
                  simpa only [List.setIfInBounds_toArray, List.set_cons_zero, List.set_cons_succ] using h
                have iB := hblk.lt
                have q0 := hblk.cell 0
                have fz0 := hblk.frozen 0
                have q1 := hblk.cell 1
                have fz1 := hblk.frozen 1
                have q2 := hblk.cell 2
                have fz2 := hblk.frozen 2
                have q3 := hblk.cell 3
                have fz3 := hblk.frozen 3
                have q4 := hblk.cell 4
                have fz4 := hblk.frozen 4
                have q5 := hblk.cell 5
                have fz5 := hblk.frozen 5
                have q6 := hblk.cell 6
                have fz6 := hblk.frozen 6
                have q7 := hblk.cell 7
                have fz7 := hblk.frozen 7
                simp at q0 q1 q2 q3 q4 q5 q6 q7
                refine eff_skip (w' := ((((((((w1.setCell ⟨w.heap.size + 1, 0, none⟩ (.int .i64 0)).setCell ⟨w.heap.size + 1, 1, none⟩ (.int .i64 0)).setCell ⟨w.heap.size + 1, 2, none⟩ (.int .i64 0)).setCell ⟨w.heap.size + 1, 3, none⟩ (.int .i64 0)).setCell ⟨w.heap.size + 1, 4, none⟩ (.int .i64 0)).setCell ⟨w.heap.size + 1, 5, none⟩ (.string P0)).setCell ⟨w.heap.size + 1, 6, none⟩ (.string { data := #[] })).setCell ⟨w.heap.size + 1, 7, none⟩ (.string { data := #[] }))) ?_ ⟨fun h => hR.c0 (h.resolve_left (by decide)), fun h => hR.c1 (h.resolve_left (by decide)), fun h => hR.c2 (h.resolve_left (by decide)), fun h => hR.c3 (h.resolve_left (by decide)), fun h => hR.c4 (h.resolve_left (by decide)), fun h => hR.c5 (h.resolve_left (by decide)), fun h => hR.c6 (h.resolve_left (by decide)), fun h => hR.c7 (h.resolve_left (by decide)), fun h => hR.c8 (h.resolve_left (by decide)), fun h => hR.c9 (h.resolve_left (by decide)), fun h => hR.c13 (h.resolve_left (by decide)), fun h => hR.c14 (h.resolve_left (by decide)), hR.st.keep hK (fun g hg => by rw [hg]; exact ⟨_, 29, hblk, by decide, by decide, by decide, by decide⟩), hK.blk hR.b11 (by omega), hK.blk hR.b22 (by omega), hK.blk hR.b23 (by omega), ⟨hR.s10.1.imp (fun x => hK.blk x (by omega)) (fun x => hK.blk x (by omega)), fun h => hK.blk (hR.s10.2 (h.resolve_left (by decide))) (by omega)⟩, ⟨.inr hnew, fun _ => hnew⟩, ⟨hR.s12.1.imp (fun x => hK.blk x (by omega)) (fun x => hK.blk x (by omega)), fun h => hK.blk (hR.s12.2 (h.resolve_left (by decide))) (by omega)⟩, hR.below.trans (hK.below hR.below.size (fun i hi e => by omega))⟩
                clear hin hout hw hR hK hnew
                go_simp
            · intro D σ w1 a hnd hw hR hin hout
              refine ⟨fun _ => ?_, fun e => by cases e⟩
              have e8 : (a.tmps[8]?).getD undef = .pointer (some ⟨w.heap.size + 1 + 1, 0, none⟩) := (evalT a 8).symm.trans ((hout 8 (by kernel_rfl)).trans (by kernel_rfl))
              have e129 : (a.tmps[129]?).getD undef = .agg #[.int .i64 0, .int .i64 1, .int .i64 0, .int .i64 0, .int .i64 0, .string P1, .string { data := #[] }, .string { data := #[] }] := (evalT a 129).symm.trans <| (hin 2 _ 129 rfl rfl).trans (hR.c2 (hw 2 (by kernel_rfl)))
              have hK : Keep (fun g => g = w.heap.size + 1 + 1) w1 ((((((((w1.setCell ⟨w.heap.size + 1 + 1, 0, none⟩ (.int .i64 0)).setCell ⟨w.heap.size + 1 + 1, 1, none⟩ (.int .i64 1)).setCell ⟨w.heap.size + 1 + 1, 2, none⟩ (.int .i64 0)).setCell ⟨w.heap.size + 1 + 1, 3, none⟩ (.int .i64 0)).setCell ⟨w.heap.size + 1 + 1, 4, none⟩ (.int .i64 0)).setCell ⟨w.heap.size + 1 + 1, 5, none⟩ (.string P1)).setCell ⟨w.heap.size + 1 + 1, 6, none⟩ (.string { data := #[] })).setCell ⟨w.heap.size + 1 + 1, 7, none⟩ (.string { data := #[] })) := ((((((((Keep.refl (fun g => g = w.heap.size + 1 + 1) w1).setCell (p := ⟨w.heap.size + 1 + 1, 0, none⟩) (.inl rfl) (.int .i64 0)).setCell (p := ⟨w.heap.size + 1 + 1, 1, none⟩) (.inl rfl) (.int .i64 1)).setCell (p := ⟨w.heap.size + 1 + 1, 2, none⟩) (.inl rfl) (.int .i64 0)).setCell (p := ⟨w.heap.size + 1 + 1, 3, none⟩) (.inl rfl) (.int .i64 0)).setCell (p := ⟨w.heap.size + 1 + 1, 4, none⟩) (.inl rfl) (.int .i64 0)).setCell (p := ⟨w.heap.size + 1 + 1, 5, none⟩) (.inl rfl) (.string P1)).setCell (p := ⟨w.heap.size + 1 + 1, 6, none⟩) (.inl rfl) (.string { data := #[] })).setCell (p := ⟨w.heap.size + 1 + 1, 7, none⟩) (.inl rfl) (.string { data := #[] })
              rcases hR.s12.1 with hblk | hblk
              · have hnew : Blk ((((((((w1.setCell ⟨w.heap.size + 1 + 1, 0, none⟩ (.int .i64 0)).setCell ⟨w.heap.size + 1 + 1, 1, none⟩ (.int .i64 1)).setCell ⟨w.heap.size + 1 + 1, 2, none⟩ (.int .i64 0)).setCell ⟨w.heap.size + 1 + 1, 3, none⟩ (.int .i64 0)).setCell ⟨w.heap.size + 1 + 1, 4, none⟩ (.int .i64 0)).setCell ⟨w.heap.size + 1 + 1, 5, none⟩ (.string P1)).setCell ⟨w.heap.size + 1 + 1, 6, none⟩ (.string { data := #[] })).setCell ⟨w.heap.size + 1 + 1, 7, none⟩ (.string { data := #[] })) (w.heap.size + 1 + 1) #[.int .i64 0, .int .i64 1, .int .i64 0, .int .i64 0, .int .i64 0, .string P1, .string { data := #[] }, .string { data := #[] }] 29 := by
                  have h := ((((((((hblk.set_ 0 (.int .i64 0)).set_ 1 (.int .i64 1)).set_ 2 (.int .i64 0)).set_ 3 (.int .i64 0)).set_ 4 (.int .i64 0)).set_ 5 (.string P1)).set_ 6 (.string { data := #[] })).set_ 7 (.string { data := #[] }))
                  simpa only [List.setIfInBounds_toArray, List.set_cons_zero, List.set_cons_succ] using h
                have iB := hblk.lt
                have q0 := hblk.cell 0
                have fz0 := hblk.frozen 0
                have q1 := hblk.cell 1
                have fz1 := hblk.frozen 1
                have q2 := hblk.cell 2
                have fz2 := hblk.frozen 2
                have q3 := hblk.cell 3
                have fz3 := hblk.frozen 3
                have q4 := hblk.cell 4
                have fz4 := hblk.frozen 4
                have q5 := hblk.cell 5
                have fz5 := hblk.frozen 5
                have q6 := hblk.cell 6
                have fz6 := hblk.frozen 6
                have q7 := hblk.cell 7
                have fz7 := hblk.frozen 7
                simp at q0 q1 q2 q3 q4 q5 q6 q7
                refine eff_skip (w' := ((((((((w1.setCell ⟨w.heap.size + 1 + 1, 0, none⟩ (.int .i64 0)).setCell ⟨w.heap.size + 1 + 1, 1, none⟩ (.int .i64 1)).setCell ⟨w.heap.size + 1 + 1, 2, none⟩ (.int .i64 0)).setCell ⟨w.heap.size + 1 + 1, 3, none⟩ (.int .i64 0)).setCell ⟨w.heap.size + 1 + 1, 4, none⟩ (.int .i64 0)).setCell ⟨w.heap.size + 1 + 1, 5, none⟩ (.string P1)).setCell ⟨w.heap.size + 1 + 1, 6, none⟩ (.string { data := #[] })).setCell ⟨w.heap.size + 1 + 1, 7, none⟩ (.string { data := #[] }))) ?_ ⟨fun h => hR.c0 (h.resolve_left (by decide)), fun h => hR.c1 (h.resolve_left (by decide)), fun h => hR.c2 (h.resolve_left (by decide)), fun h => hR.c3 (h.resolve_left (by decide)), fun h => hR.c4 (h.resolve_left (by decide)), fun h => hR.c5 (h.resolve_left (by decide)), fun h => hR.c6 (h.resolve_left (by decide)), fun h => hR.c7 (h.resolve_left (by decide)), fun h => hR.c8 (h.resolve_left (by decide)), fun h => hR.c9 (h.resolve_left (by decide)), fun h => hR.c13 (h.resolve_left (by decide)), fun h => hR.c14 (h.resolve_left (by decide)), hR.st.keep hK (fun g hg => by rw [hg]; exact ⟨_, 29, hblk, by decide, by decide, by decide, by decide⟩), hK.blk hR.b11 (by omega), hK.blk hR.b22 (by omega), hK.blk hR.b23 (by omega), ⟨hR.s10.1.imp (fun x => hK.blk x (by omega)) (fun x => hK.blk x (by omega)), fun h => hK.blk (hR.s10.2 (h.resolve_left (by decide))) (by omega)⟩, ⟨hR.s11.1.imp (fun x => hK.blk x (by omega)) (fun x => hK.blk x (by omega)), fun h => hK.blk (hR.s11.2 (h.resolve_left (by decide))) (by omega)⟩, ⟨.inr hnew, fun _ => hnew⟩, hR.below.trans (hK.below hR.below.size (fun i hi e => by omega))⟩
                clear hin hout hw hR hK hnew
                go_simp
              · have hnew : Blk ((((((((w1.setCell ⟨w.heap.size + 1 + 1, 0, none⟩ (.int .i64 0)).setCell ⟨w.heap.size + 1 + 1, 1, none⟩ (.int .i64 1)).setCell ⟨w.heap.size + 1 + 1, 2, none⟩ (.int .i64 0)).setCell ⟨w.heap.size + 1 + 1, 3, none⟩ (.int .i64 0)).setCell ⟨w.heap.size + 1 + 1, 4, none⟩ (.int .i64 0)).setCell ⟨w.heap.size + 1 + 1, 5, none⟩ (.string P1)).setCell ⟨w.heap.size + 1 + 1, 6, none⟩ (.string { data := #[] })).setCell ⟨w.heap.size + 1 + 1, 7, none⟩ (.string { data := #[] })) (w.heap.size + 1 + 1) #[.int .i64 0, .int .i64 1, .int .i64 0, .int .i64 0, .int .i64 0, .string P1, .string { data := #[] }, .string { data := #[] }] 29 := by
                  have h := ((((((((hblk.set_ 0 (.int .i64 0)).set_ 1 (.int .i64 1)).set_ 2 (.int .i64 0)).set_ 3 (.int .i64 0)).set_ 4 (.int .i64 0)).set_ 5 (.string P1)).set_ 6 (.string { data := #[] })).set_ 7 (.string { data := #[] }))
                  simpa only [List.setIfInBounds_toArray, List.set_cons_zero, List.set_cons_succ] using h
                have iB := hblk.lt
                have q0 := hblk.cell 0
                have fz0 := hblk.frozen 0
                have q1 := hblk.cell 1
                have fz1 := hblk.frozen 1
                have q2 := hblk.cell 2
                have fz2 := hblk.frozen 2
                have q3 := hblk.cell 3
                have fz3 := hblk.frozen 3
                have q4 := hblk.cell 4
                have fz4 := hblk.frozen 4
                have q5 := hblk.cell 5
                have fz5 := hblk.frozen 5
                have q6 := hblk.cell 6
                have fz6 := hblk.frozen 6
                have q7 := hblk.cell 7
                have fz7 := hblk.frozen 7
                simp at q0 q1 q2 q3 q4 q5 q6 q7
                refine eff_skip (w' := ((((((((w1.setCell ⟨w.heap.size + 1 + 1, 0, none⟩ (.int .i64 0)).setCell ⟨w.heap.size + 1 + 1, 1, none⟩ (.int .i64 1)).setCell ⟨w.heap.size + 1 + 1, 2, none⟩ (.int .i64 0)).setCell ⟨w.heap.size + 1 + 1, 3, none⟩ (.int .i64 0)).setCell ⟨w.heap.size + 1 + 1, 4, none⟩ (.int .i64 0)).setCell ⟨w.heap.size + 1 + 1, 5, none⟩ (.string P1)).setCell ⟨w.heap.size + 1 + 1, 6, none⟩ (.string { data := #[] })).setCell ⟨w.heap.size + 1 + 1, 7, none⟩ (.string { data := #[] }))) ?_ ⟨fun h => hR.c0 (h.resolve_left (by decide)), fun h => hR.c1 (h.resolve_left (by decide)), fun h => hR.c2 (h.resolve_left (by decide)), fun h => hR.c3 (h.resolve_left (by decide)), fun h => hR.c4 (h.resolve_left (by decide)), fun h => hR.c5 (h.resolve_left (by decide)), fun h => hR.c6 (h.resolve_left (by decide)), fun h => hR.c7 (h.resolve_left (by decide)), fun h => hR.c8 (h.resolve_left (by decide)), fun h => hR.c9 (h.resolve_left (by decide)), fun h => hR.c13 (h.resolve_left (by decide)), fun h => hR.c14 (h.resolve_left (by decide)), hR.st.keep hK (fun g hg => by rw [hg]; exact ⟨_, 29, hblk, by decide, by decide, by decide, by decide⟩), hK.blk hR.b11 (by omega), hK.blk hR.b22 (by omega), hK.blk hR.b23 (by omega), ⟨hR.s10.1.imp (fun x => hK.blk x (by omega)) (fun x => hK.blk x (by omega)), fun h => hK.blk (hR.s10.2 (h.resolve_left (by decide))) (by omega)⟩, ⟨hR.s11.1.imp (fun x => hK.blk x (by omega)) (fun x => hK.blk x (by omega)), fun h => hK.blk (hR.s11.2 (h.resolve_left (by decide))) (by omega)⟩, ⟨.inr hnew, fun _ => hnew⟩, hR.below.trans (hK.below hR.below.size (fun i hi e => by omega))⟩
                clear hin hout hw hR hK hnew
                go_simp
            · intro D σ w1 a hnd hw hR hin hout
              refine ⟨fun _ => ?_, fun e => by cases e⟩
              have e136 : (a.tmps[136]?).getD undef = .bool true := (evalT a 136).symm.trans <| (hin 9 _ 136 rfl rfl).trans (hR.c9 (hw 9 (by kernel_rfl)))
              refine eff_val (v := .bool true) (w' := w1) ?_ ⟨fun h => hR.c0 (h.resolve_left (by decide)), fun h => hR.c1 (h.resolve_left (by decide)), fun h => hR.c2 (h.resolve_left (by decide)), fun h => hR.c3 (h.resolve_left (by decide)), fun h => hR.c4 (h.resolve_left (by decide)), fun h => hR.c5 (h.resolve_left (by decide)), fun h => hR.c6 (h.resolve_left (by decide)), fun h => hR.c7 (h.resolve_left (by decide)), fun h => hR.c8 (h.resolve_left (by decide)), fun h => hR.c9 (h.resolve_left (by decide)), fun _ => rfl, fun h => hR.c14 (h.resolve_left (by decide)), hR.st, hR.b11, hR.b22, hR.b23, ⟨hR.s10.1, fun h => hR.s10.2 (h.resolve_left (by decide))⟩, ⟨hR.s11.1, fun h => hR.s11.2 (h.resolve_left (by decide))⟩, ⟨hR.s12.1, fun h => hR.s12.2 (h.resolve_left (by decide))⟩, hR.below⟩
              clear hin hout hw hR
              go_simp
              first | done | rfl
            · intro D σ w1 a hnd hw hR hin hout
              refine ⟨fun _ => ?_, fun e => by cases e⟩
              refine eff_val (v := .bool true) (w' := w1) ?_ ⟨fun h => hR.c0 (h.resolve_left (by decide)), fun h => hR.c1 (h.resolve_left (by decide)), fun h => hR.c2 (h.resolve_left (by decide)), fun h => hR.c3 (h.resolve_left (by decide)), fun h => hR.c4 (h.resolve_left (by decide)), fun h => hR.c5 (h.resolve_left (by decide)), fun h => hR.c6 (h.resolve_left (by decide)), fun h => hR.c7 (h.resolve_left (by decide)), fun h => hR.c8 (h.resolve_left (by decide)), fun h => hR.c9 (h.resolve_left (by decide)), fun h => hR.c13 (h.resolve_left (by decide)), fun _ => rfl, hR.st, hR.b11, hR.b22, hR.b23, ⟨hR.s10.1, fun h => hR.s10.2 (h.resolve_left (by decide))⟩, ⟨hR.s11.1, fun h => hR.s11.2 (h.resolve_left (by decide))⟩, ⟨hR.s12.1, fun h => hR.s12.2 (h.resolve_left (by decide))⟩, hR.below⟩
              clear hin hout hw hR
              go_simp
              first | done | rfl
          · intro σ w5 hR
            have e13 := hR.c13 trivial
            have e14 := hR.c14 trivial
            have hb6 := hR.s10.2 trivial
            have hb7 := hR.s11.2 trivial
            have hb8 := hR.s12.2 trivial
            have hst := hR.st
            have hbf := hR.below
            simp only [putsL, Act.put, List.setIfInBounds_toArray, List.set_cons_zero, List.set_cons_succ, Nat.reduceAdd]
            rw [e13, e14]
            have u0 := hb6.cell 0
            have u1 := hb6.cell 1
            have u2 := hb6.cell 2
            simp at u0 u1 u2
            have v0 := hb7.cell 0
            have v1 := hb7.cell 1
            have v2 := hb7.cell 2
            have v3 := hb7.cell 3
            have v4 := hb7.cell 4
            have v5 := hb7.cell 5
            have v6 := hb7.cell 6
            have v7 := hb7.cell 7
            simp at v0 v1 v2 v3 v4 v5 v6 v7
            have z0 := hb8.cell 0
            have z1 := hb8.cell 1
            have z2 := hb8.cell 2
            have z3 := hb8.cell 3
            have z4 := hb8.cell 4
            have z5 := hb8.cell 5
            have z6 := hb8.cell 6
            have z7 := hb8.cell 7
            simp at z0 z1 z2 z3 z4 z5 z6 z7
            have HZ := Lib.hid (And.intro hst hbf)
            clear hR hb6 hb7 hb8 hst hbf e13 e14
            go_wp2_with fail
            exact bodyPost_ret (v := .tuple #[.agg #[.slice a1 a2 a3, .slice a4 a5 a6, .slice a7 a8 a9], .agg #[.int .i64 0, .int .i64 0, .int .i64 0, .int .i64 0, .int .i64 0, .string P0, .string { data := #[] }, .string { data := #[] }], .agg #[.int .i64 0, .int .i64 1, .int .i64 0, .int .i64 0, .int .i64 0, .string P1, .string { data := #[] }, .string { data := #[] }], .bool true, .bool true]) (by unfold results; simp only [Tryz.results8]; go_simp) rfl ⟨_, _, _, ⟨0, 0, 0, 0, 0, P0, nil, nil⟩, ⟨0, 1, 0, 0, 0, P1, nil, nil⟩, true, rfl, HZ.out.2, HZ.out.1.read⟩
end Go.Proofs.YtjkenolgkkknaaaGreatDoor
