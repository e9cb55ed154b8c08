/- Part of the proof that the named pairs of calls commute. Conditions: none. -/
import Derived.Test.YtjkenolgkkknaaaGreatDoorPp38
import Derived.Test.YtjkenolgkkknaaaGreatDoorPp39
set_option linter.unusedVariables false
set_option linter.unusedSimpArgs false
set_option maxRecDepth 100000
set_option maxHeartbeats 8000000
namespace Go.Proofs.YtjkenolgkkknaaaGreatDoor
open Go.RowKit
def PairPost (W n m : Nat) (w : World) (e : Ending) (w' : World) : Prop := ∃ (iv ov mv : Value) (x y : PCall) (t : Bool), e = .returned (.tuple #[.agg #[iv, ov, mv], PCall.val x, PCall.val y, .bool t, .bool (pairOk W n m)]) ∧ (pairOk W n m = true → x = pairX W n ∧ y = pairY W m ∧ t = pairWant W n m) ∧ Below w.heap.size w w' ∧ StRead w' iv ov mv s6
structure PZ (w wr : World) (g11 : Nat) (L : List (Nat × PCall)) (iv ov mv : Value) (S : PSt) (C6 C7 C8 : Array Value) : Prop where
 st : StOwn (w.heap.size + 3) wr iv ov mv S
 b11 : Blk wr g11 #[iv, ov, mv] 27
 ex : ∀ p ∈ L, Blk wr p.1 (callAr p.2) 29
 b6 : Blk wr w.heap.size C6 27
 b7 : Blk wr (w.heap.size + 1) C7 29
 b8 : Blk wr (w.heap.size + 1 + 1) C8 29
 hgl : w.heap.size + 3 ≤ g11
 hL : ∀ p ∈ L, w.heap.size + 3 ≤ p.1
 below : Below w.heap.size w wr
section
variable {w wr wr' : World} {g11 : Nat} {L : List (Nat × PCall)} {iv ov mv : Value} {S : PSt} {C6 C7 C8 C : Array Value}
theorem PZ.on (h : PZ w wr g11 L iv ov mv S C6 C7 C8) (hb : Below wr.heap.size wr wr') : PZ w wr' g11 L iv ov mv S C6 C7 C8 :=
 ⟨h.st.on hb, blk_on h.b11 hb, fun p hp => blk_on (h.ex p hp) hb, blk_on h.b6 hb, blk_on h.b7 hb, blk_on h.b8 hb, h.hgl, h.hL, h.below.trans (hb.mono h.below.size)⟩
theorem PZ.drew (h : PZ w wr g11 L iv ov mv S C6 C7 C8) : PZ w wr.drew g11 L iv ov mv S C6 C7 C8 := h.on (bel wr _)
theorem PZ.k6 (h : PZ w wr g11 L iv ov mv S C6 C7 C8) (hK : Keep (fun g => g = w.heap.size) wr wr') (hb : Blk wr' w.heap.size C 27) : PZ w wr' g11 L iv ov mv S C C7 C8 :=
 ⟨h.st.keep hK (fun g hg => by rw [hg]; exact ⟨_, 27, h.b6, by decide, by decide, by decide, by decide⟩), hK.blk h.b11 (by have := h.hgl; omega), fun p hp => hK.blk (h.ex p hp) (by have := h.hL p hp; omega), hb, hK.blk h.b7 (by omega), hK.blk h.b8 (by omega), h.hgl, h.hL, h.below.trans (hK.below h.below.size (fun i hi e => by omega))⟩
theorem PZ.k7 (h : PZ w wr g11 L iv ov mv S C6 C7 C8) (hK : Keep (fun g => g = w.heap.size + 1) wr wr') (hb : Blk wr' (w.heap.size + 1) C 29) : PZ w wr' g11 L iv ov mv S C6 C C8 :=
 ⟨h.st.keep hK (fun g hg => by rw [hg]; exact ⟨_, 29, h.b7, by decide, by decide, by decide, by decide⟩), hK.blk h.b11 (by have := h.hgl; omega), fun p hp => hK.blk (h.ex p hp) (by have := h.hL p hp; omega), hK.blk h.b6 (by omega), hb, hK.blk h.b8 (by omega), h.hgl, h.hL, h.below.trans (hK.below h.below.size (fun i hi e => by omega))⟩
theorem PZ.k8 (h : PZ w wr g11 L iv ov mv S C6 C7 C8) (hK : Keep (fun g => g = w.heap.size + 1 + 1) wr wr') (hb : Blk wr' (w.heap.size + 1 + 1) C 29) : PZ w wr' g11 L iv ov mv S C6 C7 C :=
 ⟨h.st.keep hK (fun g hg => by rw [hg]; exact ⟨_, 29, h.b8, by decide, by decide, by decide, by decide⟩), hK.blk h.b11 (by have := h.hgl; omega), fun p hp => hK.blk (h.ex p hp) (by have := h.hL p hp; omega), hK.blk h.b6 (by omega), hK.blk h.b7 (by omega), hb, h.hgl, h.hL, h.below.trans (hK.below h.below.size (fun i hi e => by omega))⟩
end
def st3 (w : World) (b : Nat) (x y z : Value) : World := ((w.setCell ⟨b, 0, none⟩ x).setCell ⟨b, 1, none⟩ y).setCell ⟨b, 2, none⟩ z
theorem st3_keep (w : World) (b : Nat) (x y z : Value) : Keep (fun g => g = b) w (st3 w b x y z) := by
 unfold st3
 exact (((Keep.refl (fun g => g = b) w).setCell (p := ⟨b, 0, none⟩) (.inl rfl) _).setCell (p := ⟨b, 1, none⟩) (.inl rfl) _).setCell (p := ⟨b, 2, none⟩) (.inl rfl) _
theorem st3_blk {w : World} {b t : Nat} {c0 c1 c2 : Value} (h : Blk w b #[c0, c1, c2] t) (x y z : Value) : Blk (st3 w b x y z) b #[x, y, z] t := by
 have h := ((h.set_ 0 x).set_ 1 y).set_ 2 z
 unfold st3
 simpa only [sA, sZ, sS] using h
def st8 (w : World) (b : Nat) (c : PCall) : World := (((((((w.setCell ⟨b, 0, none⟩ (.int .i64 c.kind)).setCell ⟨b, 1, none⟩ (.int .i64 c.core)).setCell ⟨b, 2, none⟩ (.int .i64 c.fd)).setCell ⟨b, 3, none⟩ (.int .i64 c.off)).setCell ⟨b, 4, none⟩ (.int .i64 c.num)).setCell ⟨b, 5, none⟩ (.string c.path)).setCell ⟨b, 6, none⟩ (.string c.path2)).setCell ⟨b, 7, none⟩ (.string c.data)
theorem st8_keep (w : World) (b : Nat) (c : PCall) : Keep (fun g => g = b) w (st8 w b c) := by
 unfold st8
 exact ((((((((Keep.refl (fun g => g = b) w).setCell (p := ⟨b, 0, none⟩) (.inl rfl) _).setCell (p := ⟨b, 1, none⟩) (.inl rfl) _).setCell (p := ⟨b, 2, none⟩) (.inl rfl) _).setCell (p := ⟨b, 3, none⟩) (.inl rfl) _).setCell (p := ⟨b, 4, none⟩) (.inl rfl) _).setCell (p := ⟨b, 5, none⟩) (.inl rfl) _).setCell (p := ⟨b, 6, none⟩) (.inl rfl) _).setCell (p := ⟨b, 7, none⟩) (.inl rfl) _
theorem st8_blk {w : World} {b t : Nat} {c0 c1 c2 c3 c4 c5 c6 c7 : Value} (h : Blk w b #[c0, c1, c2, c3, c4, c5, c6, c7] t) (c : PCall) : Blk (st8 w b c) b (callAr c) t := by
 have h := (((((((h.set_ 0 (.int .i64 c.kind)).set_ 1 (.int .i64 c.core)).set_ 2 (.int .i64 c.fd)).set_ 3 (.int .i64 c.off)).set_ 4 (.int .i64 c.num)).set_ 5 (.string c.path)).set_ 6 (.string c.path2)).set_ 7 (.string c.data)
 unfold st8 callAr
 simpa only [sA, sZ, sS] using h
def nil3 : Array Value := #[.slice none 0 0, .slice none 0 0, .slice none 0 0]
def nil8 : Array Value := #[.int .i64 0, .int .i64 0, .int .i64 0, .int .i64 0, .int .i64 0, .string nil, .string nil, .string nil]
theorem PW.pz {w wr : World} {g11 gS : Nat} {a1 : Option Addr} {a2 a3 : Nat} {a4 : Option Addr} {a5 a6 : Nat} {a7 : Option Addr} {a8 a9 : Nat} {S : PSt} (h : PW w wr g11 gS a1 a2 a3 a4 a5 a6 a7 a8 a9 S) (hgl : w.heap.size + 3 ≤ g11) : PZ w wr g11 [] (.slice a1 a2 a3) (.slice a4 a5 a6) (.slice a7 a8 a9) S nil3 nil8 nil8 :=
 ⟨h.st, h.b11, (fun p hp => (by cases hp)), h.b6, h.b7, h.b8, hgl, (fun p hp => (by cases hp)), h.below⟩
theorem PZ.more {w wr : World} {g11 : Nat} {L : List (Nat × PCall)} {iv ov mv : Value} {S : PSt} {C6 C7 C8 : Array Value} (h : PZ w wr g11 [] iv ov mv S C6 C7 C8) (hL : ∀ p ∈ L, w.heap.size + 3 ≤ p.1 ∧ Blk wr p.1 (callAr p.2) 29) : PZ w wr g11 L iv ov mv S C6 C7 C8 :=
 ⟨h.st, h.b11, fun p hp => (hL p hp).2, h.b6, h.b7, h.b8, h.hgl, fun p hp => (hL p hp).1, h.below⟩
def PS (g11 : Nat) (L : List (Nat × PCall)) (iv ov mv : Value) (w : World) : Prop := Blk w g11 #[iv, ov, mv] 27 ∧ ∀ p ∈ L, Blk w p.1 (callAr p.2) 29
def LF (w : World) : List (Nat × PCall) → Prop → Prop
 | [], p => p
 | (g, c) :: r, p => BlockLt (g) w → w.cell? ⟨g, 0, none⟩ = some (.int .i64 c.kind) → w.cell? ⟨g, 1, none⟩ = some (.int .i64 c.core) → w.cell? ⟨g, 2, none⟩ = some (.int .i64 c.fd) → w.cell? ⟨g, 3, none⟩ = some (.int .i64 c.off) → w.cell? ⟨g, 4, none⟩ = some (.int .i64 c.num) → w.cell? ⟨g, 5, none⟩ = some (.string c.path) → w.cell? ⟨g, 6, none⟩ = some (.string c.path2) → w.cell? ⟨g, 7, none⟩ = some (.string c.data) → LF w r p
theorem LF.of {w : World} {p : Prop} : ∀ (L : List (Nat × PCall)), LF w L p → (∀ q ∈ L, Blk w q.1 (callAr q.2) 29) → p
 | [], h, _ => h
 | (g, c) :: r, h, hL => by
   have hb := hL _ List.mem_cons_self; exact LF.of r (h hb.lt (hb.cell 0) (hb.cell 1) (hb.cell 2) (hb.cell 3) (hb.cell 4) (hb.cell 5) (hb.cell 6) (hb.cell 7)) fun q hq => hL q (List.mem_cons_of_mem _ hq)
section
variable {ops : Array Oper} {E : List Nat} {lx : Bool} {Q : Act → World → Prop} {o : Oper} {a : Act} {w wy wr : World} {k : Nat} {l : List Oper} {g11 : Nat} {L : List (Nat × PCall)} {iv ov mv : Value} {S : PSt} {C6 C7 C8 : Array Value}
theorem PS.look (hE : E.contains k = false) (hw : Region.wanted o (yielded ops a.tmps) = true)
 (h : ∃ v, (∀ w', BlockLt (g11) w' → w'.cell? ⟨g11, 0, none⟩ = some iv → w'.cell? ⟨g11, 1, none⟩ = some ov → w'.cell? ⟨g11, 2, none⟩ = some mv → LF w' L ((execOp a.eval o).run Tryz.prog w' = .ok (.value v) w')) ∧ wpL Tryz.prog ops (PS g11 L iv ov mv) E lx Q (k + 1) l (a.put o.dst v) w) : wpL Tryz.prog ops (PS g11 L iv ov mv) E lx Q k (o :: l) a w := by
 obtain ⟨v, h1, h2⟩ := h
 exact wpL_look hE hw ⟨v, fun w' hs => LF.of L (h1 w' hs.1.lt (hs.1.cell 0) (hs.1.cell 1) (hs.1.cell 2)) hs.2, h2⟩
theorem PZ.s6 {c0 c1 c2 : Value} (hY : PZ w wy g11 L iv ov mv S #[c0, c1, c2] C7 C8) (hE : E.contains k = true) (hw : Region.wanted o (yielded ops a.tmps) = true)
 (hx : BlockLt (w.heap.size) wy → wy.cell? ⟨w.heap.size, 0, none⟩ = some c0 → wy.cell? ⟨w.heap.size, 1, none⟩ = some c1 → wy.cell? ⟨w.heap.size, 2, none⟩ = some c2 → wy.frozen? ⟨w.heap.size, 0, none⟩ = false → wy.frozen? ⟨w.heap.size, 1, none⟩ = false → wy.frozen? ⟨w.heap.size, 2, none⟩ = false → (execOp a.eval o).run Tryz.prog wy = .ok .skip (st3 wy w.heap.size iv ov mv))
 (hk : ∀ wz, PZ w wz g11 L iv ov mv S #[iv, ov, mv] C7 C8 → wpL Tryz.prog ops (PS g11 L iv ov mv) E lx Q (k + 1) l (a.put o.dst undef) wz) : wpL Tryz.prog ops (PS g11 L iv ov mv) E lx Q k (o :: l) a wy := by
 have hN := hY.k6 (st3_keep _ _ _ _ _) (st3_blk hY.b6 iv ov mv)
 exact wpL_skip hE hw ⟨_, hx hY.b6.lt (hY.b6.cell 0) (hY.b6.cell 1) (hY.b6.cell 2) (hY.b6.frozen 0) (hY.b6.frozen 1) (hY.b6.frozen 2), .inl ⟨hN.b11, hN.ex⟩, hk _ hN⟩
theorem PZ.s7 {c0 c1 c2 c3 c4 c5 c6 c7 : Value} (hY : PZ w wy g11 L iv ov mv S C6 #[c0, c1, c2, c3, c4, c5, c6, c7] C8) (X : PCall) (hE : E.contains k = true) (hw : Region.wanted o (yielded ops a.tmps) = true)
 (hx : BlockLt (w.heap.size + 1) wy → wy.cell? ⟨w.heap.size + 1, 0, none⟩ = some c0 → wy.cell? ⟨w.heap.size + 1, 1, none⟩ = some c1 → wy.cell? ⟨w.heap.size + 1, 2, none⟩ = some c2 → wy.cell? ⟨w.heap.size + 1, 3, none⟩ = some c3 → wy.cell? ⟨w.heap.size + 1, 4, none⟩ = some c4 → wy.cell? ⟨w.heap.size + 1, 5, none⟩ = some c5 → wy.cell? ⟨w.heap.size + 1, 6, none⟩ = some c6 → wy.cell? ⟨w.heap.size + 1, 7, none⟩ = some c7 → wy.frozen? ⟨w.heap.size + 1, 0, none⟩ = false → wy.frozen? ⟨w.heap.size + 1, 1, none⟩ = false → wy.frozen? ⟨w.heap.size + 1, 2, none⟩ = false → wy.frozen? ⟨w.heap.size + 1, 3, none⟩ = false → wy.frozen? ⟨w.heap.size + 1, 4, none⟩ = false → wy.frozen? ⟨w.heap.size + 1, 5, none⟩ = false → wy.frozen? ⟨w.heap.size + 1, 6, none⟩ = false → wy.frozen? ⟨w.heap.size + 1, 7, none⟩ = false → (execOp a.eval o).run Tryz.prog wy = .ok .skip (st8 wy (w.heap.size + 1) X))
 (hk : ∀ wz, PZ w wz g11 L iv ov mv S C6 (callAr X) C8 → wpL Tryz.prog ops (PS g11 L iv ov mv) E lx Q (k + 1) l (a.put o.dst undef) wz) : wpL Tryz.prog ops (PS g11 L iv ov mv) E lx Q k (o :: l) a wy := by
 have hN := hY.k7 (st8_keep _ _ X) (st8_blk hY.b7 X)
 exact wpL_skip hE hw ⟨_, hx hY.b7.lt (hY.b7.cell 0) (hY.b7.cell 1) (hY.b7.cell 2) (hY.b7.cell 3) (hY.b7.cell 4) (hY.b7.cell 5) (hY.b7.cell 6) (hY.b7.cell 7) (hY.b7.frozen 0) (hY.b7.frozen 1) (hY.b7.frozen 2) (hY.b7.frozen 3) (hY.b7.frozen 4) (hY.b7.frozen 5) (hY.b7.frozen 6) (hY.b7.frozen 7), .inl ⟨hN.b11, hN.ex⟩, hk _ hN⟩
theorem PZ.s8 {c0 c1 c2 c3 c4 c5 c6 c7 : Value} (hY : PZ w wy g11 L iv ov mv S C6 C7 #[c0, c1, c2, c3, c4, c5, c6, c7]) (X : PCall) (hE : E.contains k = true) (hw : Region.wanted o (yielded ops a.tmps) = true)
 (hx : BlockLt (w.heap.size + 1 + 1) wy → wy.cell? ⟨w.heap.size + 1 + 1, 0, none⟩ = some c0 → wy.cell? ⟨w.heap.size + 1 + 1, 1, none⟩ = some c1 → wy.cell? ⟨w.heap.size + 1 + 1, 2, none⟩ = some c2 → wy.cell? ⟨w.heap.size + 1 + 1, 3, none⟩ = some c3 → wy.cell? ⟨w.heap.size + 1 + 1, 4, none⟩ = some c4 → wy.cell? ⟨w.heap.size + 1 + 1, 5, none⟩ = some c5 → wy.cell? ⟨w.heap.size + 1 + 1, 6, none⟩ = some c6 → wy.cell? ⟨w.heap.size + 1 + 1, 7, none⟩ = some c7 → wy.frozen? ⟨w.heap.size + 1 + 1, 0, none⟩ = false → wy.frozen? ⟨w.heap.size + 1 + 1, 1, none⟩ = false → wy.frozen? ⟨w.heap.size + 1 + 1, 2, none⟩ = false → wy.frozen? ⟨w.heap.size + 1 + 1, 3, none⟩ = false → wy.frozen? ⟨w.heap.size + 1 + 1, 4, none⟩ = false → wy.frozen? ⟨w.heap.size + 1 + 1, 5, none⟩ = false → wy.frozen? ⟨w.heap.size + 1 + 1, 6, none⟩ = false → wy.frozen? ⟨w.heap.size + 1 + 1, 7, none⟩ = false → (execOp a.eval o).run Tryz.prog wy = .ok .skip (st8 wy (w.heap.size + 1 + 1) X))
 (hk : ∀ wz, PZ w wz g11 L iv ov mv S C6 C7 (callAr X) → wpL Tryz.prog ops (PS g11 L iv ov mv) E lx Q (k + 1) l (a.put o.dst undef) wz) : wpL Tryz.prog ops (PS g11 L iv ov mv) E lx Q k (o :: l) a wy := by
 have hN := hY.k8 (st8_keep _ _ X) (st8_blk hY.b8 X)
 exact wpL_skip hE hw ⟨_, hx hY.b8.lt (hY.b8.cell 0) (hY.b8.cell 1) (hY.b8.cell 2) (hY.b8.cell 3) (hY.b8.cell 4) (hY.b8.cell 5) (hY.b8.cell 6) (hY.b8.cell 7) (hY.b8.frozen 0) (hY.b8.frozen 1) (hY.b8.frozen 2) (hY.b8.frozen 3) (hY.b8.frozen 4) (hY.b8.frozen 5) (hY.b8.frozen 6) (hY.b8.frozen 7), .inl ⟨hN.b11, hN.ex⟩, hk _ hN⟩
end
section
variable {w wr wz : World} {g11 g h : Nat} {L : List (Nat × PCall)} {iv ov mv : Value} {S : PSt} {C6 C7 C8 : Array Value} {X Y : PCall}
theorem PZ.reg {id : Nat} {l : List Oper} {Q : Exit → Act → World → Prop} {a : Act} (hZ : PZ w wz g11 L iv ov mv S C6 C7 C8) (E : List Nat) (hB : Region.effB l.toArray (Region.before l.toArray) E false = true) (h : ∀ wy, PZ w wy g11 L iv ov mv S C6 C7 C8 → wpL Tryz.prog l.toArray (PS g11 L iv ov mv) E false (fun a' w' => Q .normal a' w') 0 l a wy) : (Code.region id l.toArray true).wp Tryz.prog Q a wz :=
 wp_region_eff E false _ (by kernel_rfl) hB ⟨hZ.drew.b11, hZ.drew.ex⟩ (h _ hZ.drew)
theorem PZ.world {c : Code} {Q : Exit → Act → World → Prop} {a : Act} (h : PZ w wz g11 L iv ov mv S C6 C7 C8) (k : ∀ wz, PZ w wz g11 L iv ov mv S C6 C7 C8 → c.wp Tryz.prog Q a wz) : c.wp Tryz.prog Q a wz := k wz h
theorem PZ.m1 (hz : PZ w wr g11 [] iv ov mv S C6 C7 C8) (X : PCall) (h1 : w.heap.size + 3 ≤ g) (h2 : Blk wr g (callAr X) 29) : PZ w wr g11 [(g, X)] iv ov mv S C6 C7 C8 :=
 hz.more fun p hp => by rw [List.mem_singleton.1 hp]; exact ⟨h1, h2⟩
theorem PZ.m2 (hz : PZ w wr g11 [] iv ov mv S C6 C7 C8) (X Y : PCall) (h1 : w.heap.size + 3 ≤ g) (h2 : Blk wr g (callAr X) 29) (h3 : w.heap.size + 3 ≤ h) (h4 : Blk wr h (callAr Y) 29) : PZ w wr g11 [(g, X), (h, Y)] iv ov mv S C6 C7 C8 :=
 hz.more fun p hp => by
  simp only [List.mem_cons, List.not_mem_nil, or_false] at hp; rcases hp with rfl | rfl
  · exact ⟨h1, h2⟩
  · exact ⟨h3, h4⟩
end
theorem c3 {w : World} {b t : Nat} {x y z : Value} (h : Blk w b #[x, y, z] t) : BlockLt (b) w ∧ w.cell? ⟨b, 0, none⟩ = some x ∧ w.cell? ⟨b, 1, none⟩ = some y ∧ w.cell? ⟨b, 2, none⟩ = some z := ⟨h.lt, h.cell 0, h.cell 1, h.cell 2⟩
theorem f3 {w : World} {b t : Nat} {c : Array Value} (h : Blk w b c t) : w.frozen? ⟨b, 0, none⟩ = false ∧ w.frozen? ⟨b, 1, none⟩ = false ∧ w.frozen? ⟨b, 2, none⟩ = false := ⟨h.frozen 0, h.frozen 1, h.frozen 2⟩
theorem c8 {w : World} {b t : Nat} {c0 c1 c2 c3 c4 c5 c6 c7 : Value} (h : Blk w b #[c0, c1, c2, c3, c4, c5, c6, c7] t) : BlockLt (b) w ∧ w.cell? ⟨b, 0, none⟩ = some c0 ∧ w.cell? ⟨b, 1, none⟩ = some c1 ∧ w.cell? ⟨b, 2, none⟩ = some c2 ∧ w.cell? ⟨b, 3, none⟩ = some c3 ∧ w.cell? ⟨b, 4, none⟩ = some c4 ∧ w.cell? ⟨b, 5, none⟩ = some c5 ∧ w.cell? ⟨b, 6, none⟩ = some c6 ∧ w.cell? ⟨b, 7, none⟩ = some c7 := ⟨h.lt, h.cell 0, h.cell 1, h.cell 2, h.cell 3, h.cell 4, h.cell 5, h.cell 6, h.cell 7⟩
theorem f8 {w : World} {b t : Nat} {c : Array Value} (h : Blk w b c t) : w.frozen? ⟨b, 0, none⟩ = false ∧ w.frozen? ⟨b, 1, none⟩ = false ∧ w.frozen? ⟨b, 2, none⟩ = false ∧ w.frozen? ⟨b, 3, none⟩ = false ∧ w.frozen? ⟨b, 4, none⟩ = false ∧ w.frozen? ⟨b, 5, none⟩ = false ∧ w.frozen? ⟨b, 6, none⟩ = false ∧ w.frozen? ⟨b, 7, none⟩ = false := ⟨h.frozen 0, h.frozen 1, h.frozen 2, h.frozen 3, h.frozen 4, h.frozen 5, h.frozen 6, h.frozen 7⟩
def PTail (W : Nat) (which i k : Int) (n m : Nat) : Prop := ∀ (w wr : World) (g11 : Nat) (a1 : Option Addr) (a2 a3 : Nat) (a4 : Option Addr) (a5 a6 : Nat) (a7 : Option Addr) (a8 a9 : Nat) (u : Nat → Value) (K : Act → World → Prop),
 (∀ ww, Calls Tryz.prog 16 #[.int .i64 n] ww fun e w' => e = .returned (.int .i64 (bucketR (nmn n))) ∧ Below ww.heap.size ww w') → (∀ ww, Calls Tryz.prog 16 #[.int .i64 m] ww fun e w' => e = .returned (.int .i64 (bucketR (nmn m))) ∧ Below ww.heap.size ww w') →
 (n : Int) < 16 → (m : Int) < 16 → w.heap.size + 3 ≤ wr.heap.size → Hid (PZ w wr g11 [] (.slice a1 a2 a3) (.slice a4 a5 a6) (.slice a7 a8 a9) (qs 6) nil3 nil8 nil8) → (∀ a w', (seqR tail9).wp Tryz.prog (bodyPost Tryz.prog Tryz.f8 (PairPost W n m w)) a w' → K a w') →
 (seqL tail9).wp Tryz.prog (Exit.then K (bodyPost Tryz.prog Tryz.f8 (PairPost W n m w))) (actP which i k w g11 u) wr
theorem nl {a b : Nat} {p : Prop} (h : a = b ∨ p) (hn : ¬ a = b := by decide) : p := h.resolve_left hn
theorem updV_self (σ : Nat → Value) (i : Nat) (v : Value) : updV σ i v i = v := if_pos rfl
theorem updV_ne {σ : Nat → Value} {i j : Nat} {v : Value} (h : ¬ j = i) : updV σ i v j = σ j := if_neg h
structure RI (V : Nat → Value) (M gK : Nat) (cx cy : PCall) (W2 : World) (D : Nat → Prop) (σ : Nat → Value) (w : World) : Prop where
 c : ∀ k, k < M → D k → σ k = V k
 x : D M → ∃ b, σ M = .pointer (some ⟨b, 0, none⟩) ∧ W2.heap.size ≤ b ∧ (Blk w b nil8 29 ∨ Blk w b (callAr cx) 29) ∧ (D (M + 2) → Blk w b (callAr cx) 29)
 y : D (M + 1) → ∃ b, σ (M + 1) = .pointer (some ⟨b, 0, none⟩) ∧ W2.heap.size ≤ b ∧ (Blk w b nil8 29 ∨ Blk w b (callAr cy) 29) ∧ (D (M + 3) → Blk w b (callAr cy) 29)
 ne : D M → D (M + 1) → σ M ≠ σ (M + 1)
 kx : D (M + 2) → D M
 ky : D (M + 3) → D (M + 1)
 bk : Blk w gK #[.int .i64 0, .int .i64 1, .int .i64 8, .int .i64 13] 3
 below : Below W2.heap.size W2 w
section
variable {V : Nat → Value} {M gK : Nat} {cx cy : PCall} {W2 w w' : World} {D : Nat → Prop} {σ : Nat → Value}
theorem RI.zero {T : Nat} (hT : M + 4 ≤ T) (hb : Blk w gK #[.int .i64 0, .int .i64 1, .int .i64 8, .int .i64 13] 3) (hw : Below W2.heap.size W2 w) : RI V M gK cx cy W2 (fun j => T ≤ j) σ w :=
 ⟨fun k hk h => absurd h (by omega), fun h => absurd h (by omega), fun h => absurd h (by omega), fun h => absurd h (by omega), fun h => absurd h (by omega), fun h => absurd h (by omega), hb, hw⟩
theorem RI.on (h : RI V M gK cx cy W2 D σ w) (hb : Below w.heap.size w w') : RI V M gK cx cy W2 D σ w' :=
 ⟨h.c, fun d => by obtain ⟨b, e, hl, hc, hs⟩ := h.x d; exact ⟨b, e, hl, hc.imp (fun x => blk_on x hb) (fun x => blk_on x hb), fun d => blk_on (hs d) hb⟩,
  fun d => by obtain ⟨b, e, hl, hc, hs⟩ := h.y d; exact ⟨b, e, hl, hc.imp (fun x => blk_on x hb) (fun x => blk_on x hb), fun d => blk_on (hs d) hb⟩, h.ne, h.kx, h.ky, blk_on h.bk hb, h.below.trans (hb.mono h.below.size)⟩
theorem RI.val (h : RI V M gK cx cy W2 D σ w) (i : Nat) (hi : i < M) : RI V M gK cx cy W2 (fun j => j = i ∨ D j) (updV σ i (V i)) w :=
 ⟨fun k hk d => by
  by_cases e : k = i
  · rw [e]; exact updV_self _ _ _
  · rw [updV_ne e]; exact h.c k hk (nl d e),
  fun d => by rw [updV_ne (by omega)]; obtain ⟨b, e, hl, hc, hs⟩ := h.x (nl d (by omega)); exact ⟨b, e, hl, hc, fun d => hs (nl d (by omega))⟩,
  fun d => by rw [updV_ne (by omega)]; obtain ⟨b, e, hl, hc, hs⟩ := h.y (nl d (by omega)); exact ⟨b, e, hl, hc, fun d => hs (nl d (by omega))⟩,
  fun d e => by rw [updV_ne (by omega), updV_ne (by omega)]; exact h.ne (nl d (by omega)) (nl e (by omega)), fun d => .inr (h.kx (nl d (by omega))), fun d => .inr (h.ky (nl d (by omega))), h.bk, h.below⟩
theorem RI.ax (h : RI V M gK cx cy W2 D σ w) (hn : ¬ D M) : RI V M gK cx cy W2 (fun j => j = M ∨ D j) (updV σ M (.pointer (some ⟨w.heap.size, 0, none⟩))) (w.alloc (.cells nil8 29)) :=
 ⟨fun k hk d => by rw [updV_ne (by omega)]; exact h.c k hk (nl d (by omega)),
  fun _ => ⟨_, updV_self _ _ _, h.below.size, .inl (Blk.new _ _ _), fun d => absurd (h.kx (nl d (by omega))) hn⟩,
  fun d => by rw [updV_ne (by omega)]; obtain ⟨b, e, hl, hc, hs⟩ := h.y (nl d (by omega)); exact ⟨b, e, hl, hc.imp (fun x => x.alloc _) (fun x => x.alloc _), fun d => (hs (nl d (by omega))).alloc _⟩,
  fun _ d e => by rw [updV_self, updV_ne (by omega)] at e; obtain ⟨b, e2, hl, hc, hs⟩ := h.y (nl d (by omega)); rw [e2] at e; cases e; have := hc.elim (fun x => x.lt.lt) (fun x => x.lt.lt); omega,
  fun _ => .inl rfl, fun d => .inr (h.ky (nl d (by omega))), h.bk.alloc _, h.below.trans ((bel w _).mono h.below.size)⟩
theorem RI.ay (h : RI V M gK cx cy W2 D σ w) (hn : ¬ D (M + 1)) : RI V M gK cx cy W2 (fun j => j = M + 1 ∨ D j) (updV σ (M + 1) (.pointer (some ⟨w.heap.size, 0, none⟩))) (w.alloc (.cells nil8 29)) :=
 ⟨fun k hk d => by rw [updV_ne (by omega)]; exact h.c k hk (nl d (by omega)),
  fun d => by rw [updV_ne (by omega)]; obtain ⟨b, e, hl, hc, hs⟩ := h.x (nl d (by omega)); exact ⟨b, e, hl, hc.imp (fun x => x.alloc _) (fun x => x.alloc _), fun d => (hs (nl d (by omega))).alloc _⟩,
  fun _ => ⟨_, updV_self _ _ _, h.below.size, .inl (Blk.new _ _ _), fun d => absurd (h.ky (nl d (by omega))) hn⟩,
  fun d _ e => by rw [updV_self, updV_ne (by omega)] at e; obtain ⟨b, e2, hl, hc, hs⟩ := h.x (nl d (by omega)); rw [e2] at e; cases e; have := hc.elim (fun x => x.lt.lt) (fun x => x.lt.lt); omega,
  fun d => .inr (h.kx (nl d (by omega))), fun _ => .inl rfl, h.bk.alloc _, h.below.trans ((bel w _).mono h.below.size)⟩
theorem RI.sx (h : RI V M gK cx cy W2 D σ w) (hd : D M) {b : Nat} (eb : σ M = .pointer (some ⟨b, 0, none⟩)) (hl : W2.heap.size ≤ b) {c : Array Value} (hc : Blk w b c 29) (hn : Blk (st8 w b cx) b (callAr cx) 29) : RI V M gK cx cy W2 (fun j => j = M + 2 ∨ D j) (updV σ (M + 2) undef) (st8 w b cx) :=
 have hK := st8_keep w b cx
 ⟨fun k hk d => by rw [updV_ne (by omega)]; exact h.c k hk (nl d (by omega)),
  fun _ => by rw [updV_ne (by omega)]; exact ⟨b, eb, hl, .inr hn, fun _ => hn⟩,
  fun d => by
   rw [updV_ne (by omega)]; obtain ⟨b', e, hl', hc', hs⟩ := h.y (nl d (by omega)); have hne : ¬ b' = b := fun q => h.ne hd (nl d (by omega)) (by rw [eb, e, q])
   exact ⟨b', e, hl', hc'.imp (fun x => hK.blk x hne) (fun x => hK.blk x hne), fun d => hK.blk (hs (nl d (by omega))) hne⟩,
  fun d e => by rw [updV_ne (by omega), updV_ne (by omega)]; exact h.ne (nl d (by omega)) (nl e (by omega)), fun _ => .inr hd, fun d => .inr (h.ky (nl d (by omega))),
  hK.blk h.bk (fun e => by subst e; exact h.bk.ne_ hc (by decide) rfl), h.below.trans (hK.below h.below.size (fun i hi e => by omega))⟩
theorem RI.sy (h : RI V M gK cx cy W2 D σ w) (hd : D (M + 1)) {b : Nat} (eb : σ (M + 1) = .pointer (some ⟨b, 0, none⟩)) (hl : W2.heap.size ≤ b) {c : Array Value} (hc : Blk w b c 29) (hn : Blk (st8 w b cy) b (callAr cy) 29) : RI V M gK cx cy W2 (fun j => j = M + 3 ∨ D j) (updV σ (M + 3) undef) (st8 w b cy) :=
 have hK := st8_keep w b cy
 ⟨fun k hk d => by rw [updV_ne (by omega)]; exact h.c k hk (nl d (by omega)),
  fun d => by
   rw [updV_ne (by omega)]; obtain ⟨b', e, hl', hc', hs⟩ := h.x (nl d (by omega)); have hne : ¬ b' = b := fun q => h.ne (nl d (by omega)) hd (by rw [eb, e, q])
   exact ⟨b', e, hl', hc'.imp (fun x => hK.blk x hne) (fun x => hK.blk x hne), fun d => hK.blk (hs (nl d (by omega))) hne⟩,
  fun _ => by rw [updV_ne (by omega)]; exact ⟨b, eb, hl, .inr hn, fun _ => hn⟩,
  fun d e => by rw [updV_ne (by omega), updV_ne (by omega)]; exact h.ne (nl d (by omega)) (nl e (by omega)), fun d => .inr (h.kx (nl d (by omega))), fun _ => .inr hd,
  hK.blk h.bk (fun e => by subst e; exact h.bk.ne_ hc (by decide) rfl), h.below.trans (hK.below h.below.size (fun i hi e => by omega))⟩
end
theorem kinds_at {w : World} {g j : Nat} (hj : j < 4) (h : Blk w g #[.int .i64 0, .int .i64 1, .int .i64 8, .int .i64 13] 3) : w.cell? ⟨g, j, none⟩ = some (.int .i64 (kd j)) := by
 rw [h.cell]
 have : j = 0 ∨ j = 1 ∨ j = 2 ∨ j = 3 := by omega
 rcases this with rfl | rfl | rfl | rfl <;> rfl
def v20 (gK W n m c4 ja jb : Nat) (ka kb : Int) (P0 P1 Q0 Q1 : ByteArray) (cx cy : PCall) (k : Nat) : Value := (#[.slice (some ⟨gK, 0, none⟩) 4 4, .int .u64 W, .int .u64 c4, .int .u64 ja, .pointer (some ⟨gK, ja, none⟩), .int .i64 ka, .int .i64 n, .string P0, .string Q0, .agg (callAr cx), .slice (some ⟨gK, 0, none⟩) 4 4, .int .u64 W, .int .u64 jb, .pointer (some ⟨gK, jb, none⟩), .int .i64 kb, .int .i64 m, .string P1, .string Q1, .agg (callAr cy)] : Array Value)[k]?.getD undef
theorem pair_dirs (which i k : Int) (n m : Nat) (hn : i % 16 = n) (hm : k % 16 = m) (W : Nat) (hWl : W < 32) (hW16 : 16 ≤ W) (hnm : n ≠ m) (hW : (IntKind.u64.wrap which).tmod 40 = W) : PTail W which i k n m := by
 intro w wr g11 a1 a2 a3 a4 a5 a6 a7 a8 a9 u K h16a h16b hn16 hm16 hhw HZ hK
 simp only [tail9, Tryz.f8, Option.getD_some, dropSeq, seqL, seqR, actP] at hK ⊢
 generalize bucketR (nmn n) = B0 at h16a
 generalize bucketR (nmn m) = B1 at h16b
 have HPO := Lib.hid (show pairOk W n m = true by unfold pairOk; rw [if_pos hWl]; simp [hnm])
 have hW32 : decide ((W : Int) < 32) = true := decide_eq_true (by omega)
 have hWI : (W : Int) < 32 := by omega
 have hW16n : ¬ (W : Int) < 16 := by omega
 have hW16d : decide ((W : Int) < 16) = false := decide_eq_false hW16n
 have hnmb : ((n : Int) == (m : Int)) = false := by rw [beq_eq_false_iff_ne]; omega
 clear hnm
 obtain ⟨P0, hP0⟩ : ∃ q, pth n = q := ⟨_, rfl⟩
 obtain ⟨P1, hP1⟩ : ∃ q, pth m = q := ⟨_, rfl⟩
 have h14a : ∀ ww, Calls Tryz.prog 14 #[.int .i64 n] ww fun e w' => e = .returned (.string P0) ∧ Below ww.heap.size ww w' := fun ww => by
  have := at14 n ww; rw [show ((n : Int) % 16).toNat = n by omega, hP0] at this; exact this
 have h14b : ∀ ww, Calls Tryz.prog 14 #[.int .i64 m] ww fun e w' => e = .returned (.string P1) ∧ Below ww.heap.size ww w' := fun ww => by
  have := at14 m ww; rw [show ((m : Int) % 16).toNat = m by omega, hP1] at this; exact this
 have hsz : ∀ j, j < 16 → ¬ 9223372036854775807 < 2 + (pth j).size := fun j hj => by
  have h : ((List.range 16).all fun j => (pth j).size.ble 10) = true := by kernel_rfl
  have := Nat.le_of_ble_eq_true (List.all_eq_true.1 h j (List.mem_range.2 hj)); omega
 have hs0 : ¬ 9223372036854775807 < 2 + P0.size := by rw [← hP0]; exact hsz n (by omega)
 have hs1 : ¬ 9223372036854775807 < 2 + P1.size := by rw [← hP1]; exact hsz m (by omega)
 clear hsz
 obtain ⟨Q0, hQ0⟩ : ∃ q, ((⟨#[47, 100]⟩ : ByteArray) ++ P0) = q := ⟨_, rfl⟩
 obtain ⟨Q1, hQ1⟩ : ∃ q, ((⟨#[47, 101]⟩ : ByteArray) ++ P1) = q := ⟨_, rfl⟩
 obtain ⟨c4, hc4⟩ : ∃ c : Nat, (W : Int) / 4 = c := ⟨W / 4, by omega⟩
 obtain ⟨ja, hja⟩ : ∃ c : Nat, (c4 : Int).tmod 4 = c := ⟨c4 % 4, by rw [Int.tmod_eq_emod_of_nonneg (by omega)]; omega⟩
 obtain ⟨jb, hjb⟩ : ∃ c : Nat, (W : Int).tmod 4 = c := ⟨W % 4, by rw [Int.tmod_eq_emod_of_nonneg (by omega)]; omega⟩
 have ea : ja = W / 4 % 4 := by rw [Int.tmod_eq_emod_of_nonneg (by omega)] at hja; omega
 have eb : jb = W % 4 := by rw [Int.tmod_eq_emod_of_nonneg (by omega)] at hjb; omega
 have hwc : IntKind.u64.wrap (c4 : Int) = c4 := by simp [IntKind.wrap, IntKind.bits, IntKind.signed]; omega
 have ja4 : ja < 4 := by omega
 have jb4 : jb < 4 := by omega
 have jaI : (ja : Int) < 4 := by omega
 have jbI : (jb : Int) < 4 := by omega
 obtain ⟨ka, hkae⟩ : ∃ q, kd ja = q := ⟨_, rfl⟩
 obtain ⟨kb, hkbe⟩ : ∃ q, kd jb = q := ⟨_, rfl⟩
 have h17a := fun ww => named17 ka 0 Q0 ww
 have h17b := fun ww => named17 kb 1 Q1 ww
 obtain ⟨cx, hcx⟩ : ∃ q, namedM ka 0 Q0 = q := ⟨_, rfl⟩
 obtain ⟨cy, hcy⟩ : ∃ q, namedM kb 1 Q1 = q := ⟨_, rfl⟩
 rw [hcx] at h17a
 rw [hcy] at h17b
 unfold PCall.val at h17a h17b
 have hkx : ∀ (gK : Nat) (wz : World), Blk wz gK #[.int .i64 0, .int .i64 1, .int .i64 8, .int .i64 13] 3 → wz.cell? ⟨gK, ja, none⟩ = some (.int .i64 ka) := fun gK wz h => by rw [← hkae]; exact kinds_at ja4 h
 have hky : ∀ (gK : Nat) (wz : World), Blk wz gK #[.int .i64 0, .int .i64 1, .int .i64 8, .int .i64 13] 3 → wz.cell? ⟨gK, jb, none⟩ = some (.int .i64 kb) := fun gK wz h => by rw [← hkbe]; exact kinds_at jb4 h
 have HXY := Lib.hid (show pairX W n = cx ∧ pairY W m = cy ∧ pairWant W n m = true by
  unfold pairX pairY pairWant pD; rw [if_neg (by omega), if_pos hWl, if_neg (by omega), if_pos hWl, if_neg (by omega)]; rw [hP0, hP1, hQ0, hQ1, ← ea, ← eb, hkae, hkbe]; exact ⟨hcx, hcy, rfl⟩)
 clear ea eb
 have HE := Lib.hid (And.intro hP0 (And.intro hP1 (And.intro hkae (And.intro hkbe (And.intro hcx hcy)))))
 clear hP0 hP1 hkae hkbe hcx hcy
 go_upto_region 20 with (first | (go_at_call 16; with_reducible refine aT (h16a _) fun pA => ?_) | (go_at_call 16; with_reducible refine aT (h16b _) fun pB => ?_))
 refine abs_world (F := fun W2 => PZ w W2 g11 [] (.slice a1 a2 a3) (.slice a4 a5 a6) (.slice a7 a8 a9) (qs 6) nil3 nil8 nil8 ∧ Blk W2 (wr.heap.size + (pA.more pB).len) #[.int .i64 0, .int .i64 1, .int .i64 8, .int .i64 13] 3) ⟨HZ.out.on (bel wr _), Blk.new_i _ _ _ _⟩ ?_
 obtain ⟨gK, hgK⟩ : ∃ g, wr.heap.size + (pA.more pB).len = g := ⟨_, rfl⟩
 rw [hgK]
 clear HZ hgK h16a h16b
 rintro W2 ⟨hZ, hBK⟩
 have hZW : w.heap.size + 3 ≤ W2.heap.size := by have := hZ.b8.lt.lt; omega
 have HZ := Lib.hid hZ
 clear hZ hhw
 have iK := hBK.lt
 have hka := hkx gK
 have hkb := hky gK
 refine wp_region_inv (RI (v20 gK W n m c4 ja jb ka kb P0 P1 Q0 Q1 cx cy) 19 gK cx cy W2) (by kernel_rfl) (by kernel_rfl) (by kernel_rfl) (fun σ => RI.zero (T := 23) (by decide) (blk_on hBK (bel W2 W2.drew)) (bel W2 _)) ?_ ?_
 · refine ⟨?_, ?_, ?_, ?_, ?_, ?_, ?_, ?_, ?_, ?_, ?_, ?_, ?_, ?_, ?_, ?_, ?_, ?_, ?_, ?_, ?_, ?_, ?_, trivial⟩
   all_goals intro D σ w1 a hnd hw hR hin hout
   · have e21 : (a.tmps[21]?).getD undef = .slice (some ⟨gK, 0, none⟩) 4 4 := (evalT a 21).symm.trans ((hout 21 (by kernel_rfl)).trans (by kernel_rfl)); refine eff_val (v := .slice (some ⟨gK, 0, none⟩) 4 4) ?_ (hR.val 0 (by decide)); clear hin hout hw hR; go_simp
     first | done | rfl
   · have e20 : (a.tmps[20]?).getD undef = .int .u64 W := (evalT a 20).symm.trans ((hout 20 (by kernel_rfl)).trans (by kernel_rfl)); refine eff_val (v := .int .u64 W) ?_ (hR.val 1 (by decide)); clear hin hout hw hR; go_simp
     first | done | rfl
   · have e140 : (a.tmps[140]?).getD undef = .int .u64 W := (evalT a 140).symm.trans <| (hin 1 _ 140 rfl rfl).trans (hR.c 1 (by decide) (hw 1 (by kernel_rfl)))
     refine eff_val (v := .int .u64 c4) ?_ (hR.val 2 (by decide)); clear hin hout hw hR; go_simp
     first | done | rfl
   · have e141 : (a.tmps[141]?).getD undef = .int .u64 c4 := (evalT a 141).symm.trans <| (hin 2 _ 141 rfl rfl).trans (hR.c 2 (by decide) (hw 2 (by kernel_rfl)))
     refine eff_val (v := .int .u64 ja) ?_ (hR.val 3 (by decide)); clear hin hout hw hR; go_simp
     first | done | rfl
   · have e139 : (a.tmps[139]?).getD undef = .slice (some ⟨gK, 0, none⟩) 4 4 := (evalT a 139).symm.trans <| (hin 0 _ 139 rfl rfl).trans (hR.c 0 (by decide) (hw 0 (by kernel_rfl)))
     have e142 : (a.tmps[142]?).getD undef = .int .u64 ja := (evalT a 142).symm.trans <| (hin 3 _ 142 rfl rfl).trans (hR.c 3 (by decide) (hw 3 (by kernel_rfl)))
     refine eff_val (v := .pointer (some ⟨gK, ja, none⟩)) ?_ (hR.val 4 (by decide)); clear hin hout hw hR; go_simp
     first | done | rfl
   · have e143 : (a.tmps[143]?).getD undef = .pointer (some ⟨gK, ja, none⟩) := (evalT a 143).symm.trans <| (hin 4 _ 143 rfl rfl).trans (hR.c 4 (by decide) (hw 4 (by kernel_rfl)))
     have iKK := hR.bk.lt; have k0 := hka w1 hR.bk; refine eff_val (v := .int .i64 ka) ?_ (hR.val 5 (by decide)); clear hin hout hw hR; go_simp
     first | done | rfl
   · have e17 : (a.tmps[17]?).getD undef = .int .i64 n := (evalT a 17).symm.trans ((hout 17 (by kernel_rfl)).trans (by kernel_rfl)); refine eff_val (v := .int .i64 n) ?_ (hR.val 6 (by decide)); clear hin hout hw hR; go_simp
     first | done | rfl
   · have e145 : (a.tmps[145]?).getD undef = .int .i64 n := (evalT a 145).symm.trans <| (hin 6 _ 145 rfl rfl).trans (hR.c 6 (by decide) (hw 6 (by kernel_rfl)))
     refine eff_call 14 #[.int .i64 n] ?_ ?_
     · clear hin hout hw hR; go_simp
       first | done | rfl
     refine (h14a _).mono ?_; rintro e w' ⟨rfl, hb⟩; exact ⟨_, rfl, (hR.on hb).val 7 (by decide)⟩
   · have e146 : (a.tmps[146]?).getD undef = .string P0 := (evalT a 146).symm.trans <| (hin 7 _ 146 rfl rfl).trans (hR.c 7 (by decide) (hw 7 (by kernel_rfl)))
     refine eff_val (v := .string Q0) ?_ (hR.val 8 (by decide)); clear hin hout hw hR; go_simp
     first | done | rfl
   · have e144 : (a.tmps[144]?).getD undef = .int .i64 ka := (evalT a 144).symm.trans <| (hin 5 _ 144 rfl rfl).trans (hR.c 5 (by decide) (hw 5 (by kernel_rfl)))
     have e147 : (a.tmps[147]?).getD undef = .string Q0 := (evalT a 147).symm.trans <| (hin 8 _ 147 rfl rfl).trans (hR.c 8 (by decide) (hw 8 (by kernel_rfl)))
     refine eff_call 17 #[.int .i64 ka, .int .i64 0, .string Q0] ?_ ?_
     · clear hin hout hw hR; go_simp
       first | done | rfl
     refine (h17a _).mono ?_; rintro e w' ⟨rfl, hb⟩; exact ⟨_, rfl, (hR.on hb).val 9 (by decide)⟩
   · have e21 : (a.tmps[21]?).getD undef = .slice (some ⟨gK, 0, none⟩) 4 4 := (evalT a 21).symm.trans ((hout 21 (by kernel_rfl)).trans (by kernel_rfl)); refine eff_val (v := .slice (some ⟨gK, 0, none⟩) 4 4) ?_ (hR.val 10 (by decide)); clear hin hout hw hR; go_simp
     first | done | rfl
   · have e20 : (a.tmps[20]?).getD undef = .int .u64 W := (evalT a 20).symm.trans ((hout 20 (by kernel_rfl)).trans (by kernel_rfl)); refine eff_val (v := .int .u64 W) ?_ (hR.val 11 (by decide)); clear hin hout hw hR; go_simp
     first | done | rfl
   · have e150 : (a.tmps[150]?).getD undef = .int .u64 W := (evalT a 150).symm.trans <| (hin 11 _ 150 rfl rfl).trans (hR.c 11 (by decide) (hw 11 (by kernel_rfl)))
     refine eff_val (v := .int .u64 jb) ?_ (hR.val 12 (by decide)); clear hin hout hw hR; go_simp
     first | done | rfl
   · have e149 : (a.tmps[149]?).getD undef = .slice (some ⟨gK, 0, none⟩) 4 4 := (evalT a 149).symm.trans <| (hin 10 _ 149 rfl rfl).trans (hR.c 10 (by decide) (hw 10 (by kernel_rfl)))
     have e151 : (a.tmps[151]?).getD undef = .int .u64 jb := (evalT a 151).symm.trans <| (hin 12 _ 151 rfl rfl).trans (hR.c 12 (by decide) (hw 12 (by kernel_rfl)))
     refine eff_val (v := .pointer (some ⟨gK, jb, none⟩)) ?_ (hR.val 13 (by decide)); clear hin hout hw hR; go_simp
     first | done | rfl
   · have e152 : (a.tmps[152]?).getD undef = .pointer (some ⟨gK, jb, none⟩) := (evalT a 152).symm.trans <| (hin 13 _ 152 rfl rfl).trans (hR.c 13 (by decide) (hw 13 (by kernel_rfl)))
     have iKK := hR.bk.lt; have k0 := hkb w1 hR.bk; refine eff_val (v := .int .i64 kb) ?_ (hR.val 14 (by decide)); clear hin hout hw hR; go_simp
     first | done | rfl
   · have e18 : (a.tmps[18]?).getD undef = .int .i64 m := (evalT a 18).symm.trans ((hout 18 (by kernel_rfl)).trans (by kernel_rfl)); refine eff_val (v := .int .i64 m) ?_ (hR.val 15 (by decide)); clear hin hout hw hR; go_simp
     first | done | rfl
   · have e154 : (a.tmps[154]?).getD undef = .int .i64 m := (evalT a 154).symm.trans <| (hin 15 _ 154 rfl rfl).trans (hR.c 15 (by decide) (hw 15 (by kernel_rfl)))
     refine eff_call 14 #[.int .i64 m] ?_ ?_
     · clear hin hout hw hR; go_simp
       first | done | rfl
     refine (h14b _).mono ?_; rintro e w' ⟨rfl, hb⟩; exact ⟨_, rfl, (hR.on hb).val 16 (by decide)⟩
   · have e155 : (a.tmps[155]?).getD undef = .string P1 := (evalT a 155).symm.trans <| (hin 16 _ 155 rfl rfl).trans (hR.c 16 (by decide) (hw 16 (by kernel_rfl)))
     refine eff_val (v := .string Q1) ?_ (hR.val 17 (by decide)); clear hin hout hw hR; go_simp
     first | done | rfl
   · have e153 : (a.tmps[153]?).getD undef = .int .i64 kb := (evalT a 153).symm.trans <| (hin 14 _ 153 rfl rfl).trans (hR.c 14 (by decide) (hw 14 (by kernel_rfl)))
     have e156 : (a.tmps[156]?).getD undef = .string Q1 := (evalT a 156).symm.trans <| (hin 17 _ 156 rfl rfl).trans (hR.c 17 (by decide) (hw 17 (by kernel_rfl)))
     refine eff_call 17 #[.int .i64 kb, .int .i64 1, .string Q1] ?_ ?_
     · clear hin hout hw hR; go_simp
       first | done | rfl
     refine (h17b _).mono ?_; rintro e w' ⟨rfl, hb⟩; exact ⟨_, rfl, (hR.on hb).val 18 (by decide)⟩
   · refine eff_val ?_ (hR.ax hnd); clear hin hout hw hR; go_simp
     first | done | rfl
   · refine eff_val ?_ (hR.ay hnd); clear hin hout hw hR; go_simp
     first | done | rfl
   · obtain ⟨b, eb, hbl, hbc, hbs⟩ := hR.x (hw 19 (by kernel_rfl)); have e26 : (a.tmps[26]?).getD undef = .pointer (some ⟨b, 0, none⟩) := (evalT a 26).symm.trans <| (hin 19 _ 26 rfl rfl).trans eb
     have e148 : (a.tmps[148]?).getD undef = .agg #[.int .i64 cx.kind, .int .i64 cx.core, .int .i64 cx.fd, .int .i64 cx.off, .int .i64 cx.num, .string cx.path, .string cx.path2, .string cx.data] := (evalT a 148).symm.trans <| (hin 9 _ 148 rfl rfl).trans (hR.c 9 (by decide) (hw 9 (by kernel_rfl)))
     rcases hbc with hblk | hblk
     all_goals
      obtain ⟨_, _, _, _, _, _, _, _, _⟩ := c8 hblk; obtain ⟨_, _, _, _, _, _, _, _⟩ := f8 hblk; refine eff_skip ?_ (hR.sx (hw 19 (by kernel_rfl)) eb hbl hblk (st8_blk hblk cx)); clear hin hout hw hR hbs; unfold st8; go_simp
   · obtain ⟨b, eb, hbl, hbc, hbs⟩ := hR.y (hw 20 (by kernel_rfl)); have e27 : (a.tmps[27]?).getD undef = .pointer (some ⟨b, 0, none⟩) := (evalT a 27).symm.trans <| (hin 20 _ 27 rfl rfl).trans eb
     have e157 : (a.tmps[157]?).getD undef = .agg #[.int .i64 cy.kind, .int .i64 cy.core, .int .i64 cy.fd, .int .i64 cy.off, .int .i64 cy.num, .string cy.path, .string cy.path2, .string cy.data] := (evalT a 157).symm.trans <| (hin 18 _ 157 rfl rfl).trans (hR.c 18 (by decide) (hw 18 (by kernel_rfl)))
     rcases hbc with hblk | hblk
     all_goals
      obtain ⟨_, _, _, _, _, _, _, _, _⟩ := c8 hblk; obtain ⟨_, _, _, _, _, _, _, _⟩ := f8 hblk; refine eff_skip ?_ (hR.sy (hw 20 (by kernel_rfl)) eb hbl hblk (st8_blk hblk cy)); clear hin hout hw hR hbs; unfold st8; go_simp
 · intro σ w3 hR; obtain ⟨g26, ex, hgx, -, hx⟩ := hR.x trivial; obtain ⟨g27, ey, hgy, -, hy⟩ := hR.y trivial; have HZ3 := Lib.hid ((HZ.out.on hR.below).m2 cx cy (by omega) (hx trivial) (by omega) (hy trivial)); simp only [putsL, Act.put, sA, sZ, sS, Nat.reduceAdd]; rw [show σ 19 = _ from ex, show σ 20 = _ from ey]; clear hR ex ey HZ hBK h17a h17b h14a h14b hkx hky hka hkb iK hgx hgy hx hy hs0 hs1 hQ0 hQ1
   go_upto_region 21 with fail
   refine PZ.world (HZ3.out.on (bel w3 _)) ?_; clear HZ3; rintro wz hZ; refine hZ.reg [3, 4, 5] (by kernel_rfl) ?_; clear hZ; rintro wy hY; have HX := Lib.hid trivial
   repeat
    refine PS.look rfl rfl ?_; apply Exists.intro; refine ⟨?_, ?_⟩
    focus
     intro w' _ _ _ _; simp only [LF]; intros; go_simp
     first | done | rfl
    simp only [Act.put, sA, sZ, sS]
   refine hY.s6 rfl rfl ?_ fun wy hY => ?_
   · intros; clear hY HX; unfold st3; go_simp
     first | done | rfl
   simp only [Act.put, sA, sZ, sS]; refine hY.s7 cx rfl rfl ?_ fun wy hY => ?_
   · intros; clear hY HX; simp only [st8]; go_simp
     first | done | rfl
   simp only [Act.put, sA, sZ, sS]; refine hY.s8 cy rfl rfl ?_ fun wy hY => ?_
   · intros; clear hY HX; simp only [st8]; go_simp
     first | done | rfl
   simp only [Act.put, sA, sZ, sS]
   repeat
    refine PS.look rfl rfl ?_; apply Exists.intro; refine ⟨?_, ?_⟩
    focus
     intro w' _ _ _ _; simp only [LF]; intros; go_simp
     first | done | rfl
    simp only [Act.put, sA, sZ, sS]
   refine wpL_end ?_; obtain ⟨_, _, _, _⟩ := c3 hY.b6; have v := c8 hY.b7; have z := c8 hY.b8; obtain ⟨_, _, _, _, _, _, _, _, _⟩ := v; obtain ⟨_, _, _, _, _, _, _, _, _⟩ := z; have HF := Lib.hid (And.intro hY.below hY.st.read); clear hY; go_wp2_with fail; exact bodyPost_ret (v := .tuple #[.agg #[.slice a1 a2 a3, .slice a4 a5 a6, .slice a7 a8 a9], PCall.val cx, PCall.val cy, .bool true, .bool true]) (by unfold results PCall.val; simp only [Tryz.results8]; go_simp) rfl ⟨_, _, _, cx, cy, true, by rw [HPO.out], (fun _ => ⟨HXY.out.1.symm, HXY.out.2.1.symm, HXY.out.2.2.symm⟩), HF.out.1, HF.out.2⟩
end Go.Proofs.YtjkenolgkkknaaaGreatDoor
