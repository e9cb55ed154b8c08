/- A slice of acts that came in, opened. Conditions: none. -/
import Derived.Test.YtpndplbomnjioaaKit2
import Derived.ProofKit
import Derived.Deep.Slices
import Derived.Deep.Strs
set_option linter.unusedVariables false
namespace Go.Proofs.Ytpndplbomnjioaa
open Go.RowKit Go.ChangeShapes Go.WideShapes Go.Deep
/-- An act: its kind, its call, the stamp that was seen. -/
structure AR where
  act : Int
  kind : Int
  core : Int
  fd : Int
  off : Int
  num : Int
  path : ByteArray
  path2 : ByteArray
  data : ByteArray
  sc : Int
  sk : Int
def AR.cells (z : AR) : List Value := [.int .i64 z.act, .int .i64 z.kind, .int .i64 z.core, .int .i64 z.fd, .int .i64 z.off, .int .i64 z.num, .string z.path, .string z.path2, .string z.data, .int .i64 z.sc, .int .i64 z.sk]
theorem cellsOf58 : Try.prog.cellsOf 58 = 11 := by kernel_rfl
theorem cellsOf41 : Try.prog.cellsOf 41 = 8 := by kernel_rfl
theorem cellsOf23 : Try.prog.cellsOf 23 = 2 := by kernel_rfl
theorem cellsOf3 : Try.prog.cellsOf 3 = 1 := by kernel_rfl
theorem cellsOf9 : Try.prog.cellsOf 9 = 1 := by kernel_rfl
theorem open_act {H : Type} {enc : TypeId × Value → H} {W : World} {base : Nat} {sp : Nat → Bool} {hd : Bool} {fuel : Nat} {cs : List Value} {x : DataW H × List MemPlace} (h : DataW.trod enc Try.prog W base sp hd fuel 58 cs = some x) :
    ∃ z : AR, cs = z.cells := by
  obtain ⟨xs, n, _, _, hl, hxs, hf⟩ := DataW.trod_struct Try.underlying58 h
  rw [cellsOf58] at hl
  have h0 : DataW.trod enc Try.prog W base sp hd n 3 ((cs.drop 0).take (Try.prog.cellsOf 3)) = xs[0]? := hf 0 _ rfl
  have h1 : DataW.trod enc Try.prog W base sp hd n 41 ((cs.drop 1).take (Try.prog.cellsOf 41)) = xs[1]? := hf 1 _ rfl
  have h2 : DataW.trod enc Try.prog W base sp hd n 23 ((cs.drop 9).take (Try.prog.cellsOf 23)) = xs[2]? := hf 2 _ rfl
  match cs, hl with
  | [c0, c1, c2, c3, c4, c5, c6, c7, c8, c9, c10], _ =>
    match xs, hxs with
    | [y0, y1, y2], _ =>
      simp only [cellsOf3, cellsOf41, cellsOf23, List.drop, List.take, List.getElem?_cons_zero, List.getElem?_cons_succ] at h0 h1 h2
      obtain ⟨a, e0, _, _⟩ := DataW.trod_int Try.underlying3 h0
      obtain ⟨ys, m, _, _, _, hys, hg⟩ := DataW.trod_struct Try.underlying41 h1
      match ys, hys with
      | [z0, z1, z2, z3, z4, z5, z6, z7], _ =>
        have g0 : DataW.trod enc Try.prog W base sp hd m 3 ((([c1, c2, c3, c4, c5, c6, c7, c8] : List Value).drop 0).take (Try.prog.cellsOf 3)) = [z0, z1, z2, z3, z4, z5, z6, z7][0]? := hg 0 _ rfl
        have g1 : DataW.trod enc Try.prog W base sp hd m 3 ((([c1, c2, c3, c4, c5, c6, c7, c8] : List Value).drop 1).take (Try.prog.cellsOf 3)) = [z0, z1, z2, z3, z4, z5, z6, z7][1]? := hg 1 _ rfl
        have g2 : DataW.trod enc Try.prog W base sp hd m 3 ((([c1, c2, c3, c4, c5, c6, c7, c8] : List Value).drop 2).take (Try.prog.cellsOf 3)) = [z0, z1, z2, z3, z4, z5, z6, z7][2]? := hg 2 _ rfl
        have g3 : DataW.trod enc Try.prog W base sp hd m 3 ((([c1, c2, c3, c4, c5, c6, c7, c8] : List Value).drop 3).take (Try.prog.cellsOf 3)) = [z0, z1, z2, z3, z4, z5, z6, z7][3]? := hg 3 _ rfl
        have g4 : DataW.trod enc Try.prog W base sp hd m 3 ((([c1, c2, c3, c4, c5, c6, c7, c8] : List Value).drop 4).take (Try.prog.cellsOf 3)) = [z0, z1, z2, z3, z4, z5, z6, z7][4]? := hg 4 _ rfl
        have g5 : DataW.trod enc Try.prog W base sp hd m 9 ((([c1, c2, c3, c4, c5, c6, c7, c8] : List Value).drop 5).take (Try.prog.cellsOf 9)) = [z0, z1, z2, z3, z4, z5, z6, z7][5]? := hg 5 _ rfl
        have g6 : DataW.trod enc Try.prog W base sp hd m 9 ((([c1, c2, c3, c4, c5, c6, c7, c8] : List Value).drop 6).take (Try.prog.cellsOf 9)) = [z0, z1, z2, z3, z4, z5, z6, z7][6]? := hg 6 _ rfl
        have g7 : DataW.trod enc Try.prog W base sp hd m 9 ((([c1, c2, c3, c4, c5, c6, c7, c8] : List Value).drop 7).take (Try.prog.cellsOf 9)) = [z0, z1, z2, z3, z4, z5, z6, z7][7]? := hg 7 _ rfl
        simp only [cellsOf3, cellsOf9, List.drop, List.take, List.getElem?_cons_zero, List.getElem?_cons_succ] at g0 g1 g2 g3 g4 g5 g6 g7
        obtain ⟨b0, f0, _, _⟩ := DataW.trod_int Try.underlying3 g0
        obtain ⟨b1, f1, _, _⟩ := DataW.trod_int Try.underlying3 g1
        obtain ⟨b2, f2, _, _⟩ := DataW.trod_int Try.underlying3 g2
        obtain ⟨b3, f3, _, _⟩ := DataW.trod_int Try.underlying3 g3
        obtain ⟨b4, f4, _, _⟩ := DataW.trod_int Try.underlying3 g4
        obtain ⟨b5, f5, _, _⟩ := DataW.trod_string Try.underlying9 g5
        obtain ⟨b6, f6, _, _⟩ := DataW.trod_string Try.underlying9 g6
        obtain ⟨b7, f7, _, _⟩ := DataW.trod_string Try.underlying9 g7
        obtain ⟨us, k, _, _, _, hus, hk⟩ := DataW.trod_struct Try.underlying23 h2
        match us, hus with
        | [v0, v1], _ =>
          have k0 : DataW.trod enc Try.prog W base sp hd k 3 ((([c9, c10] : List Value).drop 0).take (Try.prog.cellsOf 3)) = [v0, v1][0]? := hk 0 _ rfl
          have k1 : DataW.trod enc Try.prog W base sp hd k 3 ((([c9, c10] : List Value).drop 1).take (Try.prog.cellsOf 3)) = [v0, v1][1]? := hk 1 _ rfl
          simp only [cellsOf3, List.drop, List.take, List.getElem?_cons_zero, List.getElem?_cons_succ] at k0 k1
          obtain ⟨d0, i0, _, _⟩ := DataW.trod_int Try.underlying3 k0
          obtain ⟨d1, i1, _, _⟩ := DataW.trod_int Try.underlying3 k1
          simp only [List.cons.injEq, and_true] at e0 f0 f1 f2 f3 f4 f5 f6 f7 i0 i1
          exact ⟨⟨a, b0, b1, b2, b3, b4, b5, b6, b7, d0, d1⟩, by rw [e0, f0, f1, f2, f3, f4, f5, f6, f7, i0, i1]; rfl⟩
/-- A slice of acts: nil, or a row whose elements are acts. -/
def IsActs (w : World) (a : Option Addr) (len cap : Nat) : Prop :=
  (a = none ∧ len = 0 ∧ cap = 0) ∨ ∃ x, a = some x ∧ len ≤ maxLen ∧ ∀ i, i < len → ∃ z : AR, ∀ t, t < 11 → w.cell? ((x.add (i * 11)).add t) = z.cells[t]?
theorem open_acts {H : Type} {enc : TypeId × Value → H} {W : World} {base : Nat} {sp : Nat → Bool} {hd : Bool} {fuel : Nat} {a : Option Addr} {len cap : Nat} {x : DataW H × List MemPlace} (h : DataW.trod enc Try.prog W base sp hd fuel 53 [.slice a len cap] = some x) : IsActs W a len cap := by
  rcases open_slice Try.underlying53 h with ⟨e, _⟩ | ⟨b, len', cap', m, n, D, Pl, e, _, hl, hm, hmm, _, hall⟩
  · injection e with e _
    injection e with e1 e2 e3
    exact .inl ⟨e1, e2, e3⟩
  · injection e with e _
    injection e with e1 e2 e3
    subst e1
    subst e2
    subst e3
    refine .inr ⟨b, rfl, by omega, fun i hi => ?_⟩
    have him : i < m := by rw [hmm]; split <;> omega
    obtain ⟨cs, h1, h2⟩ := hall i him
    obtain ⟨z, rfl⟩ := open_act h2
    rw [cellsOf58] at h1
    obtain ⟨_, _, h3⟩ := World.cells?_some h1
    exact ⟨z, h3⟩
/-- The act at a place. -/
theorem IsActs.at_ {w : World} {a : Option Addr} {len cap : Nat} (h : IsActs w a len cap) {i : Nat} (hi : i < len) :
    ∃ (b off : Nat) (z : AR), a = some ⟨b, off, none⟩ ∧ b < w.heap.size ∧ ∀ t, t < 11 → ∀ v, z.cells[t]? = some v → w.cell? ⟨b, off + i * 11 + t, none⟩ = some v := by
  rcases h with ⟨_, h0, _⟩ | ⟨⟨b, off, spot⟩, e, hl, hc⟩
  · omega
  · obtain ⟨z, hz⟩ := hc i hi
    have h0 := hz 0 (by omega)
    have hsp : spot = none := by
      cases spot with
      | none => rfl
      | some s =>
        obtain ⟨z0, hz0⟩ := hc 0 (by omega)
        have h00 := hz0 0 (by omega)
        simp only [Nat.zero_mul, Addr.add, if_true, AR.cells, List.getElem?_cons_zero] at h00
        unfold World.cell? at h00
        split at h00 <;> simp at h00
    subst hsp
    have ea : ∀ t, ((⟨b, off, none⟩ : Addr).add (i * 11)).add t = ⟨b, off + i * 11 + t, none⟩ := fun t => by
      rw [Addr.add_add, Addr.add_lit, Nat.add_assoc]
    refine ⟨b, off, z, e, ?_, fun t ht v hv => by rw [← ea t, hz t ht]; exact hv⟩
    rw [ea 0] at h0
    exact World.block_lt_of_cell? _ _ h0
theorem IsActs.below {w w' : World} {B : Nat} {a : Option Addr} {len cap : Nat} (h : IsActs w a len cap) (hb : Below B w w') (hB : w.heap.size ≤ B) : IsActs w' a len cap := by
  rcases h with h | ⟨x, e, hl, hc⟩
  · exact .inl h
  · refine .inr ⟨x, e, hl, fun i hi => ?_⟩
    obtain ⟨z, hz⟩ := hc i hi
    refine ⟨z, fun t ht => ?_⟩
    have h1 := hz t ht
    have : ∃ v, z.cells[t]? = some v := ⟨_, List.getElem?_eq_getElem (by simp [AR.cells]; omega)⟩
    obtain ⟨v, hv⟩ := this
    rw [hv] at h1 ⊢
    have h2 := World.block_lt_of_cell? _ _ h1
    rw [hb.cell (by omega)]; exact h1
theorem IsActs.len_le {w : World} {a : Option Addr} {len cap : Nat} (h : IsActs w a len cap) : len ≤ 9223372036854775807 := by
  rcases h with ⟨_, h0, _⟩ | ⟨x, e, hl, _⟩
  · omega
  · unfold maxLen at hl; omega
end Go.Proofs.Ytpndplbomnjioaa
