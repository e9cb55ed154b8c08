/- doer.link. Conditions: none. -/
import Derived.Test.YtmkapobnfigedaaGreatDoorEl28
set_option linter.unusedVariables false
set_option linter.unusedSimpArgs false
namespace Go.Proofs.YtmkapobnfigedaaGreatDoor
open Go.RowKit
def linkM2 (S : PSt) (x : PIn) (r : PRes) (K : Nat) (l : ByteArray) : Except Int (PSt × PRes) :=
 match S.ins[K]? with
 | none => .error 0
 | some y => if hitE y.ents l = true then .error 2 else if fullM y.ents l { data := #[] } = true then .error 5 else .ok (S.ents K y (insAt y.ents (bsE y.ents l) ⟨l, x.num⟩), r)
theorem Opened.at_call {B : Nat} {w : World} {d b bi gm capi capm : Nat} {ov nv : Value} {S : PSt} {c : PCall} {r : PRes} (o : Opened B w d b bi gm capi capm ov nv S c r) (hf : Fine S) (s : ByteArray) (hp : (parseM s).1 = 0) (hpl : (parseM s).2.length ≤ 1000000000) (K : Nat) (C : Int) (hW : walkM S 0 (parseM s).2 = (K, C)) :
 ∀ ww, Below w.heap.size w ww → Calls Tryz.prog 178 #[.pointer (some ⟨d, 0, none⟩), .string s] ww fun e w' => ((C = 0 ∧ e = .returned (.pointer (some ⟨bi, K * 4, none⟩))) ∨ (C ≠ 0 ∧ e = thrown C)) ∧ Below ww.heap.size ww w' := by
 intro ww hb
 refine (at122 d b S c s ww (o.at_.read.below hb (Nat.le_refl _)) hf hp hpl).mono ?_
 rintro e w' ⟨hb', ho⟩
 rw [hW] at ho
 refine ⟨?_, hb'⟩
 rcases ho with ⟨hC, bi', off', cap', hc, he⟩ | ⟨hC, he⟩
 · refine .inl ⟨hC, ?_⟩; have h2 := ((o.below hb).hb.cell 0).symm.trans hc; simp only [List.getElem?_toArray, List.getElem?_cons_zero, Option.some.injEq, Value.slice.injEq, Addr.mk.injEq] at h2; obtain ⟨⟨rfl, rfl, -⟩, -, rfl⟩ := h2; rw [he, Nat.zero_add]
 · exact .inr ⟨hC, he⟩
theorem Opened.parent_call {B : Nat} {w : World} {d b bi gm capi capm : Nat} {ov nv : Value} {S : PSt} {c : PCall} {r : PRes} (o : Opened B w d b bi gm capi capm ov nv S c r) (hf : Fine S) (s : ByteArray) (hp : (parseM s).1 = 0) (hpl : (parseM s).2.length ≤ 1000000000) (R : Except Int (Nat × ByteArray)) (hR : parentM S (parseM s).2 = R) :
 ∀ ww, Below w.heap.size w ww → Calls Tryz.prog 170 #[.pointer (some ⟨d, 0, none⟩), .string s] ww fun e w' => (match R with | .ok (K, l) => e = .returned (.tuple #[.pointer (some ⟨bi, K * 4, none⟩), .string l]) | .error k => e = thrown k) ∧ Below ww.heap.size ww w' := by
 intro ww hb
 refine (parent113 d b S c s ww (o.at_.read.below hb (Nat.le_refl _)) hf hp hpl).mono ?_
 rintro e w' ⟨hb', ho⟩
 rw [hR] at ho
 refine ⟨?_, hb'⟩
 rcases R with k | ⟨K, l⟩
 · exact ho
 · obtain ⟨bi', off', cap', hc, he⟩ := ho; have h2 := ((o.below hb).hb.cell 0).symm.trans hc; simp only [List.getElem?_toArray, List.getElem?_cons_zero, Option.some.injEq, Value.slice.injEq, Addr.mk.injEq] at h2; obtain ⟨⟨rfl, rfl, -⟩, -, rfl⟩ := h2; simp only; rw [he, Nat.zero_add]
structure InoAt (w : World) (bi K : Nat) (x : PIn) (ea : Option Addr) (ec : Nat) : Prop where
 iB : BlockLt bi w
 y0 : w.cell? ⟨bi, K * 4, none⟩ = some (.int .i64 x.num)
 y1 : w.cell? ⟨bi, K * 4 + 1, none⟩ = some (.bool x.dir)
 y2 : w.cell? ⟨bi, K * 4 + 2, none⟩ = some (.slice ea x.ents.length ec)
 y3 : w.cell? ⟨bi, K * 4 + 3, none⟩ = some (.string x.data)
 row : RowAt w 2 (.slice ea x.ents.length ec) (x.ents.map PEnt.cells)
 ent : ∀ ww l, Below w.heap.size w ww → Calls Tryz.prog 171 #[.slice ea x.ents.length ec, .string l] ww fun e w' => e = .returned (.tuple #[.int .i64 (bsE x.ents l), .bool (hitE x.ents l)]) ∧ Below ww.heap.size ww w'
 ful : ∀ ww l but, Below w.heap.size w ww → Calls Tryz.prog 173 #[.pointer (some ⟨bi, K * 4, none⟩), .string l, .string but] ww fun e w' => e = .returned (.bool (fullM x.ents l but)) ∧ Below ww.heap.size ww w'
theorem Opened.ino {B : Nat} {w : World} {d b bi gm capi capm : Nat} {ov nv : Value} {S : PSt} {c : PCall} {r : PRes} (o : Opened B w d b bi gm capi capm ov nv S c r) (hs : Small S) {K : Nat} {x : PIn} (hx : S.ins[K]? = some x) : ∃ ea ec, InoAt w bi K x ea ec := by
 obtain ⟨ai, capi', he, hat⟩ := o.st.read.ins_at2
 simp only [Value.slice.injEq] at he
 obtain ⟨rfl, -, rfl⟩ := he
 obtain ⟨bi', off', ev, he, iG, hone, hrow, hcl⟩ := hat K x hx
 simp only [Option.some.injEq, Addr.mk.injEq] at he
 obtain ⟨rfl, rfl, -⟩ := he
 obtain ⟨i1, y0, y1, y2, y3⟩ := hcl w (Below.refl _ _)
 rw [Nat.zero_add] at y0 y1 y2 y3
 have hrow' := hrow
 obtain ⟨ea, ec, rfl, _⟩ := hrow'
 have hl := hs.ents x (List.mem_of_getElem? hx)
 rw [List.length_map] at y2 hrow
 exact ⟨ea, ec, i1, y0, y1, y2, y3, hrow, fun ww l hww => entry114 x.ents _ l ww (hrow.below hww (Nat.le_refl _)) (by omega), fun ww l but hww => full116 bi (K * 4) x.ents _ l but ww ⟨by have := i1.lt; have := hww.size; omega⟩ ((hww.cell (p := ⟨bi, K * 4 + 2, none⟩) i1.lt).trans y2) (hrow.below hww (Nat.le_refl _)) (by omega)⟩
end Go.Proofs.YtmkapobnfigedaaGreatDoor
