/- Words for worlds: garbage behind a world; which blocks a world has, found by instances. Conditions: none. -/
import Derived.Test.YtjkenolgkkknaaaGreatDoorRows
import Derived.WalkKit
import Derived.WalkSpells
import Derived.WalkLawsBesides
import Derived.Deep.QuietTactic
import Derived.BigQuiet
import Derived.Lib.Hide
namespace Go
/-- What lies behind a world: blocks, and how often the tape was asked. -/
structure Behind where
  G : Array Obj
  d : Nat
instance : Inhabited Behind := ⟨⟨#[], 0⟩⟩
/-- How many blocks. -/
def Behind.len (p : Behind) : Nat := p.G.size
/-- One rest behind another. -/
def Behind.more (p q : Behind) : Behind := ⟨p.G ++ q.G, q.d⟩
def Behind.drew (p : Behind) : Behind := ⟨p.G, p.d + 1⟩
/-- A world with more blocks behind it, and draws. -/
def World.junk (w : World) (p : Behind) : World := { w with heap := w.heap ++ p.G, drawn := p.d }
theorem World.size_junk0 (w : World) (p : Behind) : (w.junk p).heap.size = w.heap.size + p.len := by simp [World.junk, Behind.len]
theorem World.heap_junk (w : World) (p : Behind) {b : Nat} (h : b < w.heap.size) : (w.junk p).heap[b]? = w.heap[b]? := by
  simp only [World.junk]; rw [Array.getElem?_append_left h]
/-- The size of a world's heap, written out. -/
class SizeIs (w : World) (n : outParam Nat) : Prop where
  eq : w.heap.size = n
/-- A world has a block of that number. -/
class BlockLt (b : Nat) (w : World) : Prop where
  lt : b < w.heap.size
section
variable {w : World} {b n : Nat}
instance (priority := low) : SizeIs w w.heap.size := ⟨rfl⟩
instance {o : Obj} [h : SizeIs w n] : SizeIs (w.alloc o) (n + 1) := ⟨by simp [h.eq]⟩
instance {p : Behind} [h : SizeIs w n] : SizeIs (w.junk p) (n + p.len) := ⟨by simp [World.size_junk0, h.eq]⟩
instance {a : Addr} {v : Value} [h : SizeIs w n] : SizeIs (w.setCell a v) n := ⟨by simp [h.eq]⟩
instance [h : SizeIs w n] : SizeIs w.drew n := ⟨by simp [h.eq]⟩
instance (priority := low) {o : Obj} [h : SizeIs w n] : BlockLt n (w.alloc o) := ⟨by simp [h.eq]⟩
instance {o : Obj} [h : BlockLt b w] : BlockLt b (w.alloc o) := ⟨by have := h.lt; simp; omega⟩
instance {p : Behind} [h : BlockLt b w] : BlockLt b (w.junk p) := ⟨by have := h.lt; simp [World.size_junk0]; omega⟩
instance {a : Addr} {v : Value} [h : BlockLt b w] : BlockLt b (w.setCell a v) := ⟨by have := h.lt; simpa using this⟩
instance [h : BlockLt b w] : BlockLt b w.drew := ⟨by have := h.lt; simpa using this⟩
end
section
variable (w : World) (p : Behind) {b o : Nat}
@[go_sem, simp] theorem World.size_junk : (w.junk p).heap.size = w.heap.size + p.len := World.size_junk0 w p
@[go_sem] theorem World.cell?_junk [h : BlockLt b w] : (w.junk p).cell? ⟨b, o, none⟩ = w.cell? ⟨b, o, none⟩ := by
  unfold World.cell?; simp only; rw [World.heap_junk w p h.lt]
@[go_sem] theorem World.frozen?_junk [h : BlockLt b w] : (w.junk p).frozen? ⟨b, o, none⟩ = w.frozen? ⟨b, o, none⟩ := by
  unfold World.frozen?; simp only; rw [World.heap_junk w p h.lt]
@[go_sem] theorem World.cell?_alloc_i (x : Obj) [h : BlockLt b w] : (w.alloc x).cell? ⟨b, o, none⟩ = w.cell? ⟨b, o, none⟩ := World.cell?_alloc_lt w x ⟨b, o, none⟩ h.lt
@[go_sem] theorem World.frozen?_alloc_i (x : Obj) [h : BlockLt b w] : (w.alloc x).frozen? ⟨b, o, none⟩ = w.frozen? ⟨b, o, none⟩ :=
  World.frozen?_alloc_old w x ⟨b, o, none⟩ (Nat.ne_of_lt h.lt)
@[go_sem] theorem World.setCell_alloc_i (x : Obj) (v : Value) [h : BlockLt b w] : (w.alloc x).setCell ⟨b, o, none⟩ v = (w.setCell ⟨b, o, none⟩ v).alloc x := World.setCell_alloc_past x b o v h.lt
@[go_sem] theorem World.setCell_junk (v : Value) [h : BlockLt b w] : (w.junk p).setCell ⟨b, o, none⟩ v = (w.setCell ⟨b, o, none⟩ v).junk p := by
  have h := h.lt
  unfold World.setCell World.junk
  congr 1
  apply Array.ext_getElem?
  intro k
  simp only [Array.getElem?_modify, Array.getElem?_append, Array.size_modify]
  by_cases hk : b = k
  · subst hk; simp [h]
  · simp [hk]
@[go_sem] theorem World.drew_junk : (w.junk p).drew = w.junk p.drew := rfl
@[go_sem, simp] theorem World.tape_junk : (w.junk p).tape = w.tape := rfl
@[go_sem] theorem World.junk_junk (q : Behind) : (w.junk p).junk q = w.junk (p.more q) := by simp [World.junk, Behind.more]
end
namespace RowKit
theorem Below.rest {w w' : World} (h : Below w.heap.size w w') : ∃ p : Behind, w' = w.junk p := by
  refine ⟨⟨w'.heap.extract w.heap.size w'.heap.size, w'.drawn⟩, ?_⟩
  obtain ⟨ho, ht, hp, hs, hb⟩ := h
  cases w' with | mk heap' tape' drawn' os' output' =>
  cases w with | mk heap tape drawn os output =>
  simp only at ho ht hp hs hb ⊢
  subst ho; subst ht; subst hp
  simp only [World.junk, World.mk.injEq, and_true]
  apply Array.ext_getElem?
  intro k
  by_cases hk : k < heap.size
  · rw [hb k hk, Array.getElem?_append_left hk]
  · rw [Array.getElem?_append_right (by omega), Array.getElem?_extract]
    by_cases hk' : k < heap'.size
    · rw [if_pos (by simp; omega)]; congr 1; omega
    · rw [if_neg (by simp; omega)]; exact Array.getElem?_eq_none (by omega)
theorem below_junk (B : Nat) (a w : World) (p : Behind) (h : Below B a w) (hB : B ≤ w.heap.size) : Below B a (w.junk p) :=
  h.trans ⟨rfl, rfl, rfl, by simp, fun k hk => World.heap_junk w p (by omega)⟩
theorem below_of_junk (w : World) (p : Behind) : Below w.heap.size w (w.junk p) := below_junk _ _ _ _ (Below.refl _ _) (Nat.le_refl _)
/-- A region that draws its order, reads, and calls functions that make garbage alone. -/
theorem wp_region_quiet_rest {P : Program} {id : Nat} {Q : Exit → Act → World → Prop} {a : Act} {w : World} {l : List Oper} (hm : P.follows .mixedOrders = true) (hB : Region.lexB .any l.toArray = true)
    (h : wpQuiet P l.toArray (fun w' => ∃ p : Behind, w' = w.junk p) (fun a' => ∀ w', (∃ p : Behind, w' = w.junk p) → Q .normal a' w') l a) : (Code.region id l.toArray true).wp P Q a w :=
  wp_region_quiet (C := fun w' => ∃ p : Behind, w' = w.junk p) hm hB ⟨⟨#[], w.drawn + 1⟩, by simp [World.junk]⟩ (by simpa using h)
theorem calls_rest {P : Program} {f : FuncId} {args : Array Value} {w : World} {q : Behind} {v : Value}
    (h : Calls P f args (w.junk q) fun e w' => e = .returned v ∧ Below (w.junk q).heap.size (w.junk q) w') : Calls P f args (w.junk q) fun e w'' => e = .returned v ∧ ∃ p : Behind, w'' = w.junk p :=
  h.mono fun _ _ ⟨he, hb⟩ => ⟨he, ((below_of_junk w q).trans (hb.mono (by simp))).rest⟩
theorem calls_in {P : Program} {f : FuncId} {args : Array Value} {w : World} {v : Value} {C : World → Prop}
    (h : Calls P f args w fun e w' => e = .returned v ∧ Below w.heap.size w w') (hC : ∀ w', Below w.heap.size w w' → C w') : Calls P f args w fun e w'' => e = .returned v ∧ C w'' :=
  h.mono fun _ _ ⟨he, hb⟩ => ⟨he, hC _ hb⟩
theorem rest1 {w w' : World} {q : Behind} (hb : Below (w.junk q).heap.size (w.junk q) w') : ∃ p : Behind, w' = w.junk p :=
  ((below_of_junk w q).trans (hb.mono (by simp))).rest
theorem rest2 {w w' : World} {A q : Behind} (hb : Below (w.junk (A.more q)).heap.size (w.junk (A.more q)) w') : ∃ p : Behind, w' = w.junk (A.more p) := by
  rw [← World.junk_junk] at hb
  obtain ⟨p, hp⟩ := rest1 hb
  exact ⟨p, by rw [hp, World.junk_junk]⟩
theorem below_alloc {B : Nat} {a w : World} (hB : B ≤ w.heap.size) (h : Below B a w) (o : Obj) : Below B a (w.alloc o) := h.alloc hB o
theorem ret_bool {a b : Bool} (h : a = b) : Ending.returned (.bool a) = Ending.returned (.bool b) := by rw [h]
theorem ret_int {k : IntKind} {a b : Int} (h : a = b) : Ending.returned (.int k a) = Ending.returned (.int k b) := by rw [h]
/-- 'Below' from the size on, by instances. -/
class Bel (a w : World) : Prop where
  below : Below a.heap.size a w
section
variable {a w : World}
instance : Bel a a := ⟨Below.refl _ _⟩
instance {o : Obj} [h : Bel a w] : Bel a (w.alloc o) := ⟨h.below.alloc h.below.size o⟩
instance {q : Behind} [h : Bel a w] : Bel a (w.junk q) := ⟨below_junk _ _ _ _ h.below h.below.size⟩
instance [h : Bel a w] : Bel a w.drew := ⟨h.below.drew⟩
theorem bel (a w : World) [h : Bel a w] : Below a.heap.size a w := h.below
end
end RowKit
end Go
