/- Part of the proof of a law of chapter 15. Conditions: none. -/
import Derived.WalkKit
import Derived.WalkSpells
import Derived.WalkLawsBesides
import Derived.Deep.QuietTactic
import Derived.BigQuiet
import Derived.Lib.Hide
import Derived.Test.YtmkapobnfigedaaGreatDoorRows
import Derived.Deep.RegionHeld3
import Derived.Deep.DeepCutAuto
import Derived.Maps.AppendAt
import Derived.RegionTactic
import Derived.OwnWalk
set_option linter.unusedVariables false
set_option linter.unusedSimpArgs false
set_option maxRecDepth 100000
set_option maxHeartbeats 8000000
namespace Go
structure Behind where
 G : Array Obj
 d : Nat
instance : Inhabited Behind := ⟨⟨#[], 0⟩⟩
def Behind.len (p : Behind) : Nat := p.G.size
def Behind.more (p q : Behind) : Behind := ⟨p.G ++ q.G, q.d⟩
def Behind.drew (p : Behind) : Behind := ⟨p.G, p.d + 1⟩
def World.junk (w : World) (p : Behind) : World := { w with heap := w.heap ++ p.G, drawn := p.d }
theorem World.size_junk0 (w : World) (p : Behind) : (w.junk p).heap.size = w.heap.size + p.len := by simp [World.junk, Behind.len]
theorem World.heap_junk (w : World) (p : Behind) {b : Nat} (h : b < w.heap.size) : (w.junk p).heap[b]? = w.heap[b]? := by
 simp only [World.junk]; rw [Array.getElem?_append_left h]
class SizeIs (w : World) (n : outParam Nat) : Prop where
 eq : w.heap.size = n
class BlockLt (b : Nat) (w : World) : Prop where
 lt : b < w.heap.size
section
variable {w : World} {b n : Nat}
instance (priority := low) : SizeIs w w.heap.size := ⟨rfl⟩
instance {o : Obj} [h : SizeIs w n] : SizeIs (w.alloc o) (n + 1) := ⟨by simp [h.eq]⟩
instance {p : Behind} [h : SizeIs w n] : SizeIs (w.junk p) (n + p.len) := ⟨by simp [World.size_junk0, h.eq]⟩
instance {a : Addr} {v : Value} [h : SizeIs w n] : SizeIs (w.setCell a v) n := ⟨by simp [h.eq]⟩
instance [h : SizeIs w n] : SizeIs w.drew n := ⟨by simp [h.eq]⟩
instance (priority := low) {o : Obj} [h : SizeIs w n] : BlockLt n (w.alloc o) := ⟨by simp [h.eq]⟩
instance {o : Obj} [h : BlockLt b w] : BlockLt b (w.alloc o) := ⟨by have := h.lt; simp; omega⟩
instance {p : Behind} [h : BlockLt b w] : BlockLt b (w.junk p) := ⟨by have := h.lt; simp [World.size_junk0]; omega⟩
instance {a : Addr} {v : Value} [h : BlockLt b w] : BlockLt b (w.setCell a v) := ⟨by have := h.lt; simpa using this⟩
instance [h : BlockLt b w] : BlockLt b w.drew := ⟨by have := h.lt; simpa using this⟩
end
section
variable (w : World) (p : Behind) {b o : Nat}
@[go_sem, simp] theorem World.size_junk : (w.junk p).heap.size = w.heap.size + p.len := World.size_junk0 w p
@[go_sem] theorem World.cell?_junk [h : BlockLt b w] : (w.junk p).cell? ⟨b, o, none⟩ = w.cell? ⟨b, o, none⟩ := by
 unfold World.cell?; simp only; rw [World.heap_junk w p h.lt]
@[go_sem] theorem World.frozen?_junk [h : BlockLt b w] : (w.junk p).frozen? ⟨b, o, none⟩ = w.frozen? ⟨b, o, none⟩ := by
 unfold World.frozen?; simp only; rw [World.heap_junk w p h.lt]
@[go_sem] theorem World.cell?_alloc_i (x : Obj) [h : BlockLt b w] : (w.alloc x).cell? ⟨b, o, none⟩ = w.cell? ⟨b, o, none⟩ := World.cell?_alloc_lt w x ⟨b, o, none⟩ h.lt
@[go_sem] theorem World.frozen?_alloc_i (x : Obj) [h : BlockLt b w] : (w.alloc x).frozen? ⟨b, o, none⟩ = w.frozen? ⟨b, o, none⟩ :=
 World.frozen?_alloc_old w x ⟨b, o, none⟩ (Nat.ne_of_lt h.lt)
@[go_sem] theorem World.setCell_alloc_i (x : Obj) (v : Value) [h : BlockLt b w] : (w.alloc x).setCell ⟨b, o, none⟩ v = (w.setCell ⟨b, o, none⟩ v).alloc x := World.setCell_alloc_past x b o v h.lt
@[go_sem] theorem World.setCell_junk (v : Value) [h : BlockLt b w] : (w.junk p).setCell ⟨b, o, none⟩ v = (w.setCell ⟨b, o, none⟩ v).junk p := by
 have h := h.lt
 unfold World.setCell World.junk
 congr 1
 apply Array.ext_getElem?
 intro k
 simp only [Array.getElem?_modify, Array.getElem?_append, Array.size_modify]
 by_cases hk : b = k
 · subst hk; simp [h]
 · simp [hk]
@[go_sem] theorem World.drew_junk : (w.junk p).drew = w.junk p.drew := rfl
@[go_sem, simp] theorem World.tape_junk : (w.junk p).tape = w.tape := rfl
@[go_sem] theorem World.junk_junk (q : Behind) : (w.junk p).junk q = w.junk (p.more q) := by simp [World.junk, Behind.more]
end
theorem sA {α : Type _} (l : List α) (i : Nat) (a : α) : l.toArray.setIfInBounds i a = (l.set i a).toArray := List.setIfInBounds_toArray l i a
theorem sZ {α : Type _} {x : α} {xs : List α} {a : α} : (x :: xs).set 0 a = a :: xs := List.set_cons_zero
theorem sS {α : Type _} {x : α} {xs : List α} {i : Nat} {a : α} : (x :: xs).set (i + 1) a = x :: xs.set i a := List.set_cons_succ
theorem gE {α : Type _} {l : List α} {i : Nat} (h : i < l.length) : l[i]? = some l[i] := List.getElem?_eq_getElem h
theorem lM {α : Type _} {β : Type _} {xs : List α} (f : α → β) : (List.map f xs).length = xs.length := List.length_map f
theorem gI {α : Type _} {i : Nat} {a : α} {l : List α} : l[i]? = some a ↔ ∃ h, l[i] = a := List.getElem?_eq_some_iff
theorem gM {α : Type _} {β : Type _} {f : α → β} {l : List α} {i : Nat} : (List.map f l)[i]? = Option.map f l[i]? := List.getElem?_map
theorem mG {α : Type _} {l : List α} {i : Nat} {a : α} (h : l[i]? = some a) : a ∈ l := List.mem_of_getElem? h
theorem lP {α : Type _} {xs ys : List α} : (xs ++ ys).length = xs.length + ys.length := List.length_append
namespace RowKit
theorem Below.rest {w w' : World} (h : Below w.heap.size w w') : ∃ p : Behind, w' = w.junk p := by
 refine ⟨⟨w'.heap.extract w.heap.size w'.heap.size, w'.drawn⟩, ?_⟩
 obtain ⟨ho, ht, hp, hs, hb⟩ := h
 cases w' with | mk heap' tape' drawn' os' output' =>
 cases w with | mk heap tape drawn os output =>
 simp only at ho ht hp hs hb ⊢
 subst ho; subst ht; subst hp
 simp only [World.junk, World.mk.injEq, and_true]
 apply Array.ext_getElem?
 intro k
 by_cases hk : k < heap.size
 · rw [hb k hk, Array.getElem?_append_left hk]
 · rw [Array.getElem?_append_right (by omega), Array.getElem?_extract]; by_cases hk' : k < heap'.size
   · rw [if_pos (by simp; omega)]; congr 1; omega
   · rw [if_neg (by simp; omega)]; exact Array.getElem?_eq_none (by omega)
theorem below_junk (B : Nat) (a w : World) (p : Behind) (h : Below B a w) (hB : B ≤ w.heap.size) : Below B a (w.junk p) :=
 h.trans ⟨rfl, rfl, rfl, by simp, fun k hk => World.heap_junk w p (by omega)⟩
theorem below_of_junk (w : World) (p : Behind) : Below w.heap.size w (w.junk p) := below_junk _ _ _ _ (Below.refl _ _) (Nat.le_refl _)
theorem wp_region_quiet_rest {P : Program} {id : Nat} {Q : Exit → Act → World → Prop} {a : Act} {w : World} {l : List Oper} (hm : P.follows .mixedOrders = true) (hB : Region.lexB .any l.toArray = true)
 (h : wpQuiet P l.toArray (fun w' => ∃ p : Behind, w' = w.junk p) (fun a' => ∀ w', (∃ p : Behind, w' = w.junk p) → Q .normal a' w') l a) : (Code.region id l.toArray true).wp P Q a w :=
 wp_region_quiet (C := fun w' => ∃ p : Behind, w' = w.junk p) hm hB ⟨⟨#[], w.drawn + 1⟩, by simp [World.junk]⟩ (by simpa using h)
theorem calls_in {P : Program} {f : FuncId} {args : Array Value} {w : World} {v : Value} {C : World → Prop}
 (h : Calls P f args w fun e w' => e = .returned v ∧ Below w.heap.size w w') (hC : ∀ w', Below w.heap.size w w' → C w') : Calls P f args w fun e w'' => e = .returned v ∧ C w'' :=
 h.mono fun _ _ ⟨he, hb⟩ => ⟨he, hC _ hb⟩
theorem nl {a b : Nat} {p : Prop} (h : a = b ∨ p) (hn : ¬ a = b := by decide) : p := h.resolve_left hn

theorem QN {P : Program} {ops : Array Oper} {F : Behind → World} {R : Act → World → Prop} {a : Act} (h : ∀ p, R a (F p)) : wpQuiet P ops (fun w' => ∃ p, w' = F p) (fun a => ∀ w1, (∃ p, w1 = F p) → R a w1) [] a := wpQuiet_nil (fun w1 ⟨p, e⟩ => by subst e; exact h p)
theorem aE {P : Program} {f : FuncId} {args : Array Value} {w : World} {E : Ending} {K : Ending → World → Prop} (h : Calls P f args w fun e w' => e = E ∧ Below w.heap.size w w') (k : ∀ p : Behind, K E (w.junk p)) : Calls P f args w K := h.mono fun e w' ⟨he, hb⟩ => by obtain ⟨p, rfl⟩ := hb.rest; subst he; exact k p
theorem aT {P : Program} {f : FuncId} {args : Array Value} {w : World} {v : Value} {K : Ending → World → Prop} (h : Calls P f args w fun e w' => e = .returned v ∧ Below w.heap.size w w') (k : ∀ p : Behind, K (.returned v) (w.junk p)) : Calls P f args w K := h.mono fun e w' ⟨he, hb⟩ => by obtain ⟨p, rfl⟩ := hb.rest; subst he; exact k p
theorem rest1 {w w' : World} {q : Behind} (hb : Below (w.junk q).heap.size (w.junk q) w') : ∃ p : Behind, w' = w.junk p :=
 ((below_of_junk w q).trans (hb.mono (by simp))).rest
theorem rest2 {w w' : World} {A q : Behind} (hb : Below (w.junk (A.more q)).heap.size (w.junk (A.more q)) w') : ∃ p : Behind, w' = w.junk (A.more p) := by
 rw [← World.junk_junk] at hb
 obtain ⟨p, hp⟩ := rest1 hb
 exact ⟨p, by rw [hp, World.junk_junk]⟩
class Bel (a w : World) : Prop where
 below : Below a.heap.size a w
section
variable {a w : World}
instance : Bel a a := ⟨Below.refl _ _⟩
instance {o : Obj} [h : Bel a w] : Bel a (w.alloc o) := ⟨h.below.alloc h.below.size o⟩
instance {q : Behind} [h : Bel a w] : Bel a (w.junk q) := ⟨below_junk _ _ _ _ h.below h.below.size⟩
instance [h : Bel a w] : Bel a w.drew := ⟨h.below.drew⟩
theorem bel (a w : World) [h : Bel a w] : Below a.heap.size a w := h.below
theorem cI {P : Program} {f : FuncId} {args : Array Value} {w w1 : World} {v : Value} [b : Bel w w1] (h : Calls P f args w1 fun e w' => e = .returned v ∧ Below w1.heap.size w1 w') : Calls P f args w1 fun e w'' => e = .returned v ∧ ∃ p : Behind, w'' = w.junk p :=
  calls_in h fun _ hb => (b.below.trans (hb.mono b.below.size)).rest
theorem cJ {P : Program} {f : FuncId} {args : Array Value} {w : World} {A q : Behind} {v : Value} (h : Calls P f args (w.junk (A.more q)) fun e w' => e = .returned v ∧ Below (w.junk (A.more q)).heap.size (w.junk (A.more q)) w') : Calls P f args (w.junk (A.more q)) fun e w'' => e = .returned v ∧ ∃ p : Behind, w'' = w.junk (A.more p) :=
  calls_in h fun _ hb => rest2 hb
end
end RowKit
end Go
namespace Go.RowKit
theorem i64_and_low (n : Int) (m : Nat) (k : Nat) (hk : (BitVec.ofInt 64 (m : Int)).toNat = 2 ^ k - 1) (h2 : k < 63) : bits .and .i64 n m = n % (2 ^ k : Nat) := by
 have key : (BitVec.ofInt 64 n &&& BitVec.ofInt 64 (m : Int)).toNat = (n % ((2 ^ 64 : Nat) : Int)).toNat % 2 ^ k := by
  rw [BitVec.toNat_and, BitVec.toNat_ofInt, hk, Nat.and_two_pow_sub_one_eq_mod]
 have hpos : 0 < 2 ^ k := Nat.two_pow_pos k
 have hlt : 2 ^ k ≤ 2 ^ 62 := Nat.pow_le_pow_right (by omega) (by omega)
 have hmod : (n % ((2 ^ 64 : Nat) : Int)).toNat % 2 ^ k < 2 ^ k := Nat.mod_lt _ hpos
 show IntKind.i64.wrap ((BitVec.ofInt 64 n &&& BitVec.ofInt 64 (m : Int)).toNat : Nat) = n % (2 ^ k : Nat)
 rw [key, IntKind.wrap_i64]
 have e : (((n % ((2 ^ 64 : Nat) : Int)).toNat % 2 ^ k : Nat) : Int) = n % (2 ^ k : Nat) := by
  rw [Int.natCast_emod, Int.toNat_of_nonneg (Int.emod_nonneg _ (by decide))]; exact Int.emod_emod_of_dvd n (Int.natCast_dvd_natCast.2 (Nat.pow_dvd_pow 2 (by omega)))
 omega
@[go_sem] theorem i64_and1 (n : Int) : bits .and .i64 n 1 = n % 2 := i64_and_low n 1 1 (by decide) (by omega)
@[go_sem] theorem i64_and3 (n : Int) : bits .and .i64 n 3 = n % 4 := i64_and_low n 3 2 (by decide) (by omega)
@[go_sem] theorem i64_and7 (n : Int) : bits .and .i64 n 7 = n % 8 := i64_and_low n 7 3 (by decide) (by omega)
@[go_sem] theorem i64_and15 (n : Int) : bits .and .i64 n 15 = n % 16 := i64_and_low n 15 4 (by decide) (by omega)
@[go_sem] theorem i64_and63 (n : Int) : bits .and .i64 n 63 = n % 64 := i64_and_low n 63 6 (by decide) (by omega)
@[go_sem] theorem i64_and255 (n : Int) : bits .and .i64 n 255 = n % 256 := i64_and_low n 255 8 (by decide) (by omega)
class BlockGe (b : Nat) (a : World) : Prop where
 ge : a.heap.size ≤ b
section
variable {a w : World} {b n : Nat}
instance : BlockGe a.heap.size a := ⟨Nat.le_refl _⟩
instance [h : BlockGe n a] : BlockGe (n + b) a := ⟨by have := h.ge; omega⟩
instance {i : Nat} {s : Option Nat} {v : Value} [h : Bel a w] [h2 : BlockGe b a] : Bel a (w.setCell ⟨b, i, s⟩ v) := ⟨h.below.setCell h2.ge v⟩
end
end Go.RowKit
namespace Go
def Blk (w : World) (b : Nat) (c : Array Value) (t : TypeId) : Prop := w.heap[b]? = some (.cells c t (0, 0))
namespace Blk
variable {w w' : World} {b b' i : Nat} {c c' : Array Value} {t t' : TypeId} {v : Value}
theorem lt (h : Blk w b c t) : BlockLt b w := ⟨by
 rcases Nat.lt_or_ge b w.heap.size with hlt | hge
 · exact hlt
 · unfold Blk at h; rw [Array.getElem?_eq_none hge] at h; cases h⟩
theorem cell (h : Blk w b c t) (i : Nat) : w.cell? ⟨b, i, none⟩ = c[i]? := cell_of_row w b i c t (0, 0) h
theorem frozen (h : Blk w b c t) (i : Nat) : w.frozen? ⟨b, i, none⟩ = false := by
 unfold Blk at h
 simp [World.frozen?, h]
theorem new (w : World) (c : Array Value) (t : TypeId) : Blk (w.alloc (.cells c t)) w.heap.size c t := heap_alloc_new w _
theorem new_i (w : World) (c : Array Value) (t : TypeId) (n : Nat) [h : SizeIs w n] : Blk (w.alloc (.cells c t)) n c t := by rw [← h.eq]; exact new w c t
theorem alloc (h : Blk w b c t) (o : Obj) : Blk (w.alloc o) b c t := (RowKit.Below.heap_alloc w o b h.lt.lt).trans h
theorem junk (h : Blk w b c t) (p : Behind) : Blk (w.junk p) b c t := (World.heap_junk w p h.lt.lt).trans h
theorem drew (h : Blk w b c t) : Blk w.drew b c t := h
theorem set_ (h : Blk w b c t) (i : Nat) (v : Value) : Blk (w.setCell ⟨b, i, none⟩ v) b (c.setIfInBounds i v) t := by
 unfold Blk at h ⊢
 simp [World.setCell, Array.getElem?_modify, h]
theorem far (h : Blk w b c t) {a : Addr} (hne : b ≠ a.block) (v : Value) : Blk (w.setCell a v) b c t := (RowKit.Below.heap_setCell w a v b hne).trans h
theorem below {B : Nat} (h : Blk w b c t) (hb : RowKit.Below B w w') (hlt : b < B) : Blk w' b c t := (hb.block b hlt).trans h
theorem ne_ (h : Blk w b c t) (h' : Blk w b' c' t') (hne : t ≠ t') : b ≠ b' := by
 rintro rfl
 unfold Blk at h h'
 rw [h] at h'
 injection h' with h'
 injection h' with _ ht
 exact hne ht
theorem inj (h : Blk w b c t) (h' : Blk w b c' t') : c = c' := by
 unfold Blk at h h'
 rw [h] at h'
 injection h' with h'
 injection h' with hc _
end Blk
structure Keep (S : Nat → Prop) (w w' : World) : Prop where
 os : w'.os = w.os
 tape : w'.tape = w.tape
 output : w'.output = w.output
 size : w.heap.size ≤ w'.heap.size
 block : ∀ k, k < w.heap.size → ¬ S k → w'.heap[k]? = w.heap[k]?
namespace Keep
variable {S S' : Nat → Prop} {a w w' w'' : World}
theorem refl (S : Nat → Prop) (w : World) : Keep S w w := ⟨rfl, rfl, rfl, Nat.le_refl _, fun _ _ _ => rfl⟩
theorem trans (h : Keep S w w') (k : Keep S' w' w'') (hS : ∀ i, i < w.heap.size → S' i → S i) : Keep S w w'' :=
 ⟨k.os.trans h.os, k.tape.trans h.tape, k.output.trans h.output, Nat.le_trans h.size k.size, fun i hi hn => (k.block i (Nat.lt_of_lt_of_le hi h.size) (fun h' => hn (hS i hi h'))).trans (h.block i hi hn)⟩
theorem mono (h : Keep S w w') (hS : ∀ i, i < w.heap.size → S i → S' i) : Keep S' w w' := ⟨h.os, h.tape, h.output, h.size, fun i hi hn => h.block i hi (fun h' => hn (hS i hi h'))⟩
theorem of_below (h : RowKit.Below w.heap.size w w') (S : Nat → Prop) : Keep S w w' := ⟨h.os, h.tape, h.output, h.size, fun i hi _ => h.block i hi⟩
theorem below {B : Nat} (h : Keep S w w') (hB : B ≤ w.heap.size) (hS : ∀ i, i < B → ¬ S i) : RowKit.Below B w w' := ⟨h.os, h.tape, h.output, h.size, fun i hi => h.block i (by omega) (hS i hi)⟩
theorem alloc (h : Keep S a w) (o : Obj) : Keep S a (w.alloc o) :=
 ⟨h.os, h.tape, h.output, Nat.le_trans h.size (by simp), fun i hi hn => (RowKit.Below.heap_alloc w o i (Nat.lt_of_lt_of_le hi h.size)).trans (h.block i hi hn)⟩
theorem junk (h : Keep S a w) (p : Behind) : Keep S a (w.junk p) :=
 ⟨h.os, h.tape, h.output, Nat.le_trans h.size (by simp), fun i hi hn => (World.heap_junk w p (Nat.lt_of_lt_of_le hi h.size)).trans (h.block i hi hn)⟩
theorem drew (h : Keep S a w) : Keep S a w.drew := ⟨h.os, h.tape, h.output, h.size, h.block⟩
theorem setCell (h : Keep S a w) {p : Addr} (hp : S p.block ∨ a.heap.size ≤ p.block) (v : Value) : Keep S a (w.setCell p v) :=
 ⟨h.os, h.tape, h.output, by simpa [World.setCell] using h.size, fun i hi hn => (RowKit.Below.heap_setCell w p v i (by
  rintro rfl; rcases hp with hp | hp
  · exact hn hp
  · omega)).trans (h.block i hi hn)⟩
theorem grown (h : Keep S a w) {row : Option Nat} (hg : w.grownBy w' row) (hr : ∀ k, row = some k → S k ∨ a.heap.size ≤ k) : Keep S a w' :=
 ⟨hg.os.trans h.os, hg.tape.trans h.tape, hg.output.trans h.output, Nat.le_trans h.size hg.size, fun i hi hn => (hg.block i (Nat.lt_of_lt_of_le hi h.size) (fun e => by
  rcases hr i e.symm with h' | h'
  · exact hn h'
  · omega)).trans (h.block i hi hn)⟩
theorem blk (h : Keep S w w') {b : Nat} {c : Array Value} {t : TypeId} (hb : Blk w b c t) (hn : ¬ S b) : Blk w' b c t := (h.block b hb.lt.lt hn).trans hb
theorem own (h : Keep S w w') {base : Nat} {e : TypeId} {size n : Nat} {v : Value} {xs : List Value} (hv : w.ownsRow base e size v n xs) (hn : ∀ k, v.ownBlock = some k → ¬ S k) : w'.ownsRow base e size v n xs := by
 refine ⟨hv.1, ?_⟩
 rcases hv.2 with h0 | ⟨g, cap, cur, rfl, hb, hg, r⟩
 · exact .inl h0
 · exact .inr ⟨g, cap, cur, rfl, hb, (h.block g (Array.getElem?_eq_some_iff.1 hg).1 (hn g (by simp [Value.ownBlock]))).trans hg, r⟩
theorem lt (h : Keep S w w') {b : Nat} (hb : BlockLt b w) : BlockLt b w' := ⟨Nat.lt_of_lt_of_le hb.lt h.size⟩
end Keep
theorem own_form {w : World} {base : Nat} {e : TypeId} {size n : Nat} {v : Value} {xs : List Value} (h : w.ownsRow base e size v n xs) : ∃ a cp, v = .slice a n cp := by
 rcases h.2 with ⟨rfl, rfl⟩ | ⟨g', cap, cur, rfl, _⟩
 · exact ⟨_, _, rfl⟩
 · exact ⟨_, _, rfl⟩
theorem addr_add0 (b j : Nat) : (⟨b, 0, none⟩ : Addr).add j = ⟨b, j, none⟩ := by unfold Addr.add; split <;> simp_all
theorem news_new (w : World) (l : List Value) (t : TypeId) (n : Nat) [h : SizeIs w n] : ∀ j u, l[j]? = some u → (w.alloc (.cells l.toArray t)).cell? ((⟨n, 0, none⟩ : Addr).add j) = some u := by
 intro j u hu
 rw [addr_add0, (Blk.new_i w l.toArray t n).cell j]
 simpa using hu
end Go
namespace Go
section
variable {P : Program} {ops : Array Oper} {S : World → Prop} {E : List Nat} {lx : Bool}
def Oper.eff (P : Program) (o : Oper) (a : Act) (w : World) (K : Value → World → Prop) : Prop :=
 match (execOp a.eval o).run P w with
 | .ok (.value v) w' => K v w'
 | .ok .skip w' => K undef w'
 | .ok (.enter f args) w' => Calls P f args w' (fun e w'' => ∃ v, e = .returned v ∧ K v w'')
 | _ => False
theorem Oper.eff_mono {o : Oper} {a : Act} {w : World} {K K' : Value → World → Prop} (h : o.eff P a w K) (hk : ∀ v w', K v w' → K' v w') : o.eff P a w K' := by
 unfold Oper.eff at *
 split <;> simp_all
 rename_i h1
 exact h.mono fun e w'' ⟨v, he, hv⟩ => ⟨v, he, hk _ _ hv⟩
theorem Oper.eff_some {o : Oper} {a : Act} {w : World} {K : Value → World → Prop} (h : o.eff P a w K) : ∃ v w', K v w' := by
 unfold Oper.eff at h
 split at h
 · exact ⟨_, _, h⟩
 · exact ⟨_, _, h⟩
 · obtain ⟨e, w', _, ⟨v, _, hk⟩, _⟩ := h []; exact ⟨v, w', hk⟩
 · exact h.elim
theorem Oper.eff_same {o : Oper} {a a' : Act} {w : World} {K : Value → World → Prop} (h : o.eff P a w K) (he : execOp a'.eval o = execOp a.eval o) : o.eff P a' w K := by
 unfold Oper.eff at *
 rw [he]
 exact h
theorem Oper.wp_of_eff {o : Oper} {a : Act} {w : World} {K : Value → World → Prop} {K' : Act → World → Prop} {Q : Exit → Act → World → Prop} (h : o.eff P a w K) (hk : ∀ v w', K v w' → K' (a.put o.dst v) w') : o.wp P a w K' Q := by
 unfold Oper.eff at h
 unfold Oper.wp
 generalize (execOp a.eval o).run P w = r at *
 cases r with
 | ok n w' =>
   cases n <;> simp only [Oper.upon] at h ⊢ <;> first | exact hk _ _ h | exact h.elim | skip
   exact h.mono fun e w'' ⟨v, he, hv⟩ => by subst he; exact hk _ _ hv
 | halt x w' => exact h.elim
def YieldsS (P : Program) (ops : Array Oper) (S : World → Prop) (o : Oper) (v : Value) (a : Act) : Prop :=
 (Region.wanted o (yielded ops a.tmps) = true ∧ ∀ w, S w → (execOp a.eval o).run P w = .ok (.value v) w) ∨
 (Region.wanted o (yielded ops a.tmps) = false ∧ v = undef)
theorem YieldsS.same {o : Oper} {v : Value} {a a' : Act} (hy : YieldsS P ops S o v a) (he : execOp a'.eval o = execOp a.eval o)
 (hw : Region.wanted o (yielded ops a'.tmps) = Region.wanted o (yielded ops a.tmps)) : YieldsS P ops S o v a' := by
 unfold YieldsS at *
 rw [he, hw]
 exact hy
theorem YieldsS.one {o : Oper} {v v' : Value} {a : Act} {w : World} (hS : S w) (h : YieldsS P ops S o v a) (h' : YieldsS P ops S o v' a) : v = v' := by
 rcases h with ⟨hw, h⟩ | ⟨hw, rfl⟩ <;> rcases h' with ⟨hw', h'⟩ | ⟨hw', rfl⟩
 · have := (h w hS).symm.trans (h' w hS); simpa using this
 · rw [hw] at hw'; cases hw'
 · rw [hw] at hw'; cases hw'
 · rfl
def wpE (P : Program) (ops : Array Oper) (S : World → Prop) (E : List Nat) (lx : Bool) (Q : Act → World → Prop) : List Nat → Act → World → Prop
 | [], a, w => Q a w
 | i :: rest, a, w =>
   match ops[i]? with
   | none => False
   | some o =>
     if E.contains i = true ∧ Region.wanted o (yielded ops a.tmps) = true then
      o.eff P a w fun v w' => (S w' ∨ (lx = true ∧ i + 1 = ops.size)) ∧ wpE P ops S E lx Q rest (a.put o.dst v) w'
     else ∃ v, YieldsS P ops S o v a ∧ wpE P ops S E lx Q rest (a.put o.dst v) w
theorem apart_put {x y : Oper} (h : x.apart ops y = true) (hx : ∀ cs b, x.op ≠ .select cs b) (a : Act) (v : Value) :
 execOp (a.put y.dst v).eval x = execOp a.eval x ∧ Region.wanted x (yielded ops (a.put y.dst v).tmps) = Region.wanted x (yielded ops a.tmps) := by
 obtain ⟨_, _, h3⟩ := Oper.apart_spec h
 exact ⟨execOp_put x hx a y.dst v h3, wanted_put x a y.dst v h3⟩
theorem apart_put' {x y : Oper} (h : x.apart ops y = true) (hy : ∀ cs b, y.op ≠ .select cs b) (a : Act) (v : Value) :
 execOp (a.put x.dst v).eval y = execOp a.eval y ∧ Region.wanted y (yielded ops (a.put x.dst v).tmps) = Region.wanted y (yielded ops a.tmps) := by
 obtain ⟨h1, _, _⟩ := Oper.apart_spec h
 exact ⟨execOp_put y hy a x.dst v h1, wanted_put y a x.dst v h1⟩
variable {Q : Act → World → Prop}
theorem wpE_moveQ (hsel : ∀ (j : Nat) (o : Oper) cs b, ops[j]? = some o → o.op ≠ .select cs b) {q : Nat} {oq : Oper} (hq : ops[q]? = some oq) (l2 : List Nat) :
 ∀ (l1 : List Nat) (a : Act) (w : World), S w → (∀ k ∈ l1, k + 1 ≠ ops.size ∧ ∀ ok, ops[k]? = some ok → ok.apart ops oq = true) →
  (E.contains q = false ∨ Region.wanted oq (yielded ops a.tmps) = false) →
  wpE P ops S E lx Q (l1 ++ q :: l2) a w → ∃ v, YieldsS P ops S oq v a ∧ wpE P ops S E lx Q (l1 ++ l2) (a.put oq.dst v) w
 | [], a, w, _, _, hne, h => by
   simp only [List.nil_append, wpE, hq] at h; rw [if_neg (by rintro ⟨h1, h2⟩; rcases hne with hne | hne <;> simp_all)] at h; exact h
 | k :: l1, a, w, hS, hl, hne, h => by
   simp only [List.cons_append, wpE] at h ⊢; obtain ⟨hk1, hk2⟩ := hl k (List.mem_cons_self); cases hk : ops[k]? with
   | none => rw [hk] at h; exact h.elim
   | some ok =>
     rw [hk] at h; have hap := hk2 ok hk; have hl' : ∀ k ∈ l1, k + 1 ≠ ops.size ∧ ∀ ok, ops[k]? = some ok → ok.apart ops oq = true := fun j hj => hl j (List.mem_cons_of_mem _ hj)
     have hsk := fun cs b => hsel k ok cs b hk
     have hsq := fun cs b => hsel q oq cs b hq
     have hne' : ∀ u, E.contains q = false ∨ Region.wanted oq (yielded ops (a.put ok.dst u).tmps) = false := fun u => by
      rw [(apart_put' hap hsq a u).2]; exact hne
     simp only at h ⊢
     split at h
     · rename_i hc
       obtain ⟨v0, w0, hS0, h0⟩ := Oper.eff_some h; have hS0' : S w0 := hS0.resolve_right (fun e => hk1 e.2); obtain ⟨v, hv, _⟩ := wpE_moveQ hsel hq l2 l1 _ w0 hS0' hl' (hne' v0) h0; have hva : YieldsS P ops S oq v a := hv.same (apart_put' hap hsq a v0).1.symm (apart_put' hap hsq a v0).2.symm; refine ⟨v, hva, ?_⟩; rw [if_pos ⟨hc.1, by rw [(apart_put hap hsk a v).2]; exact hc.2⟩]; refine Oper.eff_same (Oper.eff_mono h fun v1 w1 ⟨hS1, h1⟩ => ?_) (apart_put hap hsk a v).1; have hS1' : S w1 := hS1.resolve_right (fun e => hk1 e.2); obtain ⟨v2, hv2, h2⟩ := wpE_moveQ hsel hq l2 l1 _ w1 hS1' hl' (hne' v1) h1; have e : v2 = v := YieldsS.one hS1' hv2 (hva.same (apart_put' hap hsq a v1).1 (apart_put' hap hsq a v1).2); subst e; refine ⟨.inl hS1', ?_⟩; rw [Act.put_comm a v2 v1 (fun d hd hd' => (Oper.apart_spec hap).2.1 d hd' hd)]; exact h2
     · rename_i hc
       obtain ⟨u, hu, h1⟩ := h; obtain ⟨v, hv, h2⟩ := wpE_moveQ hsel hq l2 l1 _ w hS hl' (hne' u) h1; have hva : YieldsS P ops S oq v a := hv.same (apart_put' hap hsq a u).1.symm (apart_put' hap hsq a u).2.symm; refine ⟨v, hva, ?_⟩; rw [if_neg (fun e => hc ⟨e.1, by rw [(apart_put hap hsk a v).2] at e; exact e.2⟩)]; refine ⟨u, hu.same (apart_put hap hsk a v).1 (apart_put hap hsk a v).2, ?_⟩; rw [Act.put_comm a v u (fun d hd hd' => (Oper.apart_spec hap).2.1 d hd' hd)]; exact h2
theorem wpE_moveE (hsel : ∀ (j : Nat) (o : Oper) cs b, ops[j]? = some o → o.op ≠ .select cs b) {q : Nat} {oq : Oper} (hq : ops[q]? = some oq) (hE : E.contains q = true) (l2 : List Nat) :
 ∀ (l1 : List Nat) (a : Act) (w : World), (∀ k ∈ l1, E.contains k = false ∧ ∀ ok, ops[k]? = some ok → ok.apart ops oq = true) →
  Region.wanted oq (yielded ops a.tmps) = true →
  wpE P ops S E lx Q (l1 ++ q :: l2) a w → oq.eff P a w fun v w' => (S w' ∨ (lx = true ∧ q + 1 = ops.size)) ∧ wpE P ops S E lx Q (l1 ++ l2) (a.put oq.dst v) w'
 | [], a, w, _, hw, h => by
   simp only [List.nil_append, wpE, hq] at h; rw [if_pos ⟨hE, hw⟩] at h; exact h
 | k :: l1, a, w, hl, hw, h => by
   simp only [List.cons_append, wpE] at h ⊢; obtain ⟨hk1, hk2⟩ := hl k (List.mem_cons_self); cases hk : ops[k]? with
   | none => rw [hk] at h; exact h.elim
   | some ok =>
     rw [hk] at h; have hap := hk2 ok hk; have hsk := fun cs b => hsel k ok cs b hk
     have hsq := fun cs b => hsel q oq cs b hq
     simp only at h ⊢; rw [if_neg (by rintro ⟨h1, _⟩; rw [hk1] at h1; cases h1)] at h; obtain ⟨u, hu, h1⟩ := h; have h2 := wpE_moveE hsel hq hE l2 l1 _ w (fun j hj => hl j (List.mem_cons_of_mem _ hj)) (by rw [(apart_put' hap hsq a u).2]; exact hw) h1; refine Oper.eff_same (Oper.eff_mono h2 fun v w' ⟨hS', h3⟩ => ⟨hS', ?_⟩) (apart_put' hap hsq a u).1.symm; rw [if_neg (by rintro ⟨h1, _⟩; rw [hk1] at h1; cases h1)]; refine ⟨u, hu.same (apart_put hap hsk a v).1 (apart_put hap hsk a v).2, ?_⟩; rw [← Act.put_comm a u v (fun d hd hd' => (Oper.apart_spec hap).2.1 d hd hd')]; exact h3
end
def Region.maskOk (ops : Array Oper) (M : Array Nat) : Bool :=
 (List.range ops.size).all fun i => match ops[i]? with
  | some o => (M.getD i 0 == o.after.toList.foldl (fun s e => if Region.binds .any e then s ||| 2 ^ e.on ||| M.getD e.on 0 else s) 0) && o.after.toList.all fun e => !Region.binds .any e || decide (e.on < i)
  | none => true
theorem mask_fold (M : Array Nat) (j : Nat) : ∀ (l : List Edge) (s : Nat), (l.foldl (fun s e => if Region.binds .any e then s ||| 2 ^ e.on ||| M.getD e.on 0 else s) s).testBit j = true →
 s.testBit j = true ∨ ∃ e ∈ l, Region.binds .any e = true ∧ (e.on = j ∨ (M.getD e.on 0).testBit j = true)
 | [], s, h => .inl h
 | e :: l, s, h => by
   rcases mask_fold M j l _ h with h1 | ⟨e', he', hb, h2⟩
   · dsimp only at h1; by_cases hb : Region.binds .any e = true
     · rw [if_pos hb] at h1; simp only [Nat.testBit_or, Bool.or_eq_true, Nat.testBit_two_pow, decide_eq_true_eq] at h1; rcases h1 with (h1 | h1) | h1
       · exact .inl h1
       · exact .inr ⟨e, List.mem_cons_self, hb, .inl h1⟩
       · exact .inr ⟨e, List.mem_cons_self, hb, .inr h1⟩
     · rw [if_neg hb] at h1; exact .inl h1
   · exact .inr ⟨e', List.mem_cons_of_mem _ he', hb, h2⟩
theorem mask_listed {ops : Array Oper} {M : Array Nat} (hM : Region.maskOk ops M = true) {listed : Array Bool}
 (hcl : ∀ i o, ops[i]? = some o → listed.getD i true = true → i < listed.size → ∀ e ∈ o.after, Region.binds .any e = true → listed.getD e.on false = true) (hsz : listed.size = ops.size) (j : Nat) :
 ∀ (n i : Nat) (o : Oper), i < n → ops[i]? = some o → (∀ e ∈ o.after, Region.binds .any e = true → listed.getD e.on false = true) → (M.getD i 0).testBit j = true → listed.getD j false = true
 | 0, i, _, hi, _, _, _ => by omega
 | n + 1, i, o, hi, ho, hd, ht => by
   have hlt : i < ops.size := (Array.getElem?_eq_some_iff.1 ho).1; have h1 := List.all_eq_true.1 hM i (List.mem_range.2 hlt); rw [ho] at h1; simp only [Bool.and_eq_true, beq_iff_eq] at h1; rw [h1.1] at ht; rcases mask_fold M j _ _ ht with h0 | ⟨e, he, hb, h2⟩
   · simp at h0
   · have hel := hd e (by simpa using he) hb; rcases h2 with h2 | h2
     · rw [← h2]; exact hel
     · have hon : e.on < i := by
        have := List.all_eq_true.1 h1.2 e he; simpa [hb] using this
       have hlt' : e.on < ops.size := by omega
       obtain ⟨o', ho'⟩ : ∃ o', ops[e.on]? = some o' := ⟨_, Array.getElem?_eq_getElem hlt'⟩
       refine mask_listed hM hcl hsz j n e.on o' (by omega) ho' (hcl e.on o' ho' ?_ (by omega)) h2; have hs : e.on < listed.size := by omega
       simp [hs] at hel ⊢; exact hel
def Region.effB (ops : Array Oper) (M : Array Nat) (E : List Nat) (lx : Bool) : Bool :=
 Region.noSelect ops && Region.maskOk ops M && (List.range ops.size).all fun i => (List.range i).all fun j =>
  match ops[i]?, ops[j]? with
  | some oi, some oj => ((M.getD i 0).testBit j || oj.apart ops oi) && (!(E.contains i && E.contains j) || (M.getD i 0).testBit j) && (!(lx && i + 1 == ops.size) || (M.getD i 0).testBit j)
  | _, _ => false
theorem effB_pair {ops : Array Oper} {M : Array Nat} {E : List Nat} {lx : Bool} (h : Region.effB ops M E lx = true) {i j : Nat} {oi oj : Oper} (hi : ops[i]? = some oi) (hj : ops[j]? = some oj) (hji : j < i) (hno : (M.getD i 0).testBit j = false) :
 oj.apart ops oi = true ∧ (E.contains i = true → E.contains j = false) ∧ (lx = true → i + 1 ≠ ops.size) := by
 have hlt : i < ops.size := (Array.getElem?_eq_some_iff.1 hi).1
 simp only [Region.effB, Bool.and_eq_true] at h
 have h1 := List.all_eq_true.1 (List.all_eq_true.1 h.2 i (List.mem_range.2 hlt)) j (List.mem_range.2 hji)
 rw [hi, hj] at h1
 simp only [hno, Bool.false_or, Bool.or_false, Bool.and_eq_true, Bool.not_eq_true', Bool.and_eq_false_iff] at h1
 refine ⟨h1.1.1, fun he => ?_, fun hl he => ?_⟩
 · rcases h1.1.2 with h2 | h2
   · rw [he] at h2; cases h2
   · exact h2
 · rcases h1.2 with h2 | h2
   · rw [hl] at h2; cases h2
   · simp [he] at h2
section
variable {P : Program} {ops : Array Oper} {S : World → Prop} {E : List Nat} {lx : Bool} {M : Array Nat} {Q : Exit → Act → World → Prop}
theorem wpE_any (hB : Region.effB ops M E lx = true) : ∀ (n : Nat) (R : List Nat) (listed : Array Bool) (a : Act) (w : World), R.length = n → listed.size = ops.size →
 (∀ i o, ops[i]? = some o → listed.getD i true = true → i < listed.size → ∀ e ∈ o.after, Region.binds .any e = true → listed.getD e.on false = true) →
 (∀ j, j < ops.size → (listed.getD j true = false ↔ j ∈ R)) → R.Pairwise (· < ·) → (∀ j ∈ R, j < ops.size) → (R = [] ∨ S w) →
 wpE P ops S E lx (fun a w => Q .normal a w) R a w → wpAny P .any ops Q n listed a w := by
 have hB' := hB
 simp only [Region.effB, Bool.and_eq_true] at hB'
 obtain ⟨⟨hsel0, hM⟩, _⟩ := hB'
 have hsel := Region.noSelect_spec hsel0
 intro n
 induction n with
 | zero =>
   intro R listed a w hn hsz hcl hR hso hlt hS h; obtain rfl : R = [] := List.eq_nil_of_length_eq_zero hn; refine ⟨List.eq_nil_iff_forall_not_mem.2 fun i hi => ?_, by simpa [wpE] using h⟩; obtain ⟨h0, o, ho, _⟩ := mem_ready.1 hi; have := (hR i (Array.getElem?_eq_some_iff.1 ho).1).1 h0; cases this
 | succ n ih =>
   intro R listed a w hn hsz hcl hR hso hlt hS h; have hSw : S w := by
    rcases hS with hS | hS
    · subst hS; simp at hn
    · exact hS
   have un : ∀ j, j < ops.size → j ∉ R → listed.getD j false = true := fun j hj hjR => by
    have h1 : ¬ listed.getD j true = false := fun e => hjR ((hR j hj).1 e)
    have hs : j < listed.size := by omega
    simp [hs] at h1 ⊢; exact h1
   refine ⟨fun h0 => ?_, fun i hi => ?_⟩
   · exfalso
     match R, hn with
     | r :: R', _ =>
       have hr : r < ops.size := hlt r (List.mem_cons_self); have hmem : r ∈ Region.ready .any ops listed := by
        refine mem_ready.2 ⟨(hR r hr).2 (List.mem_cons_self), _, Array.getElem?_eq_getElem hr, fun e he hb => ?_⟩; have h1 := List.all_eq_true.1 hM r (List.mem_range.2 hr); rw [Array.getElem?_eq_getElem hr] at h1; simp only [Bool.and_eq_true] at h1; have hon : e.on < r := by
         have := List.all_eq_true.1 h1.2 e (by simpa using he); simpa [hb] using this
        refine un e.on (by omega) fun hmem => ?_
        rcases List.mem_cons.1 hmem with h2 | h2
        · omega
        · have := (List.pairwise_cons.1 hso).1 _ h2; omega
       rw [h0] at hmem; cases hmem
   · obtain ⟨hi0, oi, hoi, hdep⟩ := mem_ready.1 hi; have hil : i < ops.size := (Array.getElem?_eq_some_iff.1 hoi).1; have hiR : i ∈ R := (hR i hil).1 hi0; obtain ⟨l1, l2, rfl⟩ := List.append_of_mem hiR; have hso' := List.pairwise_append.1 hso; have hl1 : ∀ k ∈ l1, k < i := fun k hk => hso'.2.2 k hk i (List.mem_cons_self)
     have hl2 : ∀ k ∈ l2, i < k := (List.pairwise_cons.1 hso'.2.1).1; have hpair : ∀ k ∈ l1, ∀ ok, ops[k]? = some ok → ok.apart ops oi = true ∧ (E.contains i = true → E.contains k = false) ∧ (lx = true → i + 1 ≠ ops.size) := fun k hk ok hok => by
      refine effB_pair hB hoi hok (hl1 k hk) ?_; rw [← Bool.not_eq_true]; intro ht; have h1 := mask_listed hM hcl hsz k (i + 1) i oi (by omega) hoi hdep ht; have h2 := (hR k (hlt k (List.mem_append_left _ hk))).2 (List.mem_append_left _ hk); have hs : k < listed.size := by have := hl1 k hk; omega
      simp [hs] at h1 h2; rw [h1] at h2; cases h2
     have hsz' : (listed.setIfInBounds i true).size = ops.size := by simpa using hsz
     have hcl' : ∀ j o, ops[j]? = some o → (listed.setIfInBounds i true).getD j true = true → j < (listed.setIfInBounds i true).size → ∀ e ∈ o.after, Region.binds .any e = true → (listed.setIfInBounds i true).getD e.on false = true := by
      intro j o ho hj hjs e he hb; by_cases hij : i = j
      · subst hij; have : o = oi := Option.some.inj (ho.symm.trans hoi); subst this; exact getD_set_true (hdep e he hb)
      · rw [getD_set_ne true hij] at hj; exact getD_set_true (hcl j o ho hj (by simpa using hjs) e he hb)
     have hR' : ∀ j, j < ops.size → ((listed.setIfInBounds i true).getD j true = false ↔ j ∈ l1 ++ l2) := by
      intro j hj; by_cases hij : i = j
      · subst hij; constructor
        · intro hf; have hs : i < listed.size := by omega
          simp [hs] at hf
        · intro hm; rcases List.mem_append.1 hm with hm | hm
          · have := hl1 _ hm; omega
          · have := hl2 _ hm; omega
      · rw [getD_set_ne true hij, hR j hj]; simp only [List.mem_append, List.mem_cons]; constructor
        · rintro (h1 | h1 | h1)
          · exact .inl h1
          · exact absurd h1.symm hij
          · exact .inr h1
        · rintro (h1 | h1)
          · exact .inl h1
          · exact .inr (.inr h1)
     have hso2 : (l1 ++ l2).Pairwise (· < ·) := hso.sublist (List.Sublist.append_left (List.sublist_cons_self i l2) l1); have hlt2 : ∀ j ∈ l1 ++ l2, j < ops.size := fun j hj => hlt j (by
      rcases List.mem_append.1 hj with h1 | h1
      · exact List.mem_append_left _ h1
      · exact List.mem_append_right _ (List.mem_cons_of_mem _ h1))
     have hlen : (l1 ++ l2).length = n := by simp at hn ⊢; omega
     unfold wpOp; simp only [hoi]; by_cases hc : E.contains i = true ∧ Region.wanted oi (yielded ops a.tmps) = true
     · have h1 := wpE_moveE hsel hoi hc.1 l2 l1 a w (fun k hk => ⟨by
        obtain ⟨ok, hok⟩ : ∃ ok, ops[k]? = some ok := ⟨_, Array.getElem?_eq_getElem (hlt k (List.mem_append_left _ hk))⟩
        exact (hpair k hk ok hok).2.1 hc.1, fun ok hok => (hpair k hk ok hok).1⟩) hc.2 h
       rw [if_pos hc.2]; refine .inl (Oper.wp_of_eff h1 fun v w' ⟨hS', h2⟩ => ih _ _ _ _ hlen hsz' hcl' hR' hso2 hlt2 ?_ h2); rcases hS' with hS' | ⟨hl, he⟩
       · exact .inr hS'
       · refine .inl ?_; have e1 : l1 = [] := List.eq_nil_iff_forall_not_mem.2 fun k hk => by
          obtain ⟨ok, hok⟩ : ∃ ok, ops[k]? = some ok := ⟨_, Array.getElem?_eq_getElem (hlt k (List.mem_append_left _ hk))⟩
          exact (hpair k hk ok hok).2.2 hl he
         have e2 : l2 = [] := List.eq_nil_iff_forall_not_mem.2 fun k hk => by
          have h3 := hl2 k hk; have h4 := hlt2 k (List.mem_append_right _ hk); omega
         rw [e1, e2]; rfl
     · obtain ⟨v, hv, h1⟩ := wpE_moveQ hsel hoi l2 l1 a w hSw (fun k hk => ⟨by have := hl1 k hk; omega, fun ok hok => (hpair k hk ok hok).1⟩) (by
        rcases Bool.eq_false_or_eq_true (E.contains i) with h2 | h2
        · exact .inr (by rw [← Bool.not_eq_true]; exact fun h3 => hc ⟨h2, h3⟩)
        · exact .inl h2) h
       have h2 := ih _ _ _ _ hlen hsz' hcl' hR' hso2 hlt2 (.inr hSw) h1; rcases hv with ⟨hw, hv⟩ | ⟨hw, rfl⟩
       · rw [if_pos hw]; refine .inl ?_; unfold Oper.wp; rw [hv w hSw]; exact h2
       · rw [if_neg (by rw [hw]; exact Bool.false_ne_true)]; exact h2
def wpL (P : Program) (ops : Array Oper) (S : World → Prop) (E : List Nat) (lx : Bool) (Q : Act → World → Prop) : Nat → List Oper → Act → World → Prop
 | _, [], a, w => Q a w
 | k, o :: rest, a, w =>
   if E.contains k = true ∧ Region.wanted o (yielded ops a.tmps) = true then
    o.eff P a w fun v w' => (S w' ∨ (lx = true ∧ k + 1 = ops.size)) ∧ wpL P ops S E lx Q (k + 1) rest (a.put o.dst v) w'
   else ∃ v, YieldsS P ops S o v a ∧ wpL P ops S E lx Q (k + 1) rest (a.put o.dst v) w
theorem wpE_of_wpL {Q : Act → World → Prop} : ∀ (l : List Oper) (k : Nat) (a : Act) (w : World), (∀ j, l[j]? = ops[k + j]? ∨ l.length ≤ j) → wpL P ops S E lx Q k l a w → wpE P ops S E lx Q (List.range' k l.length) a w
 | [], _, _, _, _, h => by simpa [wpL, wpE] using h
 | o :: l, k, a, w, hl, h => by
   have h0 : ops[k]? = some o := by
    rcases hl 0 with h0 | h0
    · simpa using h0.symm
    · simp at h0
   have hl' : ∀ j, l[j]? = ops[k + 1 + j]? ∨ l.length ≤ j := fun j => by
    rcases hl (j + 1) with h1 | h1
    · left; rw [show k + 1 + j = k + (j + 1) by omega, ← h1]; simp
    · right; simp at h1; omega
   simp only [List.length_cons, List.range'_succ, wpE, h0]; simp only [wpL] at h
   split at h
   · rename_i hc
     rw [if_pos hc]; exact Oper.eff_mono h fun v w' ⟨h1, h2⟩ => ⟨h1, wpE_of_wpL l (k + 1) _ w' hl' h2⟩
   · rename_i hc
     rw [if_neg hc]; obtain ⟨v, h1, h2⟩ := h; exact ⟨v, h1, wpE_of_wpL l (k + 1) _ w hl' h2⟩
theorem wp_region_eff {id : Nat} {a : Act} {w : World} {l : List Oper} (E : List Nat) (lx : Bool) (S : World → Prop) (hm : P.follows .mixedOrders = true) (hB : Region.effB l.toArray (Region.before l.toArray) E lx = true)
 (hS : S w.drew) (h : wpL P l.toArray S E lx (fun a' w' => Q .normal a' w') 0 l a w.drew) : (Code.region id l.toArray true).wp P Q a w := by
 have h' : wpE P l.toArray S E lx (fun a' w' => Q .normal a' w') (List.range l.length) a w.drew := by
  rw [List.range_eq_range']; exact wpE_of_wpL l 0 a w.drew (fun j => .inl (by simp)) h
 refine wp_region_any hm (wpE_any (S := S) (E := E) (lx := lx) (M := Region.before l.toArray) hB _ (List.range l.length) _ _ _ (by simp) (by simp) ?_ ?_ List.pairwise_lt_range (by simp) (.inr hS) h')
 · intro i o _ hl hs; exfalso; simp at hs; simp [hs] at hl
 · intro j hj; simp at hj; simp [hj]
end
attribute [go_sem] Oper.eff
section
variable {P : Program} {ops : Array Oper} {S : World → Prop} {E : List Nat} {lx : Bool} {Q : Act → World → Prop} {o : Oper} {a : Act} {w : World}
theorem wpL_look {k : Nat} {l : List Oper} (hE : E.contains k = false) (hw : Region.wanted o (yielded ops a.tmps) = true)
 (h : ∃ v : Value, (∀ w', S w' → (execOp a.eval o).run P w' = .ok (.value v) w') ∧ wpL P ops S E lx Q (k + 1) l (a.put o.dst v) w) : wpL P ops S E lx Q k (o :: l) a w := by
 obtain ⟨v, h1, h2⟩ := h
 simp only [wpL]
 rw [if_neg (by rintro ⟨h1, _⟩; rw [hE] at h1; cases h1)]
 exact ⟨v, .inl ⟨hw, h1⟩, h2⟩
theorem wpL_act {k : Nat} {l : List Oper} (hE : E.contains k = true) (hw : Region.wanted o (yielded ops a.tmps) = true)
 (h : o.eff P a w fun v w' => (S w' ∨ (lx = true ∧ k + 1 = ops.size)) ∧ wpL P ops S E lx Q (k + 1) l (a.put o.dst v) w') : wpL P ops S E lx Q k (o :: l) a w := by
 simp only [wpL]
 rw [if_pos ⟨hE, hw⟩]
 exact h
theorem wpL_end {k : Nat} (h : Q a w) : wpL P ops S E lx Q k [] a w := h
theorem eff_call {K : Value → World → Prop} (f : FuncId) (args : Array Value) (hr : (execOp a.eval o).run P w = .ok (.enter f args) w) (h : Calls P f args w fun e w' => ∃ v, e = .returned v ∧ K v w') : o.eff P a w K := by
 unfold Oper.eff
 rw [hr]
 exact h
end
theorem wpL_do {P : Program} {ops : Array Oper} {S : World → Prop} {E : List Nat} {lx : Bool} {Q : Act → World → Prop} {o : Oper} {a : Act} {w : World} {k : Nat} {l : List Oper} (hE : E.contains k = true) (hw : Region.wanted o (yielded ops a.tmps) = true)
 (h : ∃ (v : Value) (w' : World), (execOp a.eval o).run P w = .ok (.value v) w' ∧ (S w' ∨ (lx = true ∧ k + 1 = ops.size)) ∧ wpL P ops S E lx Q (k + 1) l (a.put o.dst v) w') : wpL P ops S E lx Q k (o :: l) a w := by
 obtain ⟨v, w', h1, h2⟩ := h
 refine wpL_act hE hw ?_
 unfold Oper.eff
 rw [h1]
 exact h2
theorem wpL_skip {P : Program} {ops : Array Oper} {S : World → Prop} {E : List Nat} {lx : Bool} {Q : Act → World → Prop} {o : Oper} {a : Act} {w : World} {k : Nat} {l : List Oper} (hE : E.contains k = true) (hw : Region.wanted o (yielded ops a.tmps) = true)
 (h : ∃ (w' : World), (execOp a.eval o).run P w = .ok .skip w' ∧ (S w' ∨ (lx = true ∧ k + 1 = ops.size)) ∧ wpL P ops S E lx Q (k + 1) l (a.put o.dst undef) w') : wpL P ops S E lx Q k (o :: l) a w := by
 obtain ⟨w', h1, h2⟩ := h
 refine wpL_act hE hw ?_
 unfold Oper.eff
 rw [h1]
 exact h2
end Go
namespace Go
section
variable {P : Program} {ops : Array Oper} {C : World → Prop} {Q : Act → Prop} {a : Act} {o : Oper} {rest : List Oper}
structure WQ (P : Program) (ops : Array Oper) (C : World → Prop) (Q : Act → Prop) (l : List Oper) (a : Act) : Prop where
 out : wpQuiet P ops C Q l a
theorem WQ_step (h : ∀ K : Act → Prop, (∀ a, WQ P ops C Q rest a → K a) → if Region.wanted o (yielded ops a.tmps) then o.quiet P a C K else K (a.put o.dst undef)) : WQ P ops C Q (o :: rest) a :=
 ⟨wpQuiet_step fun K hK => h K fun a ha => hK a ha.out⟩
theorem WQ_nil (h : Q a) : WQ P ops C Q [] a := ⟨wpQuiet_nil h⟩
theorem WN {F : Behind → World} {R : Act → World → Prop} (h : ∀ p, R a (F p)) : WQ P ops (fun w' => ∃ p, w' = F p) (fun a => ∀ w1, (∃ p, w1 = F p) → R a w1) [] a := ⟨wpQuiet_nil (fun w1 ⟨p, e⟩ => by subst e; exact h p)⟩
end
end Go
namespace Go.Proofs.YtmkapobnfigedaaGreatDoor
open Go.RowKit
theorem width_pos (s : ByteArray) (pos : Nat) (h : pos < s.size) : 1 ≤ (Utf8.decode s pos).2 := by
 by_cases ha : (s[pos]'h).toNat < 128
 · rw [decode_ascii s pos h ha]; exact Nat.le_refl _
 · exact (decode_high s pos h (by omega)).2
def hashFrom (s : ByteArray) : Nat → Nat → Int → Int
 | 0, _, h => h
 | b + 1, pos, h => if pos < s.size then hashFrom s b (pos + (Utf8.decode s pos).2) ((31 * h + (Utf8.decode s pos).1) % 4294967296) else h
theorem hashFrom_end (s : ByteArray) (b pos : Nat) (h : Int) (hp : ¬ pos < s.size) : hashFrom s b pos h = h := by
 cases b with
 | zero => rfl
 | succ b => simp [hashFrom, hp]
theorem hashFrom_lt (s : ByteArray) : ∀ b pos h, 0 ≤ h ∧ h < 4294967296 → 0 ≤ hashFrom s b pos h ∧ hashFrom s b pos h < 4294967296
 | 0, _, h, hh => hh
 | b + 1, pos, h, hh => by
   unfold hashFrom
   split
   · exact hashFrom_lt s b _ _ (by omega)
   · exact hh
def hashM (s : ByteArray) : Int := hashFrom s s.size 0 7
theorem hash166 (s : ByteArray) (w : World) :
 Calls Tryz.prog 169 #[.string s] w fun e w' => e = .returned (.int .i64 (hashM s)) ∧ Below w.heap.size w w' := by
 have hb := hashFrom_lt s s.size 0 7 (by omega)
 go_enter Tryz.func169, Tryz.ntmps169
 go_wp2_with fail
 go_loopw [3] (fun n w' => ∃ (pos b : Nat) (acc : Int), w' = w.iter s pos ∧ n = .int .u32 acc ∧ hashFrom s b pos acc = hashM s ∧ s.size ≤ pos + b) (fun _ w' => s.size - w'.iterPos w.heap.size)
 case atStart => exact ⟨0, s.size, 7, rfl, rfl, rfl, by omega⟩
 case round =>
  obtain ⟨pos, b, acc, rfl, rfl, hc, hbp⟩ := hrel; by_cases hp : pos < s.size
  · have hnx : ∀ ty, (Instr.next (.pointer (some ⟨w.heap.size, 0, none⟩)) true ty).run Tryz.prog (w.iter s pos) = _ := fun ty => run_next_any w s pos ty hp
    go_wp2_with fail; have hwd := width_pos s pos hp
    go_roundw
    case rel =>
     cases b with
     | zero => omega
     | succ b =>
       refine ⟨pos + (Utf8.decode s pos).2, b, _, rfl, rfl, ?_, by omega⟩; rw [← hc]; simp [hashFrom, hp]
    case measure =>
     simp; omega
  · have hnx : ∀ ty, (Instr.next (.pointer (some ⟨w.heap.size, 0, none⟩)) true ty).run Tryz.prog (w.iter s pos) = _ := fun ty => run_next_end w s pos ty hp
    rw [hashFrom_end s b pos acc hp] at hc; subst hc; have hw : IntKind.i64.wrap (hashM s) = hashM s := by rw [IntKind.wrap_i64]; unfold hashM; omega
    go_wp2_with fail; refine bodyPost_ret (v := .int .i64 (hashM s)) (by simp [results, Tryz.results169, go_sem]) rfl ⟨rfl, (Below.refl _ w).alloc (Nat.le_refl _) _⟩
def bucketM (s : ByteArray) : Int := hashM s % 8
theorem bucket137 (s : ByteArray) (w : World) :
 Calls Tryz.prog 133 #[.string s] w fun e w' => e = .returned (.int .i64 (bucketM s)) ∧ Below w.heap.size w w' := by
 have hb : 0 ≤ hashM s ∧ hashM s < 4294967296 := hashFrom_lt s s.size 0 7 (by omega)
 go_enter Tryz.func133, Tryz.ntmps133
 go_wp2_with (go_at_call 169; refine aT (hash166 _ _) fun p => ?_)
 refine bodyPost_ret (v := .int .i64 (bucketM s)) (by simp [results, Tryz.results133, go_sem, bucketM]) rfl ⟨rfl, bel _ _⟩
def prefixB (s p : ByteArray) : Bool := decide (p.size ≤ s.size) && ((s.extract 0 p.size).toList == p.toList)
theorem prefix191 (s p : ByteArray) (w : World) :
 Calls Tryz.prog 210 #[.string s, .string p] w fun e w' => e = .returned (.bool (prefixB s p)) ∧ w' = w := by
 unfold prefixB
 by_cases h : p.size ≤ s.size
 · have h2 : (p.size : Int) ≤ s.size := by omega
   have h3 : decide (p.size ≤ s.size) = true := by simp [h]
   rw [h3, Bool.true_and]
   go_enter Tryz.func210, Tryz.ntmps210
   go_wp2_with fail; go_ret; exact ⟨rfl, rfl⟩
 · have h2 : ¬ (p.size : Int) ≤ s.size := by omega
   have h3 : decide (p.size ≤ s.size) = false := by simp [h]
   rw [h3, Bool.false_and]
   go_enter Tryz.func210, Tryz.ntmps210
   go_wp2_with fail; go_ret; exact ⟨rfl, rfl⟩
theorem prefix180 (s p : ByteArray) (w : World) :
 Calls Tryz.prog 197 #[.string s, .string p] w fun e w' => e = .returned (.bool (prefixB s p)) ∧ w' = w := by
 go_enter Tryz.func197, Tryz.ntmps197
 go_wp2_with (go_at_call 210; refine (prefix191 _ _ _).mono ?_; rintro e w' ⟨rfl, rfl⟩)
 go_ret
 exact ⟨rfl, rfl⟩
def badRune (s : ByteArray) (pos : Nat) (r : Nat) : Bool := ((r : Int) == 47) || decide ((r : Int) < 32) || ((r : Int) == 127) || (((Utf8.encode (r : Int)).toList == [239, 191, 189]) && !prefixB (s.extract pos s.size) ⟨#[239, 191, 189]⟩)
def checkFrom (s : ByteArray) : Nat → Nat → Bool
 | 0, _ => true
 | b + 1, pos => if pos < s.size then !badRune s pos (Utf8.decode s pos).1 && checkFrom s b (pos + (Utf8.decode s pos).2) else true
theorem checkFrom_end (s : ByteArray) (b pos : Nat) (hp : ¬ pos < s.size) : checkFrom s b pos = true := by
 cases b with
 | zero => rfl
 | succ b => simp [checkFrom, hp]
def checkM (s : ByteArray) : Int := if 12 < s.size then 801 else if (s.toList.isEmpty || s.toList == [46] || s.toList == [46, 46]) = true then 800 else if checkFrom s s.size 0 = true then 0 else 800
theorem check165 (s : ByteArray) (w : World) :
 Calls Tryz.prog 168 #[.string s] w fun e w' => e = .returned (.int .i64 (checkM s)) ∧ Below w.heap.size w w' := by
 by_cases hlen : 12 < s.size
 · have hlenI : (12 : Int) < s.size := by omega
   have hM : checkM s = 801 := by simp [checkM, hlen]
   rw [hM]
   go_enter Tryz.func168, Tryz.ntmps168
   go_wp2_with fail; refine bodyPost_ret (v := .int .i64 801) (by simp [results, Tryz.results168, go_sem]) rfl ⟨rfl, bel _ _⟩
 have hlenI : ¬ (12 : Int) < s.size := by omega
 rcases h1 : s.toList.isEmpty with _ | _
 rcases h2 : s.toList == [46] with _ | _
 rcases h3 : s.toList == [46, 46] with _ | _
 · have hM : checkM s = if checkFrom s s.size 0 = true then 0 else 800 := by simp only [checkM, if_neg hlen, h1, h2, h3]; rfl
   rw [hM]; obtain ⟨V, hV⟩ : ∃ V : Int, (if checkFrom s s.size 0 = true then 0 else 800) = V := ⟨_, rfl⟩
   rw [hV]; obtain ⟨T, hT⟩ : ∃ T, checkFrom s s.size 0 = T := ⟨_, rfl⟩
   rw [hT] at hV; have HV := Lib.hid hV; clear hV hM
   go_enter Tryz.func168, Tryz.ntmps168
   go_wp2_with fail
   go_loopw [] (fun w' => ∃ (pos b : Nat), w' = w.iter s pos ∧ checkFrom s b pos = T ∧ s.size ≤ pos + b) (fun w' => s.size - w'.iterPos w.heap.size)
   case atStart => exact ⟨0, s.size, rfl, hT, by omega⟩
   case round =>
    obtain ⟨pos, b, rfl, hc, hbp⟩ := hrel; by_cases hp : pos < s.size
    · have hwd := width_pos s pos hp; obtain ⟨b', rfl⟩ : ∃ b', b = b' + 1 := ⟨b - 1, by omega⟩
      have hstep : T = (!badRune s pos (Utf8.decode s pos).1 && checkFrom s b' (pos + (Utf8.decode s pos).2)) := by rw [← hc]; simp [checkFrom, hp]
      have hnx : ∀ ty, (Instr.next (.pointer (some ⟨w.heap.size, 0, none⟩)) true ty).run Tryz.prog (w.iter s pos) = _ := fun ty => run_next_any w s pos ty hp
      have hps : pos ≤ s.size := by omega
      generalize hr : (Utf8.decode s pos).1 = r at hnx hstep; have hend : ∀ ww : World, badRune s pos r = true → Below w.heap.size w ww → (Ending.returned (.int .i64 800) = Ending.returned (.int .i64 V) ∧ Below w.heap.size w ww) := fun ww hb hbw => by
       rw [hb] at hstep; simp only [Bool.not_true, Bool.false_and] at hstep; have := HV.out; rw [hstep] at this; rw [← this]; exact ⟨rfl, hbw⟩
      have hbi : Below w.heap.size w (w.iter s (pos + (Utf8.decode s pos).2)) := (Below.refl _ w).alloc (Nat.le_refl _) _; have HS := Lib.hid hstep; have HE := Lib.hid hend; clear hstep hend hc hT; rcases k1 : ((r : Int) == 47) with _ | _
      · by_cases k2 : (r : Int) < 32
        · go_wp2_with fail; refine bodyPost_ret (v := .int .i64 800) (by simp [results, Tryz.results168, go_sem]) rfl (HE.out _ (by simp [badRune, k2]) hbi)
        · rcases k3 : ((r : Int) == 127) with _ | _
          · rcases k4 : ((Utf8.encode (r : Int)).toList == [239, 191, 189]) with _ | _
            · go_wp2_with fail
              go_roundw
              case rel => exact ⟨_, b', rfl, by rw [HS.out]; simp [badRune, k1, k2, k3, k4], by omega⟩
              case measure => simp; omega
            · rcases k5 : prefixB (s.extract pos s.size) ⟨#[239, 191, 189]⟩ with _ | _
              · have hpx : ∀ ww, Calls Tryz.prog 197 #[.string (s.extract pos s.size), .string ⟨#[239, 191, 189]⟩] ww fun e w' => e = .returned (.bool false) ∧ w' = ww := fun ww => by rw [← k5]; exact prefix180 _ _ ww
                go_wp2_with (go_at_call 197; refine (hpx _).mono ?_; rintro e w' ⟨rfl, rfl⟩)
                refine bodyPost_ret (v := .int .i64 800) (by simp [results, Tryz.results168, go_sem]) rfl (HE.out _ (by simp only [badRune, k4, k5]; simp) hbi)
              · have hpx : ∀ ww, Calls Tryz.prog 197 #[.string (s.extract pos s.size), .string ⟨#[239, 191, 189]⟩] ww fun e w' => e = .returned (.bool true) ∧ w' = ww := fun ww => by rw [← k5]; exact prefix180 _ _ ww
                go_wp2_with (go_at_call 197; refine (hpx _).mono ?_; rintro e w' ⟨rfl, rfl⟩)
                go_roundw
                case rel => exact ⟨_, b', rfl, by rw [HS.out]; simp [badRune, k1, k2, k3, k4, k5], by omega⟩
                case measure => simp; omega
          · go_wp2_with fail; refine bodyPost_ret (v := .int .i64 800) (by simp [results, Tryz.results168, go_sem]) rfl (HE.out _ (by simp [badRune, k3]) hbi)
      · go_wp2_with fail; refine bodyPost_ret (v := .int .i64 800) (by simp [results, Tryz.results168, go_sem]) rfl (HE.out _ (by simp [badRune, k1]) hbi)
    · have hnx : ∀ ty, (Instr.next (.pointer (some ⟨w.heap.size, 0, none⟩)) true ty).run Tryz.prog (w.iter s pos) = _ := fun ty => run_next_end w s pos ty hp
      rw [checkFrom_end s b pos hp] at hc; have hv0 := HV.out; rw [← hc] at hv0; obtain rfl : V = 0 := hv0.symm; clear hc hv0 hT HV; go_wp2_with fail; refine bodyPost_ret (v := .int .i64 0) (by simp [results, Tryz.results168, go_sem]) rfl ⟨rfl, (Below.refl _ w).alloc (Nat.le_refl _) _⟩
 all_goals
  have hM : checkM s = 800 := by simp only [checkM, if_neg hlen]; simp [*]
  rw [hM]
  go_enter Tryz.func168, Tryz.ntmps168
  go_wp2_with fail; refine bodyPost_ret (v := .int .i64 800) (by simp [results, Tryz.results168, go_sem]) rfl ⟨rfl, bel _ _⟩
def nameB (s : ByteArray) : Bool := checkM s == 0
theorem may148 (s : ByteArray) (w : World) :
 Calls Tryz.prog 132 #[.string s] w fun e w' => e = .returned (.bool (nameB s)) ∧ Below w.heap.size w w' := by
 unfold nameB
 go_enter Tryz.func132, Tryz.ntmps132
 go_wp2_with (go_at_call 168; refine aT (check165 _ _) fun p => ?_)
 go_ret
 exact ⟨rfl, bel _ _⟩
end Go.Proofs.YtmkapobnfigedaaGreatDoor
namespace Go
def World.itTo (w : World) (b : Nat) (s : ByteArray) (pos : Nat) : World := { w with heap := w.heap.setIfInBounds b (.stringIter s pos) }
theorem run_next_str {P : Program} (w : World) (b : Nat) (s : ByteArray) (pos : Nat) (ty : TypeId) (hb : w.heap[b]? = some (.stringIter s pos)) (h : pos < s.size) :
 (Instr.next (.pointer (some ⟨b, 0, none⟩)) true ty).run P w = .ok (.tuple #[.bool true, .int .i64 pos, .int .i32 (Utf8.decode s pos).1]) (w.itTo b s (pos + (Utf8.decode s pos).2)) := by
 simp only [Instr.next, getObj, setObj, Sem.run_bind, Sem.run, hb, Result.andThen, h, if_true]
 simp [goInt, World.itTo]
theorem run_next_over {P : Program} (w : World) (b : Nat) (s : ByteArray) (pos : Nat) (ty : TypeId) (hb : w.heap[b]? = some (.stringIter s pos)) (h : ¬ pos < s.size) :
 (Instr.next (.pointer (some ⟨b, 0, none⟩)) true ty).run P w = .ok (.tuple #[.bool false]) w := by
 simp [Instr.next, getObj, Sem.run, hb, h]
theorem World.itTo_at {w : World} {b : Nat} {s s' : ByteArray} {p : Nat} (hb : w.heap[b]? = some (.stringIter s' p)) (pos : Nat) : (w.itTo b s pos).heap[b]? = some (.stringIter s pos) := by
 have := (Array.getElem?_eq_some_iff.1 hb).1
 simp [World.itTo, this]
@[go_sem, simp] theorem World.itTo_size (w : World) (b : Nat) (s : ByteArray) (p : Nat) : (w.itTo b s p).heap.size = w.heap.size := by simp [World.itTo]
instance {w : World} {n b p : Nat} {s : ByteArray} [h : SizeIs w n] : SizeIs (w.itTo b s p) n := ⟨by simp [h.eq]⟩
instance {w : World} {k b p : Nat} {s : ByteArray} [h : BlockLt k w] : BlockLt k (w.itTo b s p) := ⟨by simpa using h.lt⟩
theorem Keep.itTo {S : Nat → Prop} {a w : World} (h : Keep S a w) {b : Nat} (hb : S b) (s : ByteArray) (p : Nat) : Keep S a (w.itTo b s p) :=
 ⟨h.os, h.tape, h.output, by simpa using h.size, fun i hi hn => by
  rw [← h.block i hi hn]; simp only [World.itTo]; rw [Array.getElem?_setIfInBounds_ne]; rintro rfl; exact hn hb⟩
end Go
namespace Go.Proofs.YtmkapobnfigedaaGreatDoor
open Go.RowKit
theorem iterPos_at {w : World} {b : Nat} {s : ByteArray} {p : Nat} (h : w.heap[b]? = some (.stringIter s p)) : w.iterPos b = p := by simp [World.iterPos, h]
def finM (R : Int × List ByteArray) : Int × List ByteArray := if R.1 = 0 ∧ 4 < R.2.length then (1102, []) else R
def Parsed (w : World) (F : Int × List ByteArray) (e : Ending) (w' : World) : Prop := ∃ v, e = .returned (.tuple #[v, .int .i64 F.1]) ∧ Below w.heap.size w w' ∧ w'.ownsRow 0 9 1 v F.2.length (F.2.map .string) ∧ ∀ b, v.ownBlock = some b → w.heap.size ≤ b
theorem Parsed.nil {w w' : World} {c : Int} (hb : Below w.heap.size w w') : Parsed w (c, []) (.returned (.tuple #[.slice none 0 0, .int .i64 c])) w' := ⟨_, rfl, hb, ⟨rfl, .inl ⟨rfl, rfl⟩⟩, by simp [Value.ownBlock]⟩
theorem info9 : (Tryz.prog.info? 9).map (fun i => (i.zero, i.size, i.bytes)) = some (some (.string ByteArray.empty), 1, 16) := by kernel_rfl
def parseFrom (s t : ByteArray) : Nat → Nat → Nat → List ByteArray → Int × List ByteArray
 | 0, _, _, acc => (0, acc)
 | b + 1, pos, fr, acc => if pos < t.size then
  if (((pos : Int) == 0) || !(((Utf8.decode t pos).1 : Int) == 47)) = true then parseFrom s t b (pos + (Utf8.decode t pos).2) fr acc
  else if checkM (s.extract fr pos) = 0 then parseFrom s t b (pos + (Utf8.decode t pos).2) (pos + 1) (acc ++ [s.extract fr pos])
  else if checkM (s.extract fr pos) = 801 then (1101, []) else (1100, [])
   else (0, acc)
theorem parseFrom_end (s t : ByteArray) (b pos fr : Nat) (acc : List ByteArray) (h : ¬ pos < t.size) : parseFrom s t b pos fr acc = (0, acc) := by
 cases b with
 | zero => rfl
 | succ b => simp [parseFrom, h]
def parseM (s : ByteArray) : Int × List ByteArray :=
 if 64 < s.size then (1101, [])
 else if h : 0 < s.size then
  if (((s[0]'h).toNat : Int) == 47) = false then (1100, [])
  else if s.size = 1 then (0, [])
  else
   let r := parseFrom s (s ++ ⟨#[47]⟩) (s ++ ⟨#[47]⟩ : ByteArray).size 0 1 []
   if r.1 = 0 ∧ 4 < r.2.length then (1102, []) else r
 else (1100, [])
structure ParseAt (w : World) (s t : ByteArray) (R : Int × List ByteArray) (pos fr : Nat) (acc : List ByteArray) (v : Value) (wr : World) : Prop where
 bel : Below w.heap.size w wr
 it : wr.heap[w.heap.size]? = some (.stringIter t pos)
 own : wr.ownsRow 0 9 1 v acc.length (acc.map .string)
 loc : ∀ b, v.ownBlock = some b → w.heap.size < b
 rest : ∃ b, parseFrom s t b pos fr acc = R ∧ t.size ≤ pos + b
 fr : fr ≤ pos ∨ (pos = 0 ∧ fr = 1)
 len : acc.length ≤ pos
theorem parse_loop (s : ByteArray) (w : World) (h64 : ¬ 64 < s.size) (i2 : s.toList.isEmpty = false) (h0 : 0 < s.size) (hc : (((s[0]'h0).toNat : Int) == 47) = true) (h1 : ¬ s.size = 1) (R : Int × List ByteArray) (hR : parseFrom s (s ++ ⟨#[47]⟩) (s ++ ⟨#[47]⟩ : ByteArray).size 0 1 [] = R) :
 Calls Tryz.prog 153 #[.string s] w (Parsed w (finM R)) := by
 obtain ⟨F, hF⟩ : ∃ F, finM R = F := ⟨_, rfl⟩
 rw [hF]
 have HF := Lib.hid hF
 clear hF
 have i64 : ¬ (64 : Int) < s.size := by omega
 have i3 : (((s[0]'h0).toNat : Int) != 47) = false := by simp [bne, hc]
 have i4 : ((s.size : Int) == 1) = false := beq_eq_false_iff_ne.2 (by omega)
 have ht : (s ++ ⟨#[47]⟩ : ByteArray).size = s.size + 1 := by simp [ByteArray.size_append]; rfl
 go_enter Tryz.func153, Tryz.ntmps153
 go_wp2_with fail
 generalize hT : (s ++ ⟨#[47]⟩ : ByteArray) = t at ht hR
 go_loopw [4, 5] (fun v f wr => ∃ (pos fr : Nat) (acc : List ByteArray), f = .int .i64 fr ∧ ParseAt w s t R pos fr acc v wr) (fun _ _ wr => t.size - wr.iterPos w.heap.size)
 case atStart => exact ⟨0, 1, [], rfl, (Below.refl _ w).alloc (Nat.le_refl _) _, World.iter_heap w t 0, ⟨rfl, .inl ⟨rfl, rfl⟩⟩, by simp [Value.ownBlock], ⟨t.size, hR, by omega⟩, .inr ⟨rfl, rfl⟩, by simp⟩
 case round =>
  obtain ⟨pos, fr, acc, rfl, h⟩ := hrel; have H := Lib.hid h; obtain ⟨a0, cp0, rfl⟩ := own_form h.own; have hit := h.it; by_cases hp : pos < t.size
  · have hnx : ∀ ty, (Instr.next (.pointer (some ⟨w.heap.size, 0, none⟩)) true ty).run Tryz.prog wr = _ := fun ty => run_next_str wr w.heap.size t pos ty hit hp
    have hwd := width_pos t pos hp; obtain ⟨b, hb, hbp⟩ := h.rest; obtain ⟨b', rfl⟩ : ∃ b', b = b' + 1 := ⟨b - 1, by omega⟩
    have hps : pos ≤ s.size := by omega
    have hpsI : (pos : Int) ≤ s.size := by omega
    have hlen := h.len; have hsz := h.bel.size; have hfr := h.fr; have hlt0 : w.heap.size < wr.heap.size := (Array.getElem?_eq_some_iff.1 hit).1; have hbi : Below w.heap.size w (wr.itTo w.heap.size t (pos + (Utf8.decode t pos).2)) := h.bel.trans (((Keep.refl (fun k => k = w.heap.size) wr).itTo rfl t _).below hsz (fun i hi e => by omega)); have hiti := World.itTo_at (s := t) hit (pos + (Utf8.decode t pos).2); have howni := ((Keep.refl (fun k => k = w.heap.size) wr).itTo rfl t (pos + (Utf8.decode t pos).2)).own h.own (fun k hk e => by have := h.loc k hk; omega); have hloc := h.loc; have HB := Lib.hid hb; have HI := Lib.hid (And.intro hbi (And.intro hiti (And.intro howni hloc))); clear hb h hit hbi hiti howni hloc; generalize hw2 : wr.itTo w.heap.size t (pos + (Utf8.decode t pos).2) = wi at hnx HI; have HSZ := Lib.hid (show wi.heap.size = wr.heap.size by rw [← hw2]; simp); generalize hrd : (Utf8.decode t pos).1 = r at hnx; by_cases hsk : (((pos : Int) == 0) || !((r : Int) == 47)) = true
    · have hgo : parseFrom s t b' (pos + (Utf8.decode t pos).2) fr acc = R := by
       have := HB.out; rw [parseFrom, if_pos hp, hrd, if_pos hsk] at this; exact this
      have hnew : ParseAt w s t R (pos + (Utf8.decode t pos).2) fr acc (.slice a0 acc.length cp0) wi := ⟨HI.out.1, HI.out.2.1, HI.out.2.2.1, HI.out.2.2.2, ⟨b', hgo, by omega⟩, .inl (by omega), by omega⟩
      rcases k1 : ((pos : Int) == 0) with _ | _
      · rcases k2 : ((r : Int) == 47) with _ | _
        · have k2' : ((r : Int) != 47) = true := by simp [bne, k2]
          go_wp2_with fail
          go_roundw
          case rel => exact ⟨_, fr, acc, rfl, hnew⟩
          case measure => rw [iterPos_at HI.out.2.1, iterPos_at H.out.it]; omega
        · rw [k1, k2] at hsk; cases hsk
      · go_wp2_with fail
        go_roundw
        case rel => exact ⟨_, fr, acc, rfl, hnew⟩
        case measure => rw [iterPos_at HI.out.2.1, iterPos_at H.out.it]; omega
    · have k1 : ((pos : Int) == 0) = false := by
       rcases h : ((pos : Int) == 0) with _ | _
       · rfl
       · rw [h] at hsk; exact absurd rfl hsk
      have k2 : ((r : Int) == 47) = true := by
       rcases h : ((r : Int) == 47) with _ | _
       · rw [h, k1] at hsk; exact absurd rfl hsk
       · rfl
      have k2' : ((r : Int) != 47) = false := by simp [bne, k2]
      have hp0 : 0 < pos := by
       rcases Nat.eq_zero_or_pos pos with h | h
       · subst h; cases k1
       · exact h
      have hfp : fr ≤ pos := by omega
      have hfpI : (fr : Int) ≤ pos := by omega
      have hrec := HB.out; rw [parseFrom, if_pos hp, hrd, if_neg hsk] at hrec; generalize hpc : s.extract fr pos = pc at hrec; by_cases c0 : checkM pc = 0
      · rw [if_pos c0] at hrec; have HC := Lib.hid hrec; clear hrec; have hck : ∀ ww, Calls Tryz.prog 168 #[.string pc] ww fun e w' => e = .returned (.int .i64 0) ∧ Below ww.heap.size ww w' := fun ww => by rw [← c0]; exact check165 pc ww
        obtain ⟨j0, ji, jz0, jz1, jz2⟩ := info_parts info9
        go_upto_region 18 with (go_at_call 168; refine aT (hck _) fun p => ?_)
        have hownP := ((Keep.refl (fun _ => False) wi).junk p).own HI.out.2.2.1 (fun _ _ e => e); have haI : acc.length ≤ 65 := by omega
        go_wp2_with (at_builtin; refine wpList_append_own_at _ rfl (.tmp 46) (.tmp 51) 50 rfl 0 9 j0 _ 1 16 Tryz.underlying50 ji jz0 jz1 jz2 rfl (by decide) (.slice a0 acc.length cp0) acc.length _ rfl (hownP.alloc _) ⟨_, 0, none⟩ 1 1 [.string pc] rfl rfl (fun j' u hu => news_new _ [.string pc] 9 _ j' u hu) (by simp [Value.oneCell']) (by unfold maxLen; omega) (by omega) (Nat.zero_le _) ?_)
        intro v' w1 hown1 hgrow _ hloc; have HX := Lib.hid (And.intro hown1 (And.intro hgrow hloc)); clear hown1 hgrow hloc; go_wp2_with fail
        go_roundw
        case rel =>
         obtain ⟨hown1, hgrow, hloc⟩ := HX.out; obtain ⟨hbi, hiti, howni, hlo⟩ := HI.out; have hlti : w.heap.size < wi.heap.size := (Array.getElem?_eq_some_iff.1 hiti).1; have hW : Below w.heap.size w ((wi.junk p).alloc (.cells #[.string pc] 9)) := (below_junk _ _ _ p hbi hbi.size).alloc (below_junk _ _ _ p hbi hbi.size).size _; have hitW : ((wi.junk p).alloc (.cells #[.string pc] 9)).heap[w.heap.size]? = some (.stringIter t (pos + (Utf8.decode t pos).2)) := by
          have h1 := (Keep.refl (fun _ => False) wi).junk p |>.alloc (.cells #[.string pc] 9); rw [h1.block w.heap.size (by omega) (fun e => e), hiti]
         refine ⟨_, pos + 1, acc ++ [pc], rfl, hW.trans (((Keep.refl (fun b => (Value.slice a0 acc.length cp0).ownBlock = some b) _).grown hgrow (fun b hb => .inl hb)).below (by simp; omega) (fun x hx h => by have := hlo x h; omega)), ?_, by simpa using hown1, fun b hb => ?_, ⟨b', HC.out, by omega⟩, .inl (by omega), by simp; omega⟩
         · rw [hgrow.block w.heap.size (by simp; omega) (fun e => by have := hlo _ e.symm; omega)]; exact hitW
         · rcases hloc with h | h
           · exact hlo b (h.symm.trans hb)
           · rw [h] at hb; injection hb with hb; omega
        case measure =>
         obtain ⟨hown1, hgrow, hloc⟩ := HX.out; obtain ⟨hbi, hiti, howni, hlo⟩ := HI.out; have hlti : w.heap.size < wi.heap.size := (Array.getElem?_eq_some_iff.1 hiti).1; have h1 := (Keep.refl (fun _ => False) wi).junk p |>.alloc (.cells #[.string pc] 9); have h2 : w1.heap[w.heap.size]? = some (.stringIter t (pos + (Utf8.decode t pos).2)) := by
          rw [hgrow.block w.heap.size (by simp; omega) (fun e => by have := hlo _ e.symm; omega), h1.block w.heap.size (by omega) (fun e => e), hiti]
         rw [iterPos_at h2, iterPos_at H.out.it]; omega
      · rw [if_neg c0] at hrec; have hck : ∀ ww, Calls Tryz.prog 168 #[.string pc] ww fun e w' => e = .returned (.int .i64 (checkM pc)) ∧ Below ww.heap.size ww w' := fun ww => check165 pc ww
        have n0 : (checkM pc == 0) = false := beq_eq_false_iff_ne.2 c0; by_cases c8 : checkM pc = 801
        · rw [if_pos c8] at hrec; have hFe : F = (1101, []) := by have := HF.out; rw [← this, ← hrec]; rfl
          rw [c8] at hck; clear hrec; go_wp2_with (go_at_call 168; refine aT (hck _) fun p => ?_)
          refine bodyPost_ret (v := .tuple #[.slice none 0 0, .int .i64 1101]) (by simp [results, Tryz.results153, go_sem]) rfl ?_; rw [hFe]; exact Parsed.nil (below_junk _ _ _ _ HI.out.1 HI.out.1.size)
        · rw [if_neg c8] at hrec; have n8 : (checkM pc == 801) = false := beq_eq_false_iff_ne.2 c8; have hFe : F = (1100, []) := by have := HF.out; rw [← this, ← hrec]; rfl
          clear hrec; generalize checkM pc = c at hck n0 n8; go_wp2_with (go_at_call 168; refine aT (hck _) fun p => ?_)
          refine bodyPost_ret (v := .tuple #[.slice none 0 0, .int .i64 1100]) (by simp [results, Tryz.results153, go_sem]) rfl ?_; rw [hFe]; exact Parsed.nil (below_junk _ _ _ _ HI.out.1 HI.out.1.size)
  · have hnx : ∀ ty, (Instr.next (.pointer (some ⟨w.heap.size, 0, none⟩)) true ty).run Tryz.prog wr = _ := fun ty => run_next_over wr w.heap.size t pos ty hit hp
    by_cases hl : 4 < acc.length
    · have hlI : (4 : Int) < acc.length := by omega
      clear h hit; have hR2 : R = (0, acc) := by
       obtain ⟨b, hb, _⟩ := H.out.rest; rw [parseFrom_end s t b pos fr acc hp] at hb; exact hb.symm
      have hFe : F = (1102, []) := by have := HF.out; rw [← this, hR2]; simp [finM, hl]
      clear hR2; go_wp2_with fail; refine bodyPost_ret (v := .tuple #[.slice none 0 0, .int .i64 1102]) (by simp [results, Tryz.results153, go_sem]) rfl ?_; rw [hFe]; exact Parsed.nil H.out.bel
    · have hlI : ¬ (4 : Int) < acc.length := by omega
      clear h hit; have hR2 : R = (0, acc) := by
       obtain ⟨b, hb, _⟩ := H.out.rest; rw [parseFrom_end s t b pos fr acc hp] at hb; exact hb.symm
      have hFe : F = (0, acc) := by have := HF.out; rw [← this, hR2]; simp [finM, hl]
      clear hR2; go_wp2_with fail; refine bodyPost_ret (v := .tuple #[.slice a0 acc.length cp0, .int .i64 0]) (by simp [results, Tryz.results153, go_sem]) rfl ?_
      try rw [hFe]
      exact ⟨_, rfl, H.out.bel, H.out.own, fun b hb => Nat.le_of_lt (H.out.loc b hb)⟩
theorem size_pos (s : ByteArray) (h : s.toList.isEmpty = false) : 0 < s.size := by
 rw [ByteArray.toList_eq] at h
 rcases Nat.eq_zero_or_pos s.size with h0 | h0
 · have : s.data.toList.length = 0 := by rw [Array.length_toList]; exact h0
   rw [List.length_eq_zero_iff] at this; rw [this] at h; cases h
 · exact h0
theorem size_zero (s : ByteArray) (h : s.toList.isEmpty = true) : ¬ 0 < s.size := by
 rw [ByteArray.toList_eq] at h
 have h2 : s.data.toList = [] := by simpa using h
 have : s.data.toList.length = 0 := by rw [h2]; rfl
 rw [Array.length_toList] at this
 have e : s.size = s.data.size := rfl
 omega
theorem parse136 (s : ByteArray) (w : World) : Calls Tryz.prog 153 #[.string s] w (Parsed w (parseM s)) := by
 by_cases h64 : 64 < s.size
 · have i64 : (64 : Int) < s.size := by omega
   have hM : parseM s = (1101, []) := by simp [parseM, h64]
   rw [hM]
   go_enter Tryz.func153, Tryz.ntmps153
   go_wp2_with fail; exact bodyPost_ret (v := .tuple #[.slice none 0 0, .int .i64 1101]) (by simp [results, Tryz.results153, go_sem]) rfl (Parsed.nil (bel _ _))
 have i64 : ¬ (64 : Int) < s.size := by omega
 rcases he : s.toList.isEmpty with _ | _
 · have h0 := size_pos s he; rcases hc : (((s[0]'h0).toNat : Int) == 47) with _ | _
   · have i3 : (((s[0]'h0).toNat : Int) != 47) = true := by simp [bne, hc]
     have hM : parseM s = (1100, []) := by simp only [parseM, if_neg h64, dif_pos h0, hc]; rfl
     rw [hM]
     go_enter Tryz.func153, Tryz.ntmps153
     go_wp2_with fail; exact bodyPost_ret (v := .tuple #[.slice none 0 0, .int .i64 1100]) (by simp [results, Tryz.results153, go_sem]) rfl (Parsed.nil (bel _ _))
   · by_cases h1 : s.size = 1
     · have i3 : (((s[0]'h0).toNat : Int) != 47) = false := by simp [bne, hc]
       have i4 : ((s.size : Int) == 1) = true := beq_iff_eq.2 (by omega); have hM : parseM s = (0, []) := by simp only [parseM, if_neg h64, dif_pos h0, hc, if_pos h1]; rfl
       rw [hM]; clear h1
       go_enter Tryz.func153, Tryz.ntmps153
       go_wp2_with fail; exact bodyPost_ret (v := .tuple #[.slice none 0 0, .int .i64 0]) (by simp [results, Tryz.results153, go_sem]) rfl (Parsed.nil (bel _ _))
     · have hM : parseM s = finM (parseFrom s (s ++ ⟨#[47]⟩) (s ++ ⟨#[47]⟩ : ByteArray).size 0 1 []) := by simp only [parseM, if_neg h64, dif_pos h0, hc, if_neg h1]; rfl
       rw [hM]; exact parse_loop s w h64 he h0 hc h1 _ rfl
 · have h0 := size_zero s he; have hM : parseM s = (1100, []) := by simp only [parseM, if_neg h64, dif_neg h0]
   rw [hM]
   go_enter Tryz.func153, Tryz.ntmps153
   go_wp2_with fail; exact bodyPost_ret (v := .tuple #[.slice none 0 0, .int .i64 1100]) (by simp [results, Tryz.results153, go_sem]) rfl (Parsed.nil (bel _ _))
def codeM (c : Int) : Int := if c = 0 then 0 else if c = 1101 ∨ c = 1102 then 6 else 9
theorem code167 (c : Int) (w : World) :
 Calls Tryz.prog 190 #[.int .i64 c] w fun e w' => e = .returned (.int .i64 (codeM c)) ∧ Below w.heap.size w w' := by
 by_cases h0 : c = 0
 · subst h0
   go_enter Tryz.func190, Tryz.ntmps190
   go_wp2_with fail; go_ret; exact ⟨rfl, bel _ _⟩
 by_cases h1 : c = 1101
 · subst h1
   go_enter Tryz.func190, Tryz.ntmps190
   go_wp2_with fail; go_ret; exact ⟨rfl, bel _ _⟩
 by_cases h2 : c = 1102
 · subst h2
   go_enter Tryz.func190, Tryz.ntmps190
   go_wp2_with fail; go_ret; exact ⟨rfl, bel _ _⟩
 have e : codeM c = 9 := by simp [codeM, h0, h1, h2]
 rw [e]
 have b0 : (c == 0) = false := beq_eq_false_iff_ne.2 h0
 have b1 : (c == 1101) = false := beq_eq_false_iff_ne.2 h1
 have b2 : (c == 1102) = false := beq_eq_false_iff_ne.2 h2
 clear h0 h1 h2 e
 go_enter Tryz.func190, Tryz.ntmps190
 go_wp2_with fail
 go_ret
 exact ⟨rfl, bel _ _⟩
def RowAt (w : World) (k : Nat) (v : Value) (rows : List (List Value)) : Prop :=
 ∃ a cap, v = .slice a rows.length cap ∧ rows.length ≤ maxLen ∧ (0 < rows.length → ∃ b off, a = some ⟨b, off, none⟩ ∧ b < w.heap.size ∧ ∀ (q : Nat) (cs : List Value), rows[q]? = some cs → ∀ (t : Nat) (u : Value), cs[t]? = some u → w.cell? ⟨b, off + q * k + t, none⟩ = some u)
theorem RowAt.below {w w' : World} {B k : Nat} {v : Value} {rows : List (List Value)} (h : RowAt w k v rows) (hb : Below B w w') (hB : w.heap.size ≤ B) : RowAt w' k v rows := by
 obtain ⟨a, cap, e, hm, hr⟩ := h
 refine ⟨a, cap, e, hm, fun h0 => ?_⟩
 obtain ⟨b, off, e2, hlt, hc⟩ := hr h0
 have hs := hb.size
 exact ⟨b, off, e2, by omega, fun q cs hq t u hu => (hb.cell (p := ⟨b, off + q * k + t, none⟩) (by show b < B; omega)).trans (hc q cs hq t u hu)⟩
theorem num117 (core made : Int) (h0 : 0 ≤ core ∧ core < 8) (h1 : 0 ≤ made ∧ made < 1000000000) (w : World) :
 Calls Tryz.prog 174 #[.int .i64 core, .int .i64 made] w fun e w' => e = .returned (.int .i64 (2 + core + 8 * made)) ∧ Below w.heap.size w w' := by
 have e1 : wrap64 (2 + core) = 2 + core := by simp only [wrap64]; omega
 have e2 : wrap64 (8 * made) = 8 * made := by simp only [wrap64]; omega
 have e3 : wrap64 (2 + core + 8 * made) = 2 + core + 8 * made := by simp only [wrap64]; omega
 go_enter Tryz.func174, Tryz.ntmps174
 go_wp2_with fail
 go_ret
 exact ⟨by first | rfl | simp_all, bel _ _⟩
def cmpM (x n : Int) : Int := if x < n then -1 else if n < x then 1 else 0
theorem cmp149 (x n : Int) (d : Bool) (ev : Value) (s : ByteArray) (hev : ev.oneCell' = true) (w : World) :
 Calls Tryz.prog 135 #[.agg #[.int .i64 x, .bool d, ev, .string s], .int .i64 n] w fun e w' => e = .returned (.int .i64 (cmpM x n)) ∧ Below w.heap.size w w' := by
 unfold cmpM
 by_cases h1 : x < n
 · rw [if_pos h1]
   go_enter Tryz.func135, Tryz.ntmps135
   go_wp2_with fail; go_ret; exact ⟨rfl, bel _ _⟩
 · rw [if_neg h1]; by_cases h2 : n < x
   · rw [if_pos h2]
     go_enter Tryz.func135, Tryz.ntmps135
     go_wp2_with fail; go_ret; exact ⟨rfl, bel _ _⟩
   · rw [if_neg h2]
     go_enter Tryz.func135, Tryz.ntmps135
     go_wp2_with fail; go_ret; exact ⟨rfl, bel _ _⟩
structure IRec where
 num : Int
 dir : Bool
 ev : Value
 data : ByteArray
 one : ev.oneCell' = true
def IRec.cells (x : IRec) : List Value := [.int .i64 x.num, .bool x.dir, x.ev, .string x.data]
def bsFrom (f : Nat → Int) : Nat → Nat → Nat → Nat
 | 0, lo, _ => lo
 | b + 1, lo, hi => if lo < hi then (if f ((lo + hi) / 2) < 0 then bsFrom f b ((lo + hi) / 2 + 1) hi else bsFrom f b lo ((lo + hi) / 2)) else lo
theorem bsFrom_end (f : Nat → Int) (b lo hi : Nat) (h : ¬ lo < hi) : bsFrom f b lo hi = lo := by
 cases b with
 | zero => rfl
 | succ b => simp [bsFrom, h]
def cmpAt (is : List IRec) (n : Int) (q : Nat) : Int := match is[q]? with | some x => cmpM x.num n | none => 0
def bsM (is : List IRec) (n : Int) : Nat := bsFrom (cmpAt is n) is.length 0 is.length
def bsHit (is : List IRec) (n : Int) : Bool := decide (bsM is n < is.length) && (cmpAt is n (bsM is n) == 0)
theorem bs119 (is : List IRec) (v : Value) (n : Int) (w : World) (h : RowAt w 4 v (is.map IRec.cells)) (hlen : is.length ≤ 1000000000) :
 Calls Tryz.prog 134 #[v, .int .i64 n, .func (.func 135) #[] #[]] w fun e w' => e = .returned (.tuple #[.int .i64 (bsM is n), .bool (bsHit is n)]) ∧ Below w.heap.size w w' := by
 obtain ⟨a, cap, rfl, _, hrow⟩ := h
 rw [lM] at hrow ⊢
 have cell : ∀ (wr : World), Below w.heap.size w wr → ∀ (q : Nat), q < is.length → ∃ (b off : Nat) (x : IRec), a = some ⟨b, off, none⟩ ∧ BlockLt b wr ∧ is[q]? = some x ∧ cmpAt is n q = cmpM x.num n ∧ wr.cell? ⟨b, off + q * 4, none⟩ = some (.int .i64 x.num) ∧ wr.cell? ⟨b, off + q * 4 + 1, none⟩ = some (.bool x.dir) ∧ wr.cell? ⟨b, off + q * 4 + 2, none⟩ = some x.ev ∧ wr.cell? ⟨b, off + q * 4 + 3, none⟩ = some (.string x.data) := by
  intro wr hb q hq; obtain ⟨b, off, rfl, hlt, hc⟩ := hrow (by omega); obtain ⟨x, hx⟩ : ∃ x, is[q]? = some x := ⟨_, gE hq⟩
  have hm : (is.map IRec.cells)[q]? = some x.cells := by rw [gM, hx]; rfl
  have hs := hb.size; have key : ∀ (t : Nat) (u : Value), x.cells[t]? = some u → wr.cell? ⟨b, off + q * 4 + t, none⟩ = some u := fun t u hu => (hb.cell (p := ⟨b, _, none⟩) hlt).trans (hc q _ hm t u hu)
  exact ⟨b, off, x, rfl, ⟨by omega⟩, hx, by unfold cmpAt; rw [hx], key 0 _ rfl, key 1 _ rfl, key 2 _ rfl, key 3 _ rfl⟩
 have HC := Lib.hid cell
 clear cell hrow
 obtain ⟨P, hP⟩ : ∃ P, bsM is n = P := ⟨_, rfl⟩
 obtain ⟨T, hT⟩ : ∃ T, bsHit is n = T := ⟨_, rfl⟩
 rw [hP, hT]
 have HP := Lib.hid (And.intro hP hT)
 clear hP hT
 go_enter Tryz.func134, Tryz.ntmps134
 go_wp2_with fail
 go_loopw [9, 10] (fun i j wr => ∃ (lo hi b : Nat), i = .int .i64 lo ∧ j = .int .i64 hi ∧ lo ≤ hi ∧ hi ≤ is.length ∧ hi ≤ lo + b ∧ bsFrom (cmpAt is n) b lo hi = P ∧ Below w.heap.size w wr) (fun i j _ => (intOf j - intOf i).toNat)
 case atStart => exact ⟨0, is.length, is.length, rfl, rfl, by omega, by omega, by omega, HP.out.1, bel _ _⟩
 case round =>
  obtain ⟨lo, hi, b, rfl, rfl, hlh, hhn, hfu, hbs, hb⟩ := hrel; have iB : Bel w wr := ⟨hb⟩
  by_cases hlt : lo < hi
  · obtain ⟨b', rfl⟩ : ∃ b', b = b' + 1 := ⟨b - 1, by omega⟩
    obtain ⟨m, hm⟩ : ∃ m, (lo + hi) / 2 = m := ⟨_, rfl⟩
    obtain ⟨b0, off, x, rfl, iG, hx, hcm, c0, c1, c2, c3⟩ := HC.out wr hb m (by omega); have hone := x.one; rw [bsFrom, if_pos hlt, hm, hcm] at hbs; have HS := Lib.hid hbs; clear hbs hcm; have hmI : ((lo : Int) + hi) / 2 = m := by omega
    have hmn : m < is.length := by omega
    have hmnI : (m : Int) < is.length := by omega
    have hcall : ∀ ww, Calls Tryz.prog 135 #[.agg #[.int .i64 x.num, .bool x.dir, x.ev, .string x.data], .int .i64 n] ww fun e w' => e = .returned (.int .i64 (cmpM x.num n)) ∧ Below ww.heap.size ww w' := fun ww => cmp149 x.num n x.dir x.ev x.data hone ww
    have HM := Lib.hid hm; clear hm; by_cases hneg : cmpM x.num n < 0
    · generalize hcv : cmpM x.num n = cv at hcall hneg; go_wp2_with (go_at_call 135; refine aT (hcall _) fun p => ?_)
      go_roundw
      case rel => exact ⟨m + 1, hi, b', by go_num, rfl, by have := HM.out; omega, by omega, by have := HM.out; omega, by have := HS.out; rw [hcv, if_pos hneg] at this; exact this, bel _ _⟩
      case measure => have := HM.out; simp [intOf]; omega
    · generalize hcv : cmpM x.num n = cv at hcall hneg; go_wp2_with (go_at_call 135; refine aT (hcall _) fun p => ?_)
      go_roundw
      case rel => exact ⟨lo, m, b', rfl, rfl, by have := HM.out; omega, by omega, by have := HM.out; omega, by have := HS.out; rw [hcv, if_neg (by omega)] at this; exact this, bel _ _⟩
      case measure => have := HM.out; simp [intOf]; omega
  · obtain rfl : lo = hi := by omega
    rw [bsFrom_end _ _ _ _ hlt] at hbs; have hPl : P = lo := hbs.symm; subst hPl; by_cases hln : P < is.length
    · obtain ⟨b0, off, x, rfl, iG, hx, hcm, c0, c1, c2, c3⟩ := HC.out wr hb P hln; have hone := x.one; have hlnI : (P : Int) < is.length := by omega
      have hcall : ∀ ww, Calls Tryz.prog 135 #[.agg #[.int .i64 x.num, .bool x.dir, x.ev, .string x.data], .int .i64 n] ww fun e w' => e = .returned (.int .i64 (cmpM x.num n)) ∧ Below ww.heap.size ww w' := fun ww => cmp149 x.num n x.dir x.ev x.data hone ww
      have hTv : T = (cmpM x.num n == 0) := by
       have h1 := HP.out.2; have h2 := HP.out.1; rw [← h1]; unfold bsHit; rw [h2, hcm]; simp [hln]
      clear hcm; generalize cmpM x.num n = cv at hcall hTv; subst hTv; go_wp2_with (go_at_call 135; refine aT (hcall _) fun p => ?_)
      refine bodyPost_ret (v := .tuple #[.int .i64 P, .bool (cv == 0)]) (by simp [results, Tryz.results134, go_sem]) rfl ⟨rfl, bel _ _⟩
    · have hlnI : ¬ (P : Int) < is.length := by omega
      have hTv : T = false := by
       have h1 := HP.out.2; have h2 := HP.out.1; rw [← h1]; unfold bsHit; rw [h2]; simp [hln]
      subst hTv; go_wp2_with fail; refine bodyPost_ret (v := .tuple #[.int .i64 P, .bool false]) (by simp [results, Tryz.results134, go_sem]) rfl ⟨rfl, bel _ _⟩
def findM (is : List IRec) (n : Int) : Int := if bsHit is n = true then bsM is n else -1
theorem find110 (is : List IRec) (b off : Nat) (v : Value) (n : Int) (w : World) (ib : BlockLt b w) (c0 : w.cell? ⟨b, off, none⟩ = some v) (h : RowAt w 4 v (is.map IRec.cells)) (hlen : is.length ≤ 1000000000) :
 Calls Tryz.prog 102 #[.pointer (some ⟨b, off, none⟩), .int .i64 n] w fun e w' => e = .returned (.int .i64 (findM is n)) ∧ Below w.heap.size w w' := by
 have hbs := bs119 is v n w h hlen
 unfold findM
 obtain ⟨a, cap, rfl, _, _⟩ := h
 rw [lM] at hbs c0
 generalize bsM is n = P at hbs ⊢
 generalize bsHit is n = T at hbs ⊢
 rcases T with _ | _
 · simp only [Bool.false_eq_true, if_false]
   go_enter Tryz.func102, Tryz.ntmps102
   go_wp2_with (go_at_call 134; refine hbs.mono ?_; rintro e w' ⟨rfl, hb⟩; obtain ⟨p, rfl⟩ := hb.rest; clear hb)
   go_ret; exact ⟨rfl, bel _ _⟩
 · simp only [if_true]
   go_enter Tryz.func102, Tryz.ntmps102
   go_wp2_with (go_at_call 134; refine hbs.mono ?_; rintro e w' ⟨rfl, hb⟩; obtain ⟨p, rfl⟩ := hb.rest; clear hb)
   go_ret; exact ⟨rfl, bel _ _⟩
structure PEnt where
 name : ByteArray
 num : Int
deriving DecidableEq
structure PIn where
 num : Int
 dir : Bool
 ents : List PEnt
 data : ByteArray
deriving DecidableEq
structure PDesc where
 core : Int
 fd : Int
 num : Int
deriving DecidableEq
structure PSt where
 ins : List PIn
 op : List PDesc
 made : List Int
deriving DecidableEq
def I64 (x : Int) : Prop := -9223372036854775808 ≤ x ∧ x ≤ 9223372036854775807
theorem I64.wrap {x : Int} (h : I64 x) : IntKind.i64.wrap x = x := by
 unfold I64 at h
 simp [IntKind.wrap, IntKind.bits, IntKind.signed]
 omega
def PEnt.cells (x : PEnt) : List Value := [.string x.name, .int .i64 x.num]
def PDesc.cells (x : PDesc) : List Value := [.int .i64 x.core, .int .i64 x.fd, .int .i64 x.num]
def intCells (x : Int) : List Value := [.int .i64 x]
def IRec.is (w : World) (r : IRec) (x : PIn) : Prop := r.num = x.num ∧ r.dir = x.dir ∧ r.data = x.data ∧ RowAt w 2 r.ev (x.ents.map PEnt.cells)
def PSt.wf (S : PSt) : Prop :=
 S.ins.length ≤ 1000000000 ∧ S.op.length ≤ 1000000000 ∧ S.made.length ≤ 1000000000 ∧ (∀ x ∈ S.ins, I64 x.num ∧ x.ents.length ≤ 1000000000 ∧ ∀ e ∈ x.ents, I64 e.num) ∧ (∀ d ∈ S.op, I64 d.core ∧ I64 d.fd ∧ I64 d.num) ∧ ∀ m ∈ S.made, I64 m
def StRead (w : World) (iv ov mv : Value) (S : PSt) : Prop :=
 RowAt w 3 ov (S.op.map PDesc.cells) ∧ RowAt w 1 mv (S.made.map intCells) ∧ ∃ is : List IRec, RowAt w 4 iv (is.map IRec.cells) ∧ is.length = S.ins.length ∧ ∀ (q : Nat) (r : IRec) (x : PIn), is[q]? = some r → S.ins[q]? = some x → r.is w x
theorem StRead.below {w w' : World} {iv ov mv : Value} {S : PSt} {B : Nat} (h : StRead w iv ov mv S) (hb : Below B w w') (hB : w.heap.size ≤ B) : StRead w' iv ov mv S := by
 obtain ⟨h1, h2, is, h3, h4, h5⟩ := h
 exact ⟨h1.below hb hB, h2.below hb hB, is, h3.below hb hB, h4, fun q r x hr hx => by
  obtain ⟨a1, a2, a3, a4⟩ := h5 q r x hr hx; exact ⟨a1, a2, a3, a4.below hb hB⟩⟩
theorem RowAt.one {w : World} {k : Nat} {v : Value} {rows : List (List Value)} (h : RowAt w k v rows) : v.oneCell' = true := by
 obtain ⟨a, cap, rfl, _⟩ := h
 rfl
theorem RowAt.at_ {w : World} {k : Nat} {v : Value} {rows : List (List Value)} (h : RowAt w k v rows) :
 ∃ a cap, v = .slice a rows.length cap ∧ ∀ wr, Below w.heap.size w wr → ∀ (q : Nat) (cs : List Value), rows[q]? = some cs → ∃ b off, a = some ⟨b, off, none⟩ ∧ BlockLt b w ∧ BlockLt b wr ∧ ∀ (t : Nat) (u : Value), cs[t]? = some u → wr.cell? ⟨b, off + q * k + t, none⟩ = some u := by
 obtain ⟨a, cap, rfl, _, hr⟩ := h
 refine ⟨a, cap, rfl, fun wr hb q cs hq => ?_⟩
 obtain ⟨hlt, _⟩ := gI.1 hq
 obtain ⟨b, off, rfl, hb0, hc⟩ := hr (by omega)
 have hs := hb.size
 exact ⟨b, off, rfl, ⟨hb0⟩, ⟨by omega⟩, fun t u hu => (hb.cell (p := ⟨b, _, none⟩) hb0).trans (hc q cs hq t u hu)⟩
def idxFrom {α : Type} (p : α → Bool) : List α → Nat → Int
 | [], _ => -1
 | x :: r, q => if p x = true then (q : Int) else idxFrom p r (q + 1)
def idxM {α : Type} (p : α → Bool) (zs : List α) : Int := idxFrom p zs 0
theorem idxFrom_drop {α : Type} (p : α → Bool) (zs : List α) (q : Nat) (z : α) (h : zs[q]? = some z) : idxFrom p (zs.drop q) q = if p z = true then (q : Int) else idxFrom p (zs.drop (q + 1)) (q + 1) := by
 obtain ⟨hlt, rfl⟩ := gI.1 h
 rw [List.drop_eq_getElem_cons hlt]
 rfl
theorem idxFrom_end {α : Type} (p : α → Bool) (zs : List α) (q : Nat) (h : ¬ q < zs.length) : idxFrom p (zs.drop q) q = -1 := by
 rw [List.drop_of_length_le (by omega)]
 rfl
theorem idxFrom_bounds {α : Type} (p : α → Bool) (zs : List α) : ∀ q : Nat, idxFrom p zs q = -1 ∨ ((q : Int) ≤ idxFrom p zs q ∧ idxFrom p zs q < q + zs.length) := by
 induction zs with
 | nil => exact fun q => .inl rfl
 | cons z zs ih =>
   intro q; unfold idxFrom; by_cases h : p z = true
   · rw [if_pos h]; right; simp only [List.length_cons]; omega
   · rw [if_neg h]; rcases ih (q + 1) with h | h
     · exact .inl h
     · right; simp only [List.length_cons] at h ⊢; omega
theorem idxM_bounds {α : Type} (p : α → Bool) (zs : List α) : idxM p zs = -1 ∨ (0 ≤ idxM p zs ∧ idxM p zs < zs.length) := by
 rcases idxFrom_bounds p zs 0 with h | h
 · exact .inl h
 · right; unfold idxM; omega
theorem idxM_any {α : Type} (p : α → Bool) (zs : List α) : (decide (0 ≤ idxM p zs)) = zs.any p := by
 have key : ∀ (zs : List α) (q : Nat), (decide (0 ≤ idxFrom p zs q)) = zs.any p := by
  intro zs
  induction zs with
  | nil => exact fun q => by simp [idxFrom]
  | cons z zs ih =>
    intro q; rw [List.any_cons, idxFrom]; by_cases h : p z = true
    · rw [if_pos h, h]; simp
    · rw [if_neg h, ih]; simp [h]
 exact key zs 0
theorem index145 (zs : List Int) (v : Value) (p : Int → Bool) (w : World) (h : RowAt w 1 v (zs.map intCells)) (hlen : zs.length ≤ 1000000000)
 (hg : ∀ (z : Int) (ww : World), z ∈ zs → Below w.heap.size w ww → Calls Tryz.prog 99 #[.int .i64 z] ww fun e w' => e = .returned (.bool (p z)) ∧ Below ww.heap.size ww w') :
 Calls Tryz.prog 129 #[v, .func (.func 99) #[] #[]] w fun e w' => e = .returned (.int .i64 (idxM p zs)) ∧ Below w.heap.size w w' := by
 obtain ⟨a, cap, rfl, hat⟩ := h.at_
 rw [lM]
 have HA := Lib.hid hat
 clear hat h
 unfold idxM
 obtain ⟨R, hR⟩ : ∃ R, idxFrom p zs 0 = R := ⟨_, rfl⟩
 rw [hR]
 have HR := Lib.hid hR
 clear hR
 go_enter Tryz.func129, Tryz.ntmps129
 go_wp2_with fail
 go_loopw [8] (fun i wr => ∃ (q : Nat), i = .int .i64 q ∧ q ≤ zs.length ∧ idxFrom p (zs.drop q) q = R ∧ Below w.heap.size w wr) (fun i _ => (zs.length - intOf i).toNat)
 case atStart => exact ⟨0, rfl, by omega, HR.out, bel _ _⟩
 case round =>
  obtain ⟨q, rfl, hq, hre, hb⟩ := hrel; have iB : Bel w wr := ⟨hb⟩
  by_cases hlt : q < zs.length
  · obtain ⟨z, hz⟩ : ∃ z, zs[q]? = some z := ⟨_, gE hlt⟩
    obtain ⟨b, off, rfl, iG0, iG, hc⟩ := HA.out wr hb q (intCells z) (by rw [gM, hz]; rfl); have c0 := hc 0 _ rfl; rw [idxFrom_drop p zs q z hz] at hre; have hcall : ∀ ww, Below w.heap.size w ww → Calls Tryz.prog 99 #[.int .i64 z] ww fun e w' => e = .returned (.bool (p z)) ∧ Below ww.heap.size ww w' := fun ww hww => hg z ww (mG hz) hww
    have HZ := Lib.hid (And.intro hz hre); clear hc hz hre hg; rw [Nat.mul_one, Nat.add_zero] at c0; generalize hpz : p z = t at hcall HZ; rcases t with _ | _
    · go_wp2_with (go_at_call 99; refine aT (hcall _ (bel _ _)) fun p => ?_)
      go_roundw
      case rel => exact ⟨q + 1, by go_num, by omega, by have := HZ.out.2; simpa using this, bel _ _⟩
      case measure => simp [intOf]; omega
    · have hv : R = q := by have := HZ.out.2; simpa using this.symm
      subst hv; go_wp2_with (go_at_call 99; refine aT (hcall _ (bel _ _)) fun p => ?_)
      exact bodyPost_ret (v := .int .i64 q) (by simp [results, Tryz.results129, go_sem]) rfl ⟨rfl, bel _ _⟩
  · rw [idxFrom_end p zs q hlt] at hre; subst hre; clear hg; go_wp2_with fail; exact bodyPost_ret (v := .int .i64 (-1)) (by simp [results, Tryz.results129, go_sem]) rfl ⟨rfl, bel _ _⟩
theorem index45o (zs : List PDesc) (v : Value) (l0 : Value) (p : PDesc → Bool) (w : World) (h : RowAt w 3 v (zs.map PDesc.cells)) (hlen : zs.length ≤ 1000000000)
 (hg : ∀ (z : PDesc) (ww : World), z ∈ zs → Below w.heap.size w ww → Calls Tryz.prog 104 #[.agg #[.int .i64 z.core, .int .i64 z.fd, .int .i64 z.num], l0] ww fun e w' => e = .returned (.bool (p z)) ∧ Below ww.heap.size ww w') :
 Calls Tryz.prog 136 #[v, .func (.func 104) #[] #[l0]] w fun e w' => e = .returned (.int .i64 (idxM p zs)) ∧ Below w.heap.size w w' := by
 obtain ⟨a, cap, rfl, hat⟩ := h.at_
 rw [lM]
 have HA := Lib.hid hat
 clear hat h
 unfold idxM
 obtain ⟨R, hR⟩ : ∃ R, idxFrom p zs 0 = R := ⟨_, rfl⟩
 rw [hR]
 have HR := Lib.hid hR
 clear hR
 go_enter Tryz.func136, Tryz.ntmps136
 go_wp2_with fail
 go_loopw [8] (fun i wr => ∃ (q : Nat), i = .int .i64 q ∧ q ≤ zs.length ∧ idxFrom p (zs.drop q) q = R ∧ Below w.heap.size w wr) (fun i _ => (zs.length - intOf i).toNat)
 case atStart => exact ⟨0, rfl, by omega, HR.out, bel _ _⟩
 case round =>
  obtain ⟨q, rfl, hq, hre, hb⟩ := hrel; have iB : Bel w wr := ⟨hb⟩
  by_cases hlt : q < zs.length
  · obtain ⟨z, hz⟩ : ∃ z, zs[q]? = some z := ⟨_, gE hlt⟩
    obtain ⟨b, off, rfl, iG0, iG, hc⟩ := HA.out wr hb q (PDesc.cells z) (by rw [gM, hz]; rfl); have c0 := hc 0 _ rfl; have c1 := hc 1 _ rfl; have c2 := hc 2 _ rfl; rw [idxFrom_drop p zs q z hz] at hre; have hcall : ∀ ww, Below w.heap.size w ww → Calls Tryz.prog 104 #[.agg #[.int .i64 z.core, .int .i64 z.fd, .int .i64 z.num], l0] ww fun e w' => e = .returned (.bool (p z)) ∧ Below ww.heap.size ww w' := fun ww hww => hg z ww (mG hz) hww
    have HZ := Lib.hid (And.intro hz hre); clear hc hz hre hg; rw [Nat.add_zero] at c0; generalize hpz : p z = t at hcall HZ; rcases t with _ | _
    · go_wp2_with (go_at_call 104; refine aT (hcall _ (bel _ _)) fun p => ?_)
      go_roundw
      case rel => exact ⟨q + 1, by go_num, by omega, by have := HZ.out.2; simpa using this, bel _ _⟩
      case measure => simp [intOf]; omega
    · have hv : R = q := by have := HZ.out.2; simpa using this.symm
      subst hv; go_wp2_with (go_at_call 104; refine aT (hcall _ (bel _ _)) fun p => ?_)
      exact bodyPost_ret (v := .int .i64 q) (by simp [results, Tryz.results136, go_sem]) rfl ⟨rfl, bel _ _⟩
  · rw [idxFrom_end p zs q hlt] at hre; subst hre; clear hg; go_wp2_with fail; exact bodyPost_ret (v := .int .i64 (-1)) (by simp [results, Tryz.results136, go_sem]) rfl ⟨rfl, bel _ _⟩
def SP (w : World) (b : Nat) (S : PSt) : Prop := b < w.heap.size ∧ ∃ iv ov mv, w.cell? ⟨b, 0, none⟩ = some iv ∧ w.cell? ⟨b, 1, none⟩ = some ov ∧ w.cell? ⟨b, 2, none⟩ = some mv ∧ StRead w iv ov mv S
theorem SP.below {w w' : World} {b B : Nat} {S : PSt} (h : SP w b S) (hb : Below B w w') (hB : w.heap.size ≤ B) : SP w' b S := by
 obtain ⟨hl, iv, ov, mv, c0, c1, c2, hr⟩ := h
 have hs := hb.size
 have key : ∀ o v, w.cell? ⟨b, o, none⟩ = some v → w'.cell? ⟨b, o, none⟩ = some v := fun o v hv => (hb.cell (p := ⟨b, o, none⟩) (by show b < B; omega)).trans hv
 exact ⟨by omega, iv, ov, mv, key _ _ c0, key _ _ c1, key _ _ c2, hr.below hb hB⟩
def badMade (n : Int) : Bool := decide (n < 0) || decide (32 < n)
theorem mm107 (n : Int) (w : World) :
 Calls Tryz.prog 99 #[.int .i64 n] w fun e w' => e = .returned (.bool (badMade n)) ∧ Below w.heap.size w w' := by
 unfold badMade
 by_cases h : n < 0
 · go_enter Tryz.func99, Tryz.ntmps99
   go_wp2_with fail; go_ret; exact ⟨by simp [h], bel _ _⟩
 · go_enter Tryz.func99, Tryz.ntmps99
   go_wp2_with fail; go_ret; exact ⟨by simp; omega, bel _ _⟩
theorem cont106 (made : List Int) (v : Value) (w : World) (h : RowAt w 1 v (made.map intCells)) (hlen : made.length ≤ 1000000000) :
 Calls Tryz.prog 98 #[v, .func (.func 99) #[] #[]] w fun e w' => e = .returned (.bool (made.any badMade)) ∧ Below w.heap.size w w' := by
 have hv := h.one
 have hc : ∀ w', Below w.heap.size w w' → Calls Tryz.prog 129 #[v, .func (.func 99) #[] #[]] w' fun e w'' => e = .returned (.int .i64 (idxM badMade made)) ∧ Below w'.heap.size w' w'' :=
  fun w' hb => index145 made v badMade w' (h.below hb (Nat.le_refl _)) hlen (fun z ww _ _ => mm107 z ww)
 have ha := idxM_any badMade made
 generalize made.any badMade = A at ha ⊢
 subst ha
 generalize idxM badMade made = R at hc ⊢
 clear h
 go_enter Tryz.func98, Tryz.ntmps98
 go_wp2_with (go_at_call 129; refine aT (hc _ (bel _ _)) fun p => ?_)
 go_ret
 exact ⟨by first | rfl | simp_all, bel _ _⟩
def mayMadeM (made : List Int) : Bool := !(decide (made.length < 1) || decide (8 < made.length)) && !made.any badMade
theorem mayMade62 (b : Nat) (S : PSt) (w : World) (h : SP w b S) (hwf : S.wf) :
 Calls Tryz.prog 68 #[.pointer (some ⟨b, 0, none⟩)] w fun e w' => e = .returned (.bool (mayMadeM S.made)) ∧ Below w.heap.size w w' := by
 obtain ⟨hl, iv, ov, mv, c0, c1, c2, hr⟩ := h
 have ib : BlockLt b w := ⟨hl⟩
 have hlen := hwf.2.2.1
 have hc : ∀ w', Below w.heap.size w w' → Calls Tryz.prog 98 #[mv, .func (.func 99) #[] #[]] w' fun e w'' => e = .returned (.bool (S.made.any badMade)) ∧ Below w'.heap.size w' w'' :=
  fun w' hb => cont106 S.made mv w' (hr.2.1.below hb (Nat.le_refl _)) hlen
 unfold mayMadeM
 obtain ⟨a, cap, rfl, _, _⟩ := hr.2.1
 rw [lM] at hc c2
 clear hr hwf
 generalize S.made.any badMade = A at hc ⊢
 by_cases h1 : S.made.length < 1
 · have h1' : (S.made.length : Int) < 1 := by omega
   go_enter Tryz.func68, Tryz.ntmps68
   go_wp2_with fail; go_ret; exact ⟨by simp [h1], bel _ _⟩
 · have h1' : ¬ (S.made.length : Int) < 1 := by omega
   by_cases h2 : 8 < S.made.length
   · have h2' : (8 : Int) < S.made.length := by omega
     go_enter Tryz.func68, Tryz.ntmps68
     go_wp2_with fail; go_ret; exact ⟨by simp [h2], bel _ _⟩
   · have h2' : ¬ (8 : Int) < S.made.length := by omega
     go_enter Tryz.func68, Tryz.ntmps68
     go_wp2_with (go_at_call 98; refine aT (hc _ (bel _ _)) fun p => ?_)
     go_ret; exact ⟨by simp [h1, h2], bel _ _⟩
def coreM (n : Int) : Int := if n < 2 then -1 else (n - 2) % 8
theorem core146 (n : Int) (h : I64 n) (w : World) :
 Calls Tryz.prog 130 #[.int .i64 n] w fun e w' => e = .returned (.int .i64 (coreM n)) ∧ Below w.heap.size w w' := by
 unfold I64 at h
 unfold coreM
 by_cases h1 : n < 2
 · go_enter Tryz.func130, Tryz.ntmps130
   go_wp2_with fail; go_ret; exact ⟨by simp [h1], bel _ _⟩
 · have e1 : wrap64 (n - 2) = n - 2 := by simp only [wrap64]; omega
   have e2 : (n - 2).tmod 8 = (n - 2) % 8 := Int.tmod_eq_emod_of_nonneg (by omega); have e3 : wrap64 ((n - 2) % 8) = (n - 2) % 8 := by simp only [wrap64]; omega
   rw [if_neg h1]; generalize hR : (n - 2) % 8 = R at *; have HR := Lib.hid hR; clear hR
   go_enter Tryz.func130, Tryz.ntmps130
   go_wp2_with fail; go_ret; exact ⟨by simp_all, bel _ _⟩
theorem made147 (n : Int) (h : I64 n) (h2 : 2 ≤ n) (w : World) :
 Calls Tryz.prog 131 #[.int .i64 n] w fun e w' => e = .returned (.int .i64 ((n - 2) / 8)) ∧ Below w.heap.size w w' := by
 unfold I64 at h
 have e1 : wrap64 (n - 2) = n - 2 := by simp only [wrap64]; omega
 have e2 : (n - 2).tdiv 8 = (n - 2) / 8 := Int.tdiv_eq_ediv_of_nonneg (by omega)
 have e3 : wrap64 ((n - 2) / 8) = (n - 2) / 8 := by simp only [wrap64]; omega
 generalize hR : (n - 2) / 8 = R at *
 have HR := Lib.hid hR
 clear hR
 go_enter Tryz.func131, Tryz.ntmps131
 go_wp2_with fail
 go_ret
 exact ⟨by simp_all, bel _ _⟩
def mayNumM (made : List Int) (n : Int) : Bool := if n < 2 then false else match made[((n - 2) % 8).toNat]? with | some m => decide ((n - 2) / 8 < m) | none => false
theorem mayNum108 (b : Nat) (S : PSt) (n : Int) (w : World) (h : SP w b S) (hwf : S.wf) (hn : I64 n) :
 Calls Tryz.prog 100 #[.pointer (some ⟨b, 0, none⟩), .int .i64 n] w fun e w' => e = .returned (.bool (mayNumM S.made n)) ∧ Below w.heap.size w w' := by
 obtain ⟨hl, iv, ov, mv, c0, c1, c2, hr⟩ := h
 have ib : BlockLt b w := ⟨hl⟩
 have hlen := hwf.2.2.1
 have hco : ∀ w, Calls Tryz.prog 130 #[.int .i64 n] w _ := fun w => core146 n hn w
 obtain ⟨a, cap, rfl, hat⟩ := hr.2.1.at_
 have HA := Lib.hid hat
 rw [lM] at c2
 clear hr hwf hat
 unfold mayNumM
 by_cases h1 : n < 2
 · have hcv : coreM n = -1 := by simp [coreM, h1]
   rw [hcv] at hco; rw [if_pos h1]
   go_enter Tryz.func100, Tryz.ntmps100
   go_wp2_with ((go_at_call 130; refine aT (hco _) fun p => ?_))
   refine wp_region_quiet_rest (by kernel_rfl) (by kernel_rfl) (WQ.out ?_)
   repeat
    refine WQ_step (fun K hK => ?_); go_simp
    first
     | (refine hK _ ?_; clear hK K)
     | (apply Exists.intro
        refine ⟨fun _ => ?_, hK _ ?_⟩
        focus (fail)
        clear hK K)
   refine WN fun p => ?_; go_wp2_with fail; go_ret; exact ⟨rfl, bel _ _⟩
 · have hma : ∀ w, Calls Tryz.prog 131 #[.int .i64 n] w _ := fun w => made147 n hn (by omega) w
   have hcv : coreM n = (n - 2) % 8 := by simp [coreM, h1]
   obtain ⟨q, hq⟩ : ∃ q : Nat, (n - 2) % 8 = q := ⟨((n - 2) % 8).toNat, by omega⟩
   rw [if_neg h1, hq, Int.toNat_natCast]; rw [hcv, hq] at hco; generalize (n - 2) / 8 = k at hma ⊢; have HQ := Lib.hid hq; clear hq hcv; by_cases h2 : q < S.made.length
   · obtain ⟨m, hm⟩ : ∃ m, S.made[q]? = some m := ⟨_, gE h2⟩
     rw [hm]; obtain ⟨b1, off, rfl, iG0, -, hc⟩ := HA.out w (bel _ _) q (intCells m) (by rw [gM, hm]; rfl); have c3 := hc 0 _ rfl; rw [Nat.mul_one, Nat.add_zero] at c3; have h2I : (q : Int) < S.made.length := by omega
     have HM := Lib.hid hm; clear hm hc
     go_enter Tryz.func100, Tryz.ntmps100
     go_wp2_with ((go_at_call 130; refine aT (hco _) fun p => ?_))
     refine wp_region_quiet_rest (by kernel_rfl) (by kernel_rfl) (WQ.out ?_)
     repeat
      refine WQ_step (fun K hK => ?_); go_simp
      first
       | (refine hK _ ?_; clear hK K)
       | (apply Exists.intro
          refine ⟨fun _ => ?_, hK _ ?_⟩
          focus ((first | refine cI (hma _) | refine cJ (hma _)))
          clear hK K)
     refine WN fun p => ?_; go_wp2_with fail; go_ret; exact ⟨by first | rfl | simp_all, bel _ _⟩
   · have h2I : ¬ (q : Int) < S.made.length := by omega
     rw [List.getElem?_eq_none (by omega)]
     go_enter Tryz.func100, Tryz.ntmps100
     go_wp2_with ((go_at_call 130; refine aT (hco _) fun p => ?_))
     refine wp_region_quiet_rest (by kernel_rfl) (by kernel_rfl) (WQ.out ?_)
     repeat
      refine WQ_step (fun K hK => ?_); go_simp
      first
       | (refine hK _ ?_; clear hK K)
       | (apply Exists.intro
          refine ⟨fun _ => ?_, hK _ ?_⟩
          focus (fail)
          clear hK K)
     refine WN fun p => ?_; go_wp2_with fail; go_ret; exact ⟨by first | rfl | simp_all, bel _ _⟩
def cmpN (ns : List Int) (n : Int) (q : Nat) : Int := match ns[q]? with | some x => cmpM x n | none => 0
def bsN (ns : List Int) (n : Int) : Nat := bsFrom (cmpN ns n) ns.length 0 ns.length
def findN (ns : List Int) (n : Int) : Int := if (decide (bsN ns n < ns.length) && (cmpN ns n (bsN ns n) == 0)) = true then (bsN ns n : Int) else -1
theorem find_num (is : List IRec) (n : Int) : findM is n = findN (is.map IRec.num) n := by
 have hc : cmpAt is n = cmpN (is.map IRec.num) n := by
  funext q
  unfold cmpAt cmpN; rw [gM]; cases is[q]? <;> rfl
 unfold findM findN bsHit bsN
 rw [hc]
 unfold bsM
 rw [hc, lM]
theorem findN_bounds (ns : List Int) (n : Int) : findN ns n = -1 ∨ (0 ≤ findN ns n ∧ findN ns n < ns.length) := by
 unfold findN
 by_cases h : (decide (bsN ns n < ns.length) && (cmpN ns n (bsN ns n) == 0)) = true
 · rw [if_pos h]; simp at h; right; omega
 · rw [if_neg h]; exact .inl rfl
def PSt.nums (S : PSt) : List Int := S.ins.map PIn.num
theorem find_sp (b : Nat) (S : PSt) (n : Int) (w : World) (h : SP w b S) (hwf : S.wf) :
 Calls Tryz.prog 102 #[.pointer (some ⟨b, 0, none⟩), .int .i64 n] w fun e w' => e = .returned (.int .i64 (findN S.nums n)) ∧ Below w.heap.size w w' := by
 obtain ⟨hl, iv, ov, mv, c0, c1, c2, _, _, is, h3, h4, h5⟩ := h
 have hn : is.map IRec.num = S.nums := by
  apply List.ext_getElem?; intro q; rw [PSt.nums, gM, gM]; by_cases hq : q < is.length
  · have hq2 : q < S.ins.length := by omega
    have := (h5 q is[q] S.ins[q] (gE hq) (gE hq2)).1; rw [gE hq, gE hq2]; simp [this]
  · rw [List.getElem?_eq_none (by omega), List.getElem?_eq_none (by omega)]; rfl
 rw [← hn, ← find_num]
 exact find110 is b 0 iv n w ⟨hl⟩ c0 h3 (by have := hwf.1; omega)
theorem drop_at {α : Type} {zs : List α} {q : Nat} {z : α} (h : zs[q]? = some z) : zs.drop q = z :: zs.drop (q + 1) := by
 obtain ⟨hlt, rfl⟩ := gI.1 h
 exact List.drop_eq_getElem_cons hlt
def prevBad (prev : Option ByteArray) (s : ByteArray) : Bool := match prev with | some p => !Op.bytesLess p.toList s.toList | none => false
def entsB (ns : List Int) : Option ByteArray → List Int → List PEnt → Bool
 | _, _, [] => true
 | prev, sl, e :: r =>
   if nameB e.name = false then false else if prevBad prev e.name = true then false else if e.num = 1 then false else if findN ns e.num < 0 then false else
   match sl[(bucketM e.name).toNat]? with
   | some x => if 4 < x + 1 then false else entsB ns (some e.name) (sl.set (bucketM e.name).toNat (x + 1)) r
   | none => false
def mayEntsM (ns : List Int) (es : List PEnt) : Bool := entsB ns none [0, 0, 0, 0, 0, 0, 0, 0] es
theorem bucketM_lt (s : ByteArray) : 0 ≤ bucketM s ∧ bucketM s < 8 := by unfold bucketM; omega
def prevOf (es : List PEnt) (q : Nat) : Option ByteArray := if q = 0 then none else (es[q - 1]?).map PEnt.name
theorem mayEnts109 (b : Nat) (S : PSt) (es : List PEnt) (v : Value) (w : World) (h : SP w b S) (hwf : S.wf) (he : RowAt w 2 v (es.map PEnt.cells)) (hlen : es.length ≤ 1000000000) :
 Calls Tryz.prog 101 #[.pointer (some ⟨b, 0, none⟩), v] w fun e w' => e = .returned (.bool (mayEntsM S.nums es)) ∧ Below w.heap.size w w' := by
 have hf : ∀ ww, Below w.heap.size w ww → ∀ n, Calls Tryz.prog 102 #[.pointer (some ⟨b, 0, none⟩), .int .i64 n] ww fun e w' => e = .returned (.int .i64 (findN S.nums n)) ∧ Below ww.heap.size ww w' :=
  fun ww hb n => find_sp b S n ww (h.below hb (Nat.le_refl _)) hwf
 have ib : BlockLt b w := ⟨h.1⟩
 obtain ⟨a, cap, rfl, hat⟩ := he.at_
 have HA := Lib.hid hat
 clear h hwf he hat
 rw [lM]
 generalize S.nums = ns at hf ⊢
 unfold mayEntsM
 obtain ⟨R, hR⟩ : ∃ R, entsB ns none [0, 0, 0, 0, 0, 0, 0, 0] es = R := ⟨_, rfl⟩
 rw [hR]
 have HR := Lib.hid hR
 clear hR
 go_enter Tryz.func101, Tryz.ntmps101
 go_wp2_with fail
 go_loopw [11] (fun i wr => ∃ (q : Nat) (sl : List Int), i = .int .i64 q ∧ q ≤ es.length ∧ sl.length = 8 ∧ (∀ (k : Nat) (x : Int), sl[k]? = some x → 0 ≤ x ∧ x ≤ 4) ∧ entsB ns (prevOf es q) sl (es.drop q) = R ∧ Below w.heap.size w wr ∧ Blk wr w.heap.size (sl.map fun x => .int .i64 x).toArray 158) (fun i _ => (es.length - intOf i).toNat)
 case atStart =>
  refine ⟨0, [0, 0, 0, 0, 0, 0, 0, 0], rfl, by omega, rfl, ?_, HR.out, bel _ _, ?_⟩
  · intro k x hk; have := mG hk; simp at this; omega
  · exact Blk.new w _ 158
 case round =>
  obtain ⟨q, sl, rfl, hq, hsl, hsb, hre, hb, hblk⟩ := hrel; have iB : Bel w wr := ⟨hb⟩
  by_cases hlt : q < es.length
  · obtain ⟨z, hz⟩ : ∃ z, es[q]? = some z := ⟨_, gE hlt⟩
    obtain ⟨b1, off, rfl, iG0, iG, hc⟩ := HA.out wr hb q z.cells (by rw [gM, hz]; rfl); have c0 := hc 0 _ rfl; have c1 := hc 1 _ rfl; rw [Nat.add_zero] at c0; have iL : BlockLt w.heap.size wr := hblk.lt; have iL0 : BlockLt b wr := ⟨by have := hb.size; have := ib.lt; omega⟩
    rw [drop_at hz] at hre; unfold entsB at hre; have hnm : ∀ ww, Calls Tryz.prog 132 #[.string z.name] ww _ := fun ww => may148 z.name ww
    have hbk : ∀ ww, Calls Tryz.prog 133 #[.string z.name] ww _ := fun ww => bucket137 z.name ww
    have hfn : ∀ ww, Below w.heap.size w ww → Calls Tryz.prog 102 #[.pointer (some ⟨b, 0, none⟩), .int .i64 z.num] ww fun e w' => e = .returned (.int .i64 (findN ns z.num)) ∧ Below ww.heap.size ww w' := fun ww hww => hf ww hww z.num
    have HZ := Lib.hid hz; have HB := Lib.hid hblk; have HS := Lib.hid (And.intro hsl hsb); clear hc hz hf hblk hsl hsb; by_cases hn : nameB z.name = false
    · rw [hn] at hnm; rw [if_pos hn] at hre; subst hre; clear hn; go_wp2_with fail; refine wp_region_quiet_rest (by kernel_rfl) (by kernel_rfl) (WQ.out ?_)
      repeat
       refine WQ_step (fun K hK => ?_); go_simp
       first
        | (refine hK _ ?_; clear hK K)
        | (apply Exists.intro
           refine ⟨fun _ => ?_, hK _ ?_⟩
           focus (first | (first | refine cI (hnm _) | refine cJ (hnm _)) | (first | refine cI (hfn _ (bel _ _)) | refine cJ (hfn _ (bel _ _))))
           clear hK K)
      refine WN fun p => ?_; go_wp2_with fail; exact bodyPost_ret (v := .bool false) (by simp [results, Tryz.results101, go_sem]) rfl ⟨rfl, bel _ _⟩
    · have hn : nameB z.name = true := by simpa using hn
      rw [hn] at hnm; rw [hn, if_neg (by decide)] at hre; have HN := Lib.hid hn; clear hn; have hpv : q = 0 ∧ prevOf es q = none ∨ ∃ (k : Nat) (y : PEnt), q = k + 1 ∧ es[k]? = some y ∧ prevOf es q = some y.name := by
       by_cases hq0 : q = 0
       · exact .inl ⟨hq0, by simp [prevOf, hq0]⟩
       · have hk : q - 1 < es.length := by omega
         refine .inr ⟨q - 1, es[q - 1], by omega, gE hk, ?_⟩; unfold prevOf; rw [if_neg hq0, gE hk]; rfl
      have hcase : (∃ (qz : (q : Int) = 0), prevBad (prevOf es q) z.name = false) ∨ ∃ (k : Nat) (y : PEnt), (q : Int) - 1 = k ∧ k < es.length ∧ 0 < (q : Int) ∧ prevBad (prevOf es q) z.name = (!Op.bytesLess y.name.toList z.name.toList) ∧ wr.cell? ⟨b1, off + k * 2, none⟩ = some (.string y.name) := by
       rcases hpv with ⟨h0, hp⟩ | ⟨k, y, hk, hy, hp⟩
       · exact .inl ⟨by omega, by rw [hp]; rfl⟩
       · refine .inr ⟨k, y, by omega, by omega, by omega, by rw [hp]; rfl, ?_⟩; obtain ⟨b2, off2, he2, _, _, hc2⟩ := HA.out wr hb k y.cells (by rw [gM, hy]; rfl); cases he2; exact hc2 0 _ rfl
      clear hpv; generalize hpb : prevBad (prevOf es q) z.name = pb at hre hcase; clear hpb; obtain ⟨bk, hbkv⟩ : ∃ bk : Nat, bucketM z.name = bk := ⟨(bucketM z.name).toNat, by have := bucketM_lt z.name; omega⟩
      have hbk8 : bk < 8 := by have := bucketM_lt z.name; omega
      have hbk8I : (bk : Int) < 8 := by omega
      obtain ⟨x, hx⟩ : ∃ x, sl[bk]? = some x := ⟨_, gE (by have := HS.out.1; omega)⟩
      obtain ⟨hx0, hx4⟩ := HS.out.2 bk x hx; have c3 : wr.cell? ⟨w.heap.size, bk, none⟩ = some (.int .i64 x) := by rw [HB.out.cell bk]; simp [hx]
      have fz : wr.frozen? ⟨w.heap.size, bk, none⟩ = false := HB.out.frozen bk; rw [hbkv, Int.toNat_natCast, hx] at hre; simp only at hre; rw [hbkv] at hbk; clear hbkv; have HX := Lib.hid hx; clear hx; have ew : IntKind.i64.wrap (x + 1) = x + 1 := I64.wrap ⟨by omega, by omega⟩; have hnx : ∀ (wz : World), Bel w wz → Blk wz w.heap.size ((sl.map fun x => Value.int .i64 x).toArray.setIfInBounds bk (.int .i64 (x + 1))) 158 → ¬ 4 < x + 1 → entsB ns (some z.name) (sl.set bk (x + 1)) (es.drop (q + 1)) = R →
       ∃ (q' : Nat) (sl : List Int), Value.int .i64 ((q : Int) + 1) = .int .i64 q' ∧ q' ≤ es.length ∧ sl.length = 8 ∧ (∀ (k : Nat) (x : Int), sl[k]? = some x → 0 ≤ x ∧ x ≤ 4) ∧ entsB ns (prevOf es q') sl (es.drop q') = R ∧ Below w.heap.size w wz ∧ Blk wz w.heap.size (sl.map fun x => .int .i64 x).toArray 158 := by
       intro wz hwz hbz hx5 hr; refine ⟨q + 1, sl.set bk (x + 1), by rfl, by omega, by rw [List.length_set]; exact HS.out.1, ?_, ?_, hwz.below, ?_⟩
       · intro k u hu; by_cases hkb : bk = k
         · subst hkb; have hl8 : bk < sl.length := by have := HS.out.1; omega
           rw [List.getElem?_set_self hl8] at hu; cases hu; omega
         · rw [List.getElem?_set_ne hkb] at hu; exact HS.out.2 k u hu
       · have hp : prevOf es (q + 1) = some z.name := by
          unfold prevOf; rw [if_neg (by omega), Nat.add_sub_cancel, HZ.out]; rfl
         rw [hp]; exact hr
       · rw [sA, ← List.map_set] at hbz; exact hbz
      have HNX := Lib.hid hnx; clear hnx; rcases hcase with ⟨hq0, rfl⟩ | ⟨k, y, hk1, hkl, hq1, rfl, c2⟩
      · obtain rfl : q = 0 := by omega
        simp only [Nat.zero_mul, Nat.add_zero] at c0 c1; rw [if_neg (by decide)] at hre; by_cases h1 : z.num = 1
        · rw [if_pos h1] at hre; subst hre; go_wp2_with fail; refine wp_region_quiet_rest (by kernel_rfl) (by kernel_rfl) (WQ.out ?_)
          repeat
           refine WQ_step (fun K hK => ?_); go_simp
           first
            | (refine hK _ ?_; clear hK K)
            | (apply Exists.intro
               refine ⟨fun _ => ?_, hK _ ?_⟩
               focus (first | (first | refine cI (hnm _) | refine cJ (hnm _)) | (first | refine cI (hfn _ (bel _ _)) | refine cJ (hfn _ (bel _ _))))
               clear hK K)
          refine WN fun p => ?_; go_wp2_with fail; exact bodyPost_ret (v := .bool false) (by simp [results, Tryz.results101, go_sem]) rfl ⟨rfl, bel _ _⟩
        · rw [if_neg h1] at hre; have h1b : (z.num == 1) = false := by simpa using h1
          generalize findN ns z.num = fv at hfn hre; by_cases h2 : fv < 0
          · rw [if_pos h2] at hre; subst hre; go_wp2_with fail; refine wp_region_quiet_rest (by kernel_rfl) (by kernel_rfl) (WQ.out ?_)
            repeat
             refine WQ_step (fun K hK => ?_); go_simp
             first
              | (refine hK _ ?_; clear hK K)
              | (apply Exists.intro
                 refine ⟨fun _ => ?_, hK _ ?_⟩
                 focus (first | (first | refine cI (hnm _) | refine cJ (hnm _)) | (first | refine cI (hfn _ (bel _ _)) | refine cJ (hfn _ (bel _ _))))
                 clear hK K)
            refine WN fun p => ?_; go_wp2_with fail; exact bodyPost_ret (v := .bool false) (by simp [results, Tryz.results101, go_sem]) rfl ⟨rfl, bel _ _⟩
          · rw [if_neg h2] at hre; by_cases h3 : 4 < x + 1
            · rw [if_pos h3] at hre; subst hre; go_wp2_with fail; refine wp_region_quiet_rest (by kernel_rfl) (by kernel_rfl) (WQ.out ?_)
              repeat
               refine WQ_step (fun K hK => ?_); go_simp
               first
                | (refine hK _ ?_; clear hK K)
                | (apply Exists.intro
                   refine ⟨fun _ => ?_, hK _ ?_⟩
                   focus (first | (first | refine cI (hnm _) | refine cJ (hnm _)) | (first | refine cI (hfn _ (bel _ _)) | refine cJ (hfn _ (bel _ _))))
                   clear hK K)
              refine WN fun p => ?_; go_wp2_with ((go_at_call 133; refine aT (hbk _) fun p => ?_))
              exact bodyPost_ret (v := .bool false) (by simp [results, Tryz.results101, go_sem]) rfl ⟨rfl, bel _ _⟩
            · rw [if_neg h3] at hre; have HRE := Lib.hid hre; clear hre; go_wp2_with fail; refine wp_region_quiet_rest (by kernel_rfl) (by kernel_rfl) (WQ.out ?_)
              repeat
               refine WQ_step (fun K hK => ?_); go_simp
               first
                | (refine hK _ ?_; clear hK K)
                | (apply Exists.intro
                   refine ⟨fun _ => ?_, hK _ ?_⟩
                   focus (first | (first | refine cI (hnm _) | refine cJ (hnm _)) | (first | refine cI (hfn _ (bel _ _)) | refine cJ (hfn _ (bel _ _))))
                   clear hK K)
              refine WN fun p => ?_; go_wp2_with ((go_at_call 133; refine aT (hbk _) fun p => ?_))
              go_roundw
              case rel =>
               first | exact HNX.out _ ⟨bel _ _⟩ (((HB.out.set_ _ _).alloc _).junk _) h3 HRE.out | (simpa using HNX.out _ ⟨bel _ _⟩ (((HB.out.set_ _ _).alloc _).junk _) h3 HRE.out)
              case measure => simp [intOf]; omega
      · have hq1N : 0 < q := by omega
        have hwk : IntKind.i64.wrap (k : Int) = k := I64.wrap ⟨by omega, by omega⟩; by_cases h0 : Op.bytesLess y.name.toList z.name.toList = true
        · rw [h0, Bool.not_true, if_neg (by decide)] at hre; by_cases h1 : z.num = 1
          · rw [if_pos h1] at hre; subst hre; go_wp2_with fail; refine wp_region_quiet_rest (by kernel_rfl) (by kernel_rfl) (WQ.out ?_)
            repeat
             refine WQ_step (fun K hK => ?_); go_simp
             first
              | (refine hK _ ?_; clear hK K)
              | (apply Exists.intro
                 refine ⟨fun _ => ?_, hK _ ?_⟩
                 focus (first | (first | refine cI (hnm _) | refine cJ (hnm _)) | (first | refine cI (hfn _ (bel _ _)) | refine cJ (hfn _ (bel _ _))))
                 clear hK K)
            refine WN fun p => ?_; go_wp2_with fail; exact bodyPost_ret (v := .bool false) (by simp [results, Tryz.results101, go_sem]) rfl ⟨rfl, bel _ _⟩
          · rw [if_neg h1] at hre; have h1b : (z.num == 1) = false := by simpa using h1
            generalize findN ns z.num = fv at hfn hre; by_cases h2 : fv < 0
            · rw [if_pos h2] at hre; subst hre; go_wp2_with fail; refine wp_region_quiet_rest (by kernel_rfl) (by kernel_rfl) (WQ.out ?_)
              repeat
               refine WQ_step (fun K hK => ?_); go_simp
               first
                | (refine hK _ ?_; clear hK K)
                | (apply Exists.intro
                   refine ⟨fun _ => ?_, hK _ ?_⟩
                   focus (first | (first | refine cI (hnm _) | refine cJ (hnm _)) | (first | refine cI (hfn _ (bel _ _)) | refine cJ (hfn _ (bel _ _))))
                   clear hK K)
              refine WN fun p => ?_; go_wp2_with fail; exact bodyPost_ret (v := .bool false) (by simp [results, Tryz.results101, go_sem]) rfl ⟨rfl, bel _ _⟩
            · rw [if_neg h2] at hre; by_cases h3 : 4 < x + 1
              · rw [if_pos h3] at hre; subst hre; go_wp2_with fail; refine wp_region_quiet_rest (by kernel_rfl) (by kernel_rfl) (WQ.out ?_)
                repeat
                 refine WQ_step (fun K hK => ?_); go_simp
                 first
                  | (refine hK _ ?_; clear hK K)
                  | (apply Exists.intro
                     refine ⟨fun _ => ?_, hK _ ?_⟩
                     focus (first | (first | refine cI (hnm _) | refine cJ (hnm _)) | (first | refine cI (hfn _ (bel _ _)) | refine cJ (hfn _ (bel _ _))))
                     clear hK K)
                refine WN fun p => ?_; go_wp2_with ((go_at_call 133; refine aT (hbk _) fun p => ?_))
                exact bodyPost_ret (v := .bool false) (by simp [results, Tryz.results101, go_sem]) rfl ⟨rfl, bel _ _⟩
              · rw [if_neg h3] at hre; have HRE := Lib.hid hre; clear hre; go_wp2_with fail; refine wp_region_quiet_rest (by kernel_rfl) (by kernel_rfl) (WQ.out ?_)
                repeat
                 refine WQ_step (fun K hK => ?_); go_simp
                 first
                  | (refine hK _ ?_; clear hK K)
                  | (apply Exists.intro
                     refine ⟨fun _ => ?_, hK _ ?_⟩
                     focus (first | (first | refine cI (hnm _) | refine cJ (hnm _)) | (first | refine cI (hfn _ (bel _ _)) | refine cJ (hfn _ (bel _ _))))
                     clear hK K)
                refine WN fun p => ?_; go_wp2_with ((go_at_call 133; refine aT (hbk _) fun p => ?_))
                go_roundw
                case rel =>
                 first | exact HNX.out _ ⟨bel _ _⟩ (((HB.out.set_ _ _).alloc _).junk _) h3 HRE.out | (simpa using HNX.out _ ⟨bel _ _⟩ (((HB.out.set_ _ _).alloc _).junk _) h3 HRE.out)
                case measure => simp [intOf]; omega
        · have h0 : Op.bytesLess y.name.toList z.name.toList = false := by simpa using h0
          rw [h0, Bool.not_false, if_pos rfl] at hre; subst hre; go_wp2_with fail; refine wp_region_quiet_rest (by kernel_rfl) (by kernel_rfl) (WQ.out ?_)
          repeat
           refine WQ_step (fun K hK => ?_); go_simp
           first
            | (refine hK _ ?_; clear hK K)
            | (apply Exists.intro
               refine ⟨fun _ => ?_, hK _ ?_⟩
               focus (first | (first | refine cI (hnm _) | refine cJ (hnm _)) | (first | refine cI (hfn _ (bel _ _)) | refine cJ (hfn _ (bel _ _))))
               clear hK K)
          refine WN fun p => ?_; go_wp2_with fail; exact bodyPost_ret (v := .bool false) (by simp [results, Tryz.results101, go_sem]) rfl ⟨rfl, bel _ _⟩
  · rw [List.drop_of_length_le (by omega)] at hre; have HRe : true = R := by rw [← hre]; rfl
    subst HRe; clear hf hre; go_wp2_with fail; exact bodyPost_ret (v := .bool true) (by simp [results, Tryz.results101, go_sem]) rfl ⟨rfl, bel _ _⟩
end Go.Proofs.YtmkapobnfigedaaGreatDoor
