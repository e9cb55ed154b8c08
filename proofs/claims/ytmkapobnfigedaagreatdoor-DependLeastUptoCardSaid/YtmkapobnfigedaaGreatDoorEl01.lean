/- Words for worlds: garbage behind a world; which blocks a world has, found by instances. Conditions: none. Words for slices of integers that came in. Conditions: none. Words for blocks that are known whole, and for what a call leaves alone. Conditions: none. A region that draws its order: one walk in the order of the text serves, where each operation but a few only looks (and answers one value in every world that meets S), and these few come up in one order. Conditions: none. A region that draws its order and only looks, walked one operation at a time behind a wrapper; the cells of an owned row. Conditions: none. -/
import Derived.WalkKit
import Derived.WalkSpells
import Derived.WalkLawsBesides
import Derived.Deep.QuietTactic
import Derived.BigQuiet
import Derived.Lib.Hide
import Derived.Test.YtmkapobnfigedaaGreatDoorRows
import Derived.Deep.RegionHeld3
import Derived.Deep.DeepCutAuto
import Derived.Maps.AppendAt
import Derived.RegionTactic
import Derived.OwnWalk
set_option linter.unusedVariables false
namespace Go
structure Behind where
 G : Array Obj
 d : Nat
instance : Inhabited Behind := ⟨⟨#[], 0⟩⟩
def Behind.len (p : Behind) : Nat := p.G.size
def Behind.more (p q : Behind) : Behind := ⟨p.G ++ q.G, q.d⟩
def Behind.drew (p : Behind) : Behind := ⟨p.G, p.d + 1⟩
def World.junk (w : World) (p : Behind) : World := { w with heap := w.heap ++ p.G, drawn := p.d }
theorem World.size_junk0 (w : World) (p : Behind) : (w.junk p).heap.size = w.heap.size + p.len := by simp [World.junk, Behind.len]
theorem World.heap_junk (w : World) (p : Behind) {b : Nat} (h : b < w.heap.size) : (w.junk p).heap[b]? = w.heap[b]? := by
 simp only [World.junk]; rw [Array.getElem?_append_left h]
class SizeIs (w : World) (n : outParam Nat) : Prop where
 eq : w.heap.size = n
class BlockLt (b : Nat) (w : World) : Prop where
 lt : b < w.heap.size
section
variable {w : World} {b n : Nat}
instance (priority := low) : SizeIs w w.heap.size := ⟨rfl⟩
instance {o : Obj} [h : SizeIs w n] : SizeIs (w.alloc o) (n + 1) := ⟨by simp [h.eq]⟩
instance {p : Behind} [h : SizeIs w n] : SizeIs (w.junk p) (n + p.len) := ⟨by simp [World.size_junk0, h.eq]⟩
instance {a : Addr} {v : Value} [h : SizeIs w n] : SizeIs (w.setCell a v) n := ⟨by simp [h.eq]⟩
instance [h : SizeIs w n] : SizeIs w.drew n := ⟨by simp [h.eq]⟩
instance (priority := low) {o : Obj} [h : SizeIs w n] : BlockLt n (w.alloc o) := ⟨by simp [h.eq]⟩
instance {o : Obj} [h : BlockLt b w] : BlockLt b (w.alloc o) := ⟨by have := h.lt; simp; omega⟩
instance {p : Behind} [h : BlockLt b w] : BlockLt b (w.junk p) := ⟨by have := h.lt; simp [World.size_junk0]; omega⟩
instance {a : Addr} {v : Value} [h : BlockLt b w] : BlockLt b (w.setCell a v) := ⟨by have := h.lt; simpa using this⟩
instance [h : BlockLt b w] : BlockLt b w.drew := ⟨by have := h.lt; simpa using this⟩
end
section
variable (w : World) (p : Behind) {b o : Nat}
@[go_sem, simp] theorem World.size_junk : (w.junk p).heap.size = w.heap.size + p.len := World.size_junk0 w p
@[go_sem] theorem World.cell?_junk [h : BlockLt b w] : (w.junk p).cell? ⟨b, o, none⟩ = w.cell? ⟨b, o, none⟩ := by
 unfold World.cell?; simp only; rw [World.heap_junk w p h.lt]
@[go_sem] theorem World.frozen?_junk [h : BlockLt b w] : (w.junk p).frozen? ⟨b, o, none⟩ = w.frozen? ⟨b, o, none⟩ := by
 unfold World.frozen?; simp only; rw [World.heap_junk w p h.lt]
@[go_sem] theorem World.cell?_alloc_i (x : Obj) [h : BlockLt b w] : (w.alloc x).cell? ⟨b, o, none⟩ = w.cell? ⟨b, o, none⟩ := World.cell?_alloc_lt w x ⟨b, o, none⟩ h.lt
@[go_sem] theorem World.frozen?_alloc_i (x : Obj) [h : BlockLt b w] : (w.alloc x).frozen? ⟨b, o, none⟩ = w.frozen? ⟨b, o, none⟩ :=
 World.frozen?_alloc_old w x ⟨b, o, none⟩ (Nat.ne_of_lt h.lt)
@[go_sem] theorem World.setCell_alloc_i (x : Obj) (v : Value) [h : BlockLt b w] : (w.alloc x).setCell ⟨b, o, none⟩ v = (w.setCell ⟨b, o, none⟩ v).alloc x := World.setCell_alloc_past x b o v h.lt
@[go_sem] theorem World.setCell_junk (v : Value) [h : BlockLt b w] : (w.junk p).setCell ⟨b, o, none⟩ v = (w.setCell ⟨b, o, none⟩ v).junk p := by
 have h := h.lt
 unfold World.setCell World.junk
 congr 1
 apply Array.ext_getElem?
 intro k
 simp only [Array.getElem?_modify, Array.getElem?_append, Array.size_modify]
 by_cases hk : b = k
 · subst hk; simp [h]
 · simp [hk]
@[go_sem] theorem World.drew_junk : (w.junk p).drew = w.junk p.drew := rfl
@[go_sem, simp] theorem World.tape_junk : (w.junk p).tape = w.tape := rfl
@[go_sem] theorem World.junk_junk (q : Behind) : (w.junk p).junk q = w.junk (p.more q) := by simp [World.junk, Behind.more]
end
namespace RowKit
theorem Below.rest {w w' : World} (h : Below w.heap.size w w') : ∃ p : Behind, w' = w.junk p := by
 refine ⟨⟨w'.heap.extract w.heap.size w'.heap.size, w'.drawn⟩, ?_⟩
 obtain ⟨ho, ht, hp, hs, hb⟩ := h
 cases w' with | mk heap' tape' drawn' os' output' =>
 cases w with | mk heap tape drawn os output =>
 simp only at ho ht hp hs hb ⊢
 subst ho; subst ht; subst hp
 simp only [World.junk, World.mk.injEq, and_true]
 apply Array.ext_getElem?
 intro k
 by_cases hk : k < heap.size
 · rw [hb k hk, Array.getElem?_append_left hk]
 · rw [Array.getElem?_append_right (by omega), Array.getElem?_extract]; by_cases hk' : k < heap'.size
   · rw [if_pos (by simp; omega)]; congr 1; omega
   · rw [if_neg (by simp; omega)]; exact Array.getElem?_eq_none (by omega)
theorem below_junk (B : Nat) (a w : World) (p : Behind) (h : Below B a w) (hB : B ≤ w.heap.size) : Below B a (w.junk p) :=
 h.trans ⟨rfl, rfl, rfl, by simp, fun k hk => World.heap_junk w p (by omega)⟩
theorem below_of_junk (w : World) (p : Behind) : Below w.heap.size w (w.junk p) := below_junk _ _ _ _ (Below.refl _ _) (Nat.le_refl _)
theorem wp_region_quiet_rest {P : Program} {id : Nat} {Q : Exit → Act → World → Prop} {a : Act} {w : World} {l : List Oper} (hm : P.follows .mixedOrders = true) (hB : Region.lexB .any l.toArray = true)
 (h : wpQuiet P l.toArray (fun w' => ∃ p : Behind, w' = w.junk p) (fun a' => ∀ w', (∃ p : Behind, w' = w.junk p) → Q .normal a' w') l a) : (Code.region id l.toArray true).wp P Q a w :=
 wp_region_quiet (C := fun w' => ∃ p : Behind, w' = w.junk p) hm hB ⟨⟨#[], w.drawn + 1⟩, by simp [World.junk]⟩ (by simpa using h)
theorem calls_in {P : Program} {f : FuncId} {args : Array Value} {w : World} {v : Value} {C : World → Prop}
 (h : Calls P f args w fun e w' => e = .returned v ∧ Below w.heap.size w w') (hC : ∀ w', Below w.heap.size w w' → C w') : Calls P f args w fun e w'' => e = .returned v ∧ C w'' :=
 h.mono fun _ _ ⟨he, hb⟩ => ⟨he, hC _ hb⟩
theorem rest1 {w w' : World} {q : Behind} (hb : Below (w.junk q).heap.size (w.junk q) w') : ∃ p : Behind, w' = w.junk p :=
 ((below_of_junk w q).trans (hb.mono (by simp))).rest
theorem rest2 {w w' : World} {A q : Behind} (hb : Below (w.junk (A.more q)).heap.size (w.junk (A.more q)) w') : ∃ p : Behind, w' = w.junk (A.more p) := by
 rw [← World.junk_junk] at hb
 obtain ⟨p, hp⟩ := rest1 hb
 exact ⟨p, by rw [hp, World.junk_junk]⟩
class Bel (a w : World) : Prop where
 below : Below a.heap.size a w
section
variable {a w : World}
instance : Bel a a := ⟨Below.refl _ _⟩
instance {o : Obj} [h : Bel a w] : Bel a (w.alloc o) := ⟨h.below.alloc h.below.size o⟩
instance {q : Behind} [h : Bel a w] : Bel a (w.junk q) := ⟨below_junk _ _ _ _ h.below h.below.size⟩
instance [h : Bel a w] : Bel a w.drew := ⟨h.below.drew⟩
theorem bel (a w : World) [h : Bel a w] : Below a.heap.size a w := h.below
end
end RowKit
end Go
namespace Go.RowKit
theorem i64_and_low (n : Int) (m : Nat) (k : Nat) (hk : (BitVec.ofInt 64 (m : Int)).toNat = 2 ^ k - 1) (h2 : k < 63) : bits .and .i64 n m = n % (2 ^ k : Nat) := by
 have key : (BitVec.ofInt 64 n &&& BitVec.ofInt 64 (m : Int)).toNat = (n % ((2 ^ 64 : Nat) : Int)).toNat % 2 ^ k := by
  rw [BitVec.toNat_and, BitVec.toNat_ofInt, hk, Nat.and_two_pow_sub_one_eq_mod]
 have hpos : 0 < 2 ^ k := Nat.two_pow_pos k
 have hlt : 2 ^ k ≤ 2 ^ 62 := Nat.pow_le_pow_right (by omega) (by omega)
 have hmod : (n % ((2 ^ 64 : Nat) : Int)).toNat % 2 ^ k < 2 ^ k := Nat.mod_lt _ hpos
 show IntKind.i64.wrap ((BitVec.ofInt 64 n &&& BitVec.ofInt 64 (m : Int)).toNat : Nat) = n % (2 ^ k : Nat)
 rw [key, IntKind.wrap_i64]
 have e : (((n % ((2 ^ 64 : Nat) : Int)).toNat % 2 ^ k : Nat) : Int) = n % (2 ^ k : Nat) := by
  rw [Int.natCast_emod, Int.toNat_of_nonneg (Int.emod_nonneg _ (by decide))]; exact Int.emod_emod_of_dvd n (Int.natCast_dvd_natCast.2 (Nat.pow_dvd_pow 2 (by omega)))
 omega
@[go_sem] theorem i64_and1 (n : Int) : bits .and .i64 n 1 = n % 2 := i64_and_low n 1 1 (by decide) (by omega)
@[go_sem] theorem i64_and3 (n : Int) : bits .and .i64 n 3 = n % 4 := i64_and_low n 3 2 (by decide) (by omega)
@[go_sem] theorem i64_and7 (n : Int) : bits .and .i64 n 7 = n % 8 := i64_and_low n 7 3 (by decide) (by omega)
@[go_sem] theorem i64_and15 (n : Int) : bits .and .i64 n 15 = n % 16 := i64_and_low n 15 4 (by decide) (by omega)
@[go_sem] theorem i64_and63 (n : Int) : bits .and .i64 n 63 = n % 64 := i64_and_low n 63 6 (by decide) (by omega)
@[go_sem] theorem i64_and255 (n : Int) : bits .and .i64 n 255 = n % 256 := i64_and_low n 255 8 (by decide) (by omega)
class BlockGe (b : Nat) (a : World) : Prop where
 ge : a.heap.size ≤ b
section
variable {a w : World} {b n : Nat}
instance : BlockGe a.heap.size a := ⟨Nat.le_refl _⟩
instance [h : BlockGe n a] : BlockGe (n + b) a := ⟨by have := h.ge; omega⟩
instance {i : Nat} {s : Option Nat} {v : Value} [h : Bel a w] [h2 : BlockGe b a] : Bel a (w.setCell ⟨b, i, s⟩ v) := ⟨h.below.setCell h2.ge v⟩
end
end Go.RowKit
namespace Go
def Blk (w : World) (b : Nat) (c : Array Value) (t : TypeId) : Prop := w.heap[b]? = some (.cells c t (0, 0))
namespace Blk
variable {w w' : World} {b b' i : Nat} {c c' : Array Value} {t t' : TypeId} {v : Value}
theorem lt (h : Blk w b c t) : BlockLt b w := ⟨by
 rcases Nat.lt_or_ge b w.heap.size with hlt | hge
 · exact hlt
 · unfold Blk at h; rw [Array.getElem?_eq_none hge] at h; cases h⟩
theorem cell (h : Blk w b c t) (i : Nat) : w.cell? ⟨b, i, none⟩ = c[i]? := cell_of_row w b i c t (0, 0) h
theorem frozen (h : Blk w b c t) (i : Nat) : w.frozen? ⟨b, i, none⟩ = false := by
 unfold Blk at h
 simp [World.frozen?, h]
theorem new (w : World) (c : Array Value) (t : TypeId) : Blk (w.alloc (.cells c t)) w.heap.size c t := heap_alloc_new w _
theorem new_i (w : World) (c : Array Value) (t : TypeId) (n : Nat) [h : SizeIs w n] : Blk (w.alloc (.cells c t)) n c t := by rw [← h.eq]; exact new w c t
theorem alloc (h : Blk w b c t) (o : Obj) : Blk (w.alloc o) b c t := (RowKit.Below.heap_alloc w o b h.lt.lt).trans h
theorem junk (h : Blk w b c t) (p : Behind) : Blk (w.junk p) b c t := (World.heap_junk w p h.lt.lt).trans h
theorem drew (h : Blk w b c t) : Blk w.drew b c t := h
theorem set_ (h : Blk w b c t) (i : Nat) (v : Value) : Blk (w.setCell ⟨b, i, none⟩ v) b (c.setIfInBounds i v) t := by
 unfold Blk at h ⊢
 simp [World.setCell, Array.getElem?_modify, h]
theorem far (h : Blk w b c t) {a : Addr} (hne : b ≠ a.block) (v : Value) : Blk (w.setCell a v) b c t := (RowKit.Below.heap_setCell w a v b hne).trans h
theorem below {B : Nat} (h : Blk w b c t) (hb : RowKit.Below B w w') (hlt : b < B) : Blk w' b c t := (hb.block b hlt).trans h
theorem ne_ (h : Blk w b c t) (h' : Blk w b' c' t') (hne : t ≠ t') : b ≠ b' := by
 rintro rfl
 unfold Blk at h h'
 rw [h] at h'
 injection h' with h'
 injection h' with _ ht
 exact hne ht
theorem inj (h : Blk w b c t) (h' : Blk w b c' t') : c = c' := by
 unfold Blk at h h'
 rw [h] at h'
 injection h' with h'
 injection h' with hc _
end Blk
structure Keep (S : Nat → Prop) (w w' : World) : Prop where
 os : w'.os = w.os
 tape : w'.tape = w.tape
 output : w'.output = w.output
 size : w.heap.size ≤ w'.heap.size
 block : ∀ k, k < w.heap.size → ¬ S k → w'.heap[k]? = w.heap[k]?
namespace Keep
variable {S S' : Nat → Prop} {a w w' w'' : World}
theorem refl (S : Nat → Prop) (w : World) : Keep S w w := ⟨rfl, rfl, rfl, Nat.le_refl _, fun _ _ _ => rfl⟩
theorem trans (h : Keep S w w') (k : Keep S' w' w'') (hS : ∀ i, i < w.heap.size → S' i → S i) : Keep S w w'' :=
 ⟨k.os.trans h.os, k.tape.trans h.tape, k.output.trans h.output, Nat.le_trans h.size k.size, fun i hi hn => (k.block i (Nat.lt_of_lt_of_le hi h.size) (fun h' => hn (hS i hi h'))).trans (h.block i hi hn)⟩
theorem mono (h : Keep S w w') (hS : ∀ i, i < w.heap.size → S i → S' i) : Keep S' w w' := ⟨h.os, h.tape, h.output, h.size, fun i hi hn => h.block i hi (fun h' => hn (hS i hi h'))⟩
theorem of_below (h : RowKit.Below w.heap.size w w') (S : Nat → Prop) : Keep S w w' := ⟨h.os, h.tape, h.output, h.size, fun i hi _ => h.block i hi⟩
theorem below {B : Nat} (h : Keep S w w') (hB : B ≤ w.heap.size) (hS : ∀ i, i < B → ¬ S i) : RowKit.Below B w w' := ⟨h.os, h.tape, h.output, h.size, fun i hi => h.block i (by omega) (hS i hi)⟩
theorem alloc (h : Keep S a w) (o : Obj) : Keep S a (w.alloc o) :=
 ⟨h.os, h.tape, h.output, Nat.le_trans h.size (by simp), fun i hi hn => (RowKit.Below.heap_alloc w o i (Nat.lt_of_lt_of_le hi h.size)).trans (h.block i hi hn)⟩
theorem junk (h : Keep S a w) (p : Behind) : Keep S a (w.junk p) :=
 ⟨h.os, h.tape, h.output, Nat.le_trans h.size (by simp), fun i hi hn => (World.heap_junk w p (Nat.lt_of_lt_of_le hi h.size)).trans (h.block i hi hn)⟩
theorem drew (h : Keep S a w) : Keep S a w.drew := ⟨h.os, h.tape, h.output, h.size, h.block⟩
theorem setCell (h : Keep S a w) {p : Addr} (hp : S p.block ∨ a.heap.size ≤ p.block) (v : Value) : Keep S a (w.setCell p v) :=
 ⟨h.os, h.tape, h.output, by simpa [World.setCell] using h.size, fun i hi hn => (RowKit.Below.heap_setCell w p v i (by
  rintro rfl; rcases hp with hp | hp
  · exact hn hp
  · omega)).trans (h.block i hi hn)⟩
theorem grown (h : Keep S a w) {row : Option Nat} (hg : w.grownBy w' row) (hr : ∀ k, row = some k → S k ∨ a.heap.size ≤ k) : Keep S a w' :=
 ⟨hg.os.trans h.os, hg.tape.trans h.tape, hg.output.trans h.output, Nat.le_trans h.size hg.size, fun i hi hn => (hg.block i (Nat.lt_of_lt_of_le hi h.size) (fun e => by
  rcases hr i e.symm with h' | h'
  · exact hn h'
  · omega)).trans (h.block i hi hn)⟩
theorem blk (h : Keep S w w') {b : Nat} {c : Array Value} {t : TypeId} (hb : Blk w b c t) (hn : ¬ S b) : Blk w' b c t := (h.block b hb.lt.lt hn).trans hb
theorem own (h : Keep S w w') {base : Nat} {e : TypeId} {size n : Nat} {v : Value} {xs : List Value} (hv : w.ownsRow base e size v n xs) (hn : ∀ k, v.ownBlock = some k → ¬ S k) : w'.ownsRow base e size v n xs := by
 refine ⟨hv.1, ?_⟩
 rcases hv.2 with h0 | ⟨g, cap, cur, rfl, hb, hg, r⟩
 · exact .inl h0
 · exact .inr ⟨g, cap, cur, rfl, hb, (h.block g (Array.getElem?_eq_some_iff.1 hg).1 (hn g (by simp [Value.ownBlock]))).trans hg, r⟩
theorem lt (h : Keep S w w') {b : Nat} (hb : BlockLt b w) : BlockLt b w' := ⟨Nat.lt_of_lt_of_le hb.lt h.size⟩
end Keep
theorem own_form {w : World} {base : Nat} {e : TypeId} {size n : Nat} {v : Value} {xs : List Value} (h : w.ownsRow base e size v n xs) : ∃ a cp, v = .slice a n cp := by
 rcases h.2 with ⟨rfl, rfl⟩ | ⟨g', cap, cur, rfl, _⟩
 · exact ⟨_, _, rfl⟩
 · exact ⟨_, _, rfl⟩
theorem addr_add0 (b j : Nat) : (⟨b, 0, none⟩ : Addr).add j = ⟨b, j, none⟩ := by unfold Addr.add; split <;> simp_all
theorem news_new (w : World) (l : List Value) (t : TypeId) (n : Nat) [h : SizeIs w n] : ∀ j u, l[j]? = some u → (w.alloc (.cells l.toArray t)).cell? ((⟨n, 0, none⟩ : Addr).add j) = some u := by
 intro j u hu
 rw [addr_add0, (Blk.new_i w l.toArray t n).cell j]
 simpa using hu
end Go
namespace Go
section
variable {P : Program} {ops : Array Oper} {S : World → Prop} {E : List Nat} {lx : Bool}
def Oper.eff (P : Program) (o : Oper) (a : Act) (w : World) (K : Value → World → Prop) : Prop :=
 match (execOp a.eval o).run P w with
 | .ok (.value v) w' => K v w'
 | .ok .skip w' => K undef w'
 | .ok (.enter f args) w' => Calls P f args w' (fun e w'' => ∃ v, e = .returned v ∧ K v w'')
 | _ => False
theorem Oper.eff_mono {o : Oper} {a : Act} {w : World} {K K' : Value → World → Prop} (h : o.eff P a w K) (hk : ∀ v w', K v w' → K' v w') : o.eff P a w K' := by
 unfold Oper.eff at *
 split <;> simp_all
 rename_i h1
 exact h.mono fun e w'' ⟨v, he, hv⟩ => ⟨v, he, hk _ _ hv⟩
theorem Oper.eff_some {o : Oper} {a : Act} {w : World} {K : Value → World → Prop} (h : o.eff P a w K) : ∃ v w', K v w' := by
 unfold Oper.eff at h
 split at h
 · exact ⟨_, _, h⟩
 · exact ⟨_, _, h⟩
 · obtain ⟨e, w', _, ⟨v, _, hk⟩, _⟩ := h []; exact ⟨v, w', hk⟩
 · exact h.elim
theorem Oper.eff_same {o : Oper} {a a' : Act} {w : World} {K : Value → World → Prop} (h : o.eff P a w K) (he : execOp a'.eval o = execOp a.eval o) : o.eff P a' w K := by
 unfold Oper.eff at *
 rw [he]
 exact h
theorem Oper.wp_of_eff {o : Oper} {a : Act} {w : World} {K : Value → World → Prop} {K' : Act → World → Prop} {Q : Exit → Act → World → Prop} (h : o.eff P a w K) (hk : ∀ v w', K v w' → K' (a.put o.dst v) w') : o.wp P a w K' Q := by
 unfold Oper.eff at h
 unfold Oper.wp
 generalize (execOp a.eval o).run P w = r at *
 cases r with
 | ok n w' =>
   cases n <;> simp only [Oper.upon] at h ⊢ <;> first | exact hk _ _ h | exact h.elim | skip
   exact h.mono fun e w'' ⟨v, he, hv⟩ => by subst he; exact hk _ _ hv
 | halt x w' => exact h.elim
def YieldsS (P : Program) (ops : Array Oper) (S : World → Prop) (o : Oper) (v : Value) (a : Act) : Prop :=
 (Region.wanted o (yielded ops a.tmps) = true ∧ ∀ w, S w → (execOp a.eval o).run P w = .ok (.value v) w) ∨
 (Region.wanted o (yielded ops a.tmps) = false ∧ v = undef)
theorem YieldsS.same {o : Oper} {v : Value} {a a' : Act} (hy : YieldsS P ops S o v a) (he : execOp a'.eval o = execOp a.eval o)
 (hw : Region.wanted o (yielded ops a'.tmps) = Region.wanted o (yielded ops a.tmps)) : YieldsS P ops S o v a' := by
 unfold YieldsS at *
 rw [he, hw]
 exact hy
theorem YieldsS.one {o : Oper} {v v' : Value} {a : Act} {w : World} (hS : S w) (h : YieldsS P ops S o v a) (h' : YieldsS P ops S o v' a) : v = v' := by
 rcases h with ⟨hw, h⟩ | ⟨hw, rfl⟩ <;> rcases h' with ⟨hw', h'⟩ | ⟨hw', rfl⟩
 · have := (h w hS).symm.trans (h' w hS); simpa using this
 · rw [hw] at hw'; cases hw'
 · rw [hw] at hw'; cases hw'
 · rfl
def wpE (P : Program) (ops : Array Oper) (S : World → Prop) (E : List Nat) (lx : Bool) (Q : Act → World → Prop) : List Nat → Act → World → Prop
 | [], a, w => Q a w
 | i :: rest, a, w =>
   match ops[i]? with
   | none => False
   | some o =>
     if E.contains i = true ∧ Region.wanted o (yielded ops a.tmps) = true then
      o.eff P a w fun v w' => (S w' ∨ (lx = true ∧ i + 1 = ops.size)) ∧ wpE P ops S E lx Q rest (a.put o.dst v) w'
     else ∃ v, YieldsS P ops S o v a ∧ wpE P ops S E lx Q rest (a.put o.dst v) w
theorem apart_put {x y : Oper} (h : x.apart ops y = true) (hx : ∀ cs b, x.op ≠ .select cs b) (a : Act) (v : Value) :
 execOp (a.put y.dst v).eval x = execOp a.eval x ∧ Region.wanted x (yielded ops (a.put y.dst v).tmps) = Region.wanted x (yielded ops a.tmps) := by
 obtain ⟨_, _, h3⟩ := Oper.apart_spec h
 exact ⟨execOp_put x hx a y.dst v h3, wanted_put x a y.dst v h3⟩
theorem apart_put' {x y : Oper} (h : x.apart ops y = true) (hy : ∀ cs b, y.op ≠ .select cs b) (a : Act) (v : Value) :
 execOp (a.put x.dst v).eval y = execOp a.eval y ∧ Region.wanted y (yielded ops (a.put x.dst v).tmps) = Region.wanted y (yielded ops a.tmps) := by
 obtain ⟨h1, _, _⟩ := Oper.apart_spec h
 exact ⟨execOp_put y hy a x.dst v h1, wanted_put y a x.dst v h1⟩
variable {Q : Act → World → Prop}
theorem wpE_moveQ (hsel : ∀ (j : Nat) (o : Oper) cs b, ops[j]? = some o → o.op ≠ .select cs b) {q : Nat} {oq : Oper} (hq : ops[q]? = some oq) (l2 : List Nat) :
 ∀ (l1 : List Nat) (a : Act) (w : World), S w → (∀ k ∈ l1, k + 1 ≠ ops.size ∧ ∀ ok, ops[k]? = some ok → ok.apart ops oq = true) →
  (E.contains q = false ∨ Region.wanted oq (yielded ops a.tmps) = false) →
  wpE P ops S E lx Q (l1 ++ q :: l2) a w → ∃ v, YieldsS P ops S oq v a ∧ wpE P ops S E lx Q (l1 ++ l2) (a.put oq.dst v) w
 | [], a, w, _, _, hne, h => by
   simp only [List.nil_append, wpE, hq] at h; rw [if_neg (by rintro ⟨h1, h2⟩; rcases hne with hne | hne <;> simp_all)] at h; exact h
 | k :: l1, a, w, hS, hl, hne, h => by
   simp only [List.cons_append, wpE] at h ⊢; obtain ⟨hk1, hk2⟩ := hl k (List.mem_cons_self); cases hk : ops[k]? with
   | none => rw [hk] at h; exact h.elim
   | some ok =>
     rw [hk] at h; have hap := hk2 ok hk; have hl' : ∀ k ∈ l1, k + 1 ≠ ops.size ∧ ∀ ok, ops[k]? = some ok → ok.apart ops oq = true := fun j hj => hl j (List.mem_cons_of_mem _ hj)
     have hsk := fun cs b => hsel k ok cs b hk
     have hsq := fun cs b => hsel q oq cs b hq
     have hne' : ∀ u, E.contains q = false ∨ Region.wanted oq (yielded ops (a.put ok.dst u).tmps) = false := fun u => by
      rw [(apart_put' hap hsq a u).2]; exact hne
     simp only at h ⊢
     split at h
     · rename_i hc
       obtain ⟨v0, w0, hS0, h0⟩ := Oper.eff_some h; have hS0' : S w0 := hS0.resolve_right (fun e => hk1 e.2); obtain ⟨v, hv, _⟩ := wpE_moveQ hsel hq l2 l1 _ w0 hS0' hl' (hne' v0) h0; have hva : YieldsS P ops S oq v a := hv.same (apart_put' hap hsq a v0).1.symm (apart_put' hap hsq a v0).2.symm; refine ⟨v, hva, ?_⟩; rw [if_pos ⟨hc.1, by rw [(apart_put hap hsk a v).2]; exact hc.2⟩]; refine Oper.eff_same (Oper.eff_mono h fun v1 w1 ⟨hS1, h1⟩ => ?_) (apart_put hap hsk a v).1; have hS1' : S w1 := hS1.resolve_right (fun e => hk1 e.2); obtain ⟨v2, hv2, h2⟩ := wpE_moveQ hsel hq l2 l1 _ w1 hS1' hl' (hne' v1) h1; have e : v2 = v := YieldsS.one hS1' hv2 (hva.same (apart_put' hap hsq a v1).1 (apart_put' hap hsq a v1).2); subst e; refine ⟨.inl hS1', ?_⟩; rw [Act.put_comm a v2 v1 (fun d hd hd' => (Oper.apart_spec hap).2.1 d hd' hd)]; exact h2
     · rename_i hc
       obtain ⟨u, hu, h1⟩ := h; obtain ⟨v, hv, h2⟩ := wpE_moveQ hsel hq l2 l1 _ w hS hl' (hne' u) h1; have hva : YieldsS P ops S oq v a := hv.same (apart_put' hap hsq a u).1.symm (apart_put' hap hsq a u).2.symm; refine ⟨v, hva, ?_⟩; rw [if_neg (fun e => hc ⟨e.1, by rw [(apart_put hap hsk a v).2] at e; exact e.2⟩)]; refine ⟨u, hu.same (apart_put hap hsk a v).1 (apart_put hap hsk a v).2, ?_⟩; rw [Act.put_comm a v u (fun d hd hd' => (Oper.apart_spec hap).2.1 d hd' hd)]; exact h2
theorem wpE_moveE (hsel : ∀ (j : Nat) (o : Oper) cs b, ops[j]? = some o → o.op ≠ .select cs b) {q : Nat} {oq : Oper} (hq : ops[q]? = some oq) (hE : E.contains q = true) (l2 : List Nat) :
 ∀ (l1 : List Nat) (a : Act) (w : World), (∀ k ∈ l1, E.contains k = false ∧ ∀ ok, ops[k]? = some ok → ok.apart ops oq = true) →
  Region.wanted oq (yielded ops a.tmps) = true →
  wpE P ops S E lx Q (l1 ++ q :: l2) a w → oq.eff P a w fun v w' => (S w' ∨ (lx = true ∧ q + 1 = ops.size)) ∧ wpE P ops S E lx Q (l1 ++ l2) (a.put oq.dst v) w'
 | [], a, w, _, hw, h => by
   simp only [List.nil_append, wpE, hq] at h; rw [if_pos ⟨hE, hw⟩] at h; exact h
 | k :: l1, a, w, hl, hw, h => by
   simp only [List.cons_append, wpE] at h ⊢; obtain ⟨hk1, hk2⟩ := hl k (List.mem_cons_self); cases hk : ops[k]? with
   | none => rw [hk] at h; exact h.elim
   | some ok =>
     rw [hk] at h; have hap := hk2 ok hk; have hsk := fun cs b => hsel k ok cs b hk
     have hsq := fun cs b => hsel q oq cs b hq
     simp only at h ⊢; rw [if_neg (by rintro ⟨h1, _⟩; rw [hk1] at h1; cases h1)] at h; obtain ⟨u, hu, h1⟩ := h; have h2 := wpE_moveE hsel hq hE l2 l1 _ w (fun j hj => hl j (List.mem_cons_of_mem _ hj)) (by rw [(apart_put' hap hsq a u).2]; exact hw) h1; refine Oper.eff_same (Oper.eff_mono h2 fun v w' ⟨hS', h3⟩ => ⟨hS', ?_⟩) (apart_put' hap hsq a u).1.symm; rw [if_neg (by rintro ⟨h1, _⟩; rw [hk1] at h1; cases h1)]; refine ⟨u, hu.same (apart_put hap hsk a v).1 (apart_put hap hsk a v).2, ?_⟩; rw [← Act.put_comm a u v (fun d hd hd' => (Oper.apart_spec hap).2.1 d hd hd')]; exact h3
end
def Region.maskOk (ops : Array Oper) (M : Array Nat) : Bool :=
 (List.range ops.size).all fun i => match ops[i]? with
  | some o => (M.getD i 0 == o.after.toList.foldl (fun s e => if Region.binds .any e then s ||| 2 ^ e.on ||| M.getD e.on 0 else s) 0) && o.after.toList.all fun e => !Region.binds .any e || decide (e.on < i)
  | none => true
theorem mask_fold (M : Array Nat) (j : Nat) : ∀ (l : List Edge) (s : Nat), (l.foldl (fun s e => if Region.binds .any e then s ||| 2 ^ e.on ||| M.getD e.on 0 else s) s).testBit j = true →
 s.testBit j = true ∨ ∃ e ∈ l, Region.binds .any e = true ∧ (e.on = j ∨ (M.getD e.on 0).testBit j = true)
 | [], s, h => .inl h
 | e :: l, s, h => by
   rcases mask_fold M j l _ h with h1 | ⟨e', he', hb, h2⟩
   · dsimp only at h1; by_cases hb : Region.binds .any e = true
     · rw [if_pos hb] at h1; simp only [Nat.testBit_or, Bool.or_eq_true, Nat.testBit_two_pow, decide_eq_true_eq] at h1; rcases h1 with (h1 | h1) | h1
       · exact .inl h1
       · exact .inr ⟨e, List.mem_cons_self, hb, .inl h1⟩
       · exact .inr ⟨e, List.mem_cons_self, hb, .inr h1⟩
     · rw [if_neg hb] at h1; exact .inl h1
   · exact .inr ⟨e', List.mem_cons_of_mem _ he', hb, h2⟩
theorem mask_listed {ops : Array Oper} {M : Array Nat} (hM : Region.maskOk ops M = true) {listed : Array Bool}
 (hcl : ∀ i o, ops[i]? = some o → listed.getD i true = true → i < listed.size → ∀ e ∈ o.after, Region.binds .any e = true → listed.getD e.on false = true) (hsz : listed.size = ops.size) (j : Nat) :
 ∀ (n i : Nat) (o : Oper), i < n → ops[i]? = some o → (∀ e ∈ o.after, Region.binds .any e = true → listed.getD e.on false = true) → (M.getD i 0).testBit j = true → listed.getD j false = true
 | 0, i, _, hi, _, _, _ => by omega
 | n + 1, i, o, hi, ho, hd, ht => by
   have hlt : i < ops.size := (Array.getElem?_eq_some_iff.1 ho).1; have h1 := List.all_eq_true.1 hM i (List.mem_range.2 hlt); rw [ho] at h1; simp only [Bool.and_eq_true, beq_iff_eq] at h1; rw [h1.1] at ht; rcases mask_fold M j _ _ ht with h0 | ⟨e, he, hb, h2⟩
   · simp at h0
   · have hel := hd e (by simpa using he) hb; rcases h2 with h2 | h2
     · rw [← h2]; exact hel
     · have hon : e.on < i := by
        have := List.all_eq_true.1 h1.2 e he; simpa [hb] using this
       have hlt' : e.on < ops.size := by omega
       obtain ⟨o', ho'⟩ : ∃ o', ops[e.on]? = some o' := ⟨_, Array.getElem?_eq_getElem hlt'⟩
       refine mask_listed hM hcl hsz j n e.on o' (by omega) ho' (hcl e.on o' ho' ?_ (by omega)) h2; have hs : e.on < listed.size := by omega
       simp [hs] at hel ⊢; exact hel
def Region.effB (ops : Array Oper) (M : Array Nat) (E : List Nat) (lx : Bool) : Bool :=
 Region.noSelect ops && Region.maskOk ops M && (List.range ops.size).all fun i => (List.range i).all fun j =>
  match ops[i]?, ops[j]? with
  | some oi, some oj => ((M.getD i 0).testBit j || oj.apart ops oi) && (!(E.contains i && E.contains j) || (M.getD i 0).testBit j) && (!(lx && i + 1 == ops.size) || (M.getD i 0).testBit j)
  | _, _ => false
theorem effB_pair {ops : Array Oper} {M : Array Nat} {E : List Nat} {lx : Bool} (h : Region.effB ops M E lx = true) {i j : Nat} {oi oj : Oper} (hi : ops[i]? = some oi) (hj : ops[j]? = some oj) (hji : j < i) (hno : (M.getD i 0).testBit j = false) :
 oj.apart ops oi = true ∧ (E.contains i = true → E.contains j = false) ∧ (lx = true → i + 1 ≠ ops.size) := by
 have hlt : i < ops.size := (Array.getElem?_eq_some_iff.1 hi).1
 simp only [Region.effB, Bool.and_eq_true] at h
 have h1 := List.all_eq_true.1 (List.all_eq_true.1 h.2 i (List.mem_range.2 hlt)) j (List.mem_range.2 hji)
 rw [hi, hj] at h1
 simp only [hno, Bool.false_or, Bool.or_false, Bool.and_eq_true, Bool.not_eq_true', Bool.and_eq_false_iff] at h1
 refine ⟨h1.1.1, fun he => ?_, fun hl he => ?_⟩
 · rcases h1.1.2 with h2 | h2
   · rw [he] at h2; cases h2
   · exact h2
 · rcases h1.2 with h2 | h2
   · rw [hl] at h2; cases h2
   · simp [he] at h2
section
variable {P : Program} {ops : Array Oper} {S : World → Prop} {E : List Nat} {lx : Bool} {M : Array Nat} {Q : Exit → Act → World → Prop}
theorem wpE_any (hB : Region.effB ops M E lx = true) : ∀ (n : Nat) (R : List Nat) (listed : Array Bool) (a : Act) (w : World), R.length = n → listed.size = ops.size →
 (∀ i o, ops[i]? = some o → listed.getD i true = true → i < listed.size → ∀ e ∈ o.after, Region.binds .any e = true → listed.getD e.on false = true) →
 (∀ j, j < ops.size → (listed.getD j true = false ↔ j ∈ R)) → R.Pairwise (· < ·) → (∀ j ∈ R, j < ops.size) → (R = [] ∨ S w) →
 wpE P ops S E lx (fun a w => Q .normal a w) R a w → wpAny P .any ops Q n listed a w := by
 have hB' := hB
 simp only [Region.effB, Bool.and_eq_true] at hB'
 obtain ⟨⟨hsel0, hM⟩, _⟩ := hB'
 have hsel := Region.noSelect_spec hsel0
 intro n
 induction n with
 | zero =>
   intro R listed a w hn hsz hcl hR hso hlt hS h; obtain rfl : R = [] := List.eq_nil_of_length_eq_zero hn; refine ⟨List.eq_nil_iff_forall_not_mem.2 fun i hi => ?_, by simpa [wpE] using h⟩; obtain ⟨h0, o, ho, _⟩ := mem_ready.1 hi; have := (hR i (Array.getElem?_eq_some_iff.1 ho).1).1 h0; cases this
 | succ n ih =>
   intro R listed a w hn hsz hcl hR hso hlt hS h; have hSw : S w := by
    rcases hS with hS | hS
    · subst hS; simp at hn
    · exact hS
   have un : ∀ j, j < ops.size → j ∉ R → listed.getD j false = true := fun j hj hjR => by
    have h1 : ¬ listed.getD j true = false := fun e => hjR ((hR j hj).1 e)
    have hs : j < listed.size := by omega
    simp [hs] at h1 ⊢; exact h1
   refine ⟨fun h0 => ?_, fun i hi => ?_⟩
   · exfalso
     match R, hn with
     | r :: R', _ =>
       have hr : r < ops.size := hlt r (List.mem_cons_self); have hmem : r ∈ Region.ready .any ops listed := by
        refine mem_ready.2 ⟨(hR r hr).2 (List.mem_cons_self), _, Array.getElem?_eq_getElem hr, fun e he hb => ?_⟩; have h1 := List.all_eq_true.1 hM r (List.mem_range.2 hr); rw [Array.getElem?_eq_getElem hr] at h1; simp only [Bool.and_eq_true] at h1; have hon : e.on < r := by
         have := List.all_eq_true.1 h1.2 e (by simpa using he); simpa [hb] using this
        refine un e.on (by omega) fun hmem => ?_
        rcases List.mem_cons.1 hmem with h2 | h2
        · omega
        · have := (List.pairwise_cons.1 hso).1 _ h2; omega
       rw [h0] at hmem; cases hmem
   · obtain ⟨hi0, oi, hoi, hdep⟩ := mem_ready.1 hi; have hil : i < ops.size := (Array.getElem?_eq_some_iff.1 hoi).1; have hiR : i ∈ R := (hR i hil).1 hi0; obtain ⟨l1, l2, rfl⟩ := List.append_of_mem hiR; have hso' := List.pairwise_append.1 hso; have hl1 : ∀ k ∈ l1, k < i := fun k hk => hso'.2.2 k hk i (List.mem_cons_self)
     have hl2 : ∀ k ∈ l2, i < k := (List.pairwise_cons.1 hso'.2.1).1; have hpair : ∀ k ∈ l1, ∀ ok, ops[k]? = some ok → ok.apart ops oi = true ∧ (E.contains i = true → E.contains k = false) ∧ (lx = true → i + 1 ≠ ops.size) := fun k hk ok hok => by
      refine effB_pair hB hoi hok (hl1 k hk) ?_; rw [← Bool.not_eq_true]; intro ht; have h1 := mask_listed hM hcl hsz k (i + 1) i oi (by omega) hoi hdep ht; have h2 := (hR k (hlt k (List.mem_append_left _ hk))).2 (List.mem_append_left _ hk); have hs : k < listed.size := by have := hl1 k hk; omega
      simp [hs] at h1 h2; rw [h1] at h2; cases h2
     have hsz' : (listed.setIfInBounds i true).size = ops.size := by simpa using hsz
     have hcl' : ∀ j o, ops[j]? = some o → (listed.setIfInBounds i true).getD j true = true → j < (listed.setIfInBounds i true).size → ∀ e ∈ o.after, Region.binds .any e = true → (listed.setIfInBounds i true).getD e.on false = true := by
      intro j o ho hj hjs e he hb; by_cases hij : i = j
      · subst hij; have : o = oi := Option.some.inj (ho.symm.trans hoi); subst this; exact getD_set_true (hdep e he hb)
      · rw [getD_set_ne true hij] at hj; exact getD_set_true (hcl j o ho hj (by simpa using hjs) e he hb)
     have hR' : ∀ j, j < ops.size → ((listed.setIfInBounds i true).getD j true = false ↔ j ∈ l1 ++ l2) := by
      intro j hj; by_cases hij : i = j
      · subst hij; constructor
        · intro hf; have hs : i < listed.size := by omega
          simp [hs] at hf
        · intro hm; rcases List.mem_append.1 hm with hm | hm
          · have := hl1 _ hm; omega
          · have := hl2 _ hm; omega
      · rw [getD_set_ne true hij, hR j hj]; simp only [List.mem_append, List.mem_cons]; constructor
        · rintro (h1 | h1 | h1)
          · exact .inl h1
          · exact absurd h1.symm hij
          · exact .inr h1
        · rintro (h1 | h1)
          · exact .inl h1
          · exact .inr (.inr h1)
     have hso2 : (l1 ++ l2).Pairwise (· < ·) := hso.sublist (List.Sublist.append_left (List.sublist_cons_self i l2) l1); have hlt2 : ∀ j ∈ l1 ++ l2, j < ops.size := fun j hj => hlt j (by
      rcases List.mem_append.1 hj with h1 | h1
      · exact List.mem_append_left _ h1
      · exact List.mem_append_right _ (List.mem_cons_of_mem _ h1))
     have hlen : (l1 ++ l2).length = n := by simp at hn ⊢; omega
     unfold wpOp; simp only [hoi]; by_cases hc : E.contains i = true ∧ Region.wanted oi (yielded ops a.tmps) = true
     · have h1 := wpE_moveE hsel hoi hc.1 l2 l1 a w (fun k hk => ⟨by
        obtain ⟨ok, hok⟩ : ∃ ok, ops[k]? = some ok := ⟨_, Array.getElem?_eq_getElem (hlt k (List.mem_append_left _ hk))⟩
        exact (hpair k hk ok hok).2.1 hc.1, fun ok hok => (hpair k hk ok hok).1⟩) hc.2 h
       rw [if_pos hc.2]; refine .inl (Oper.wp_of_eff h1 fun v w' ⟨hS', h2⟩ => ih _ _ _ _ hlen hsz' hcl' hR' hso2 hlt2 ?_ h2); rcases hS' with hS' | ⟨hl, he⟩
       · exact .inr hS'
       · refine .inl ?_; have e1 : l1 = [] := List.eq_nil_iff_forall_not_mem.2 fun k hk => by
          obtain ⟨ok, hok⟩ : ∃ ok, ops[k]? = some ok := ⟨_, Array.getElem?_eq_getElem (hlt k (List.mem_append_left _ hk))⟩
          exact (hpair k hk ok hok).2.2 hl he
         have e2 : l2 = [] := List.eq_nil_iff_forall_not_mem.2 fun k hk => by
          have h3 := hl2 k hk; have h4 := hlt2 k (List.mem_append_right _ hk); omega
         rw [e1, e2]; rfl
     · obtain ⟨v, hv, h1⟩ := wpE_moveQ hsel hoi l2 l1 a w hSw (fun k hk => ⟨by have := hl1 k hk; omega, fun ok hok => (hpair k hk ok hok).1⟩) (by
        rcases Bool.eq_false_or_eq_true (E.contains i) with h2 | h2
        · exact .inr (by rw [← Bool.not_eq_true]; exact fun h3 => hc ⟨h2, h3⟩)
        · exact .inl h2) h
       have h2 := ih _ _ _ _ hlen hsz' hcl' hR' hso2 hlt2 (.inr hSw) h1; rcases hv with ⟨hw, hv⟩ | ⟨hw, rfl⟩
       · rw [if_pos hw]; refine .inl ?_; unfold Oper.wp; rw [hv w hSw]; exact h2
       · rw [if_neg (by rw [hw]; exact Bool.false_ne_true)]; exact h2
def wpL (P : Program) (ops : Array Oper) (S : World → Prop) (E : List Nat) (lx : Bool) (Q : Act → World → Prop) : Nat → List Oper → Act → World → Prop
 | _, [], a, w => Q a w
 | k, o :: rest, a, w =>
   if E.contains k = true ∧ Region.wanted o (yielded ops a.tmps) = true then
    o.eff P a w fun v w' => (S w' ∨ (lx = true ∧ k + 1 = ops.size)) ∧ wpL P ops S E lx Q (k + 1) rest (a.put o.dst v) w'
   else ∃ v, YieldsS P ops S o v a ∧ wpL P ops S E lx Q (k + 1) rest (a.put o.dst v) w
theorem wpE_of_wpL {Q : Act → World → Prop} : ∀ (l : List Oper) (k : Nat) (a : Act) (w : World), (∀ j, l[j]? = ops[k + j]? ∨ l.length ≤ j) → wpL P ops S E lx Q k l a w → wpE P ops S E lx Q (List.range' k l.length) a w
 | [], _, _, _, _, h => by simpa [wpL, wpE] using h
 | o :: l, k, a, w, hl, h => by
   have h0 : ops[k]? = some o := by
    rcases hl 0 with h0 | h0
    · simpa using h0.symm
    · simp at h0
   have hl' : ∀ j, l[j]? = ops[k + 1 + j]? ∨ l.length ≤ j := fun j => by
    rcases hl (j + 1) with h1 | h1
    · left; rw [show k + 1 + j = k + (j + 1) by omega, ← h1]; simp
    · right; simp at h1; omega
   simp only [List.length_cons, List.range'_succ, wpE, h0]; simp only [wpL] at h
   split at h
   · rename_i hc
     rw [if_pos hc]; exact Oper.eff_mono h fun v w' ⟨h1, h2⟩ => ⟨h1, wpE_of_wpL l (k + 1) _ w' hl' h2⟩
   · rename_i hc
     rw [if_neg hc]; obtain ⟨v, h1, h2⟩ := h; exact ⟨v, h1, wpE_of_wpL l (k + 1) _ w hl' h2⟩
theorem wp_region_eff {id : Nat} {a : Act} {w : World} {l : List Oper} (E : List Nat) (lx : Bool) (S : World → Prop) (hm : P.follows .mixedOrders = true) (hB : Region.effB l.toArray (Region.before l.toArray) E lx = true)
 (hS : S w.drew) (h : wpL P l.toArray S E lx (fun a' w' => Q .normal a' w') 0 l a w.drew) : (Code.region id l.toArray true).wp P Q a w := by
 have h' : wpE P l.toArray S E lx (fun a' w' => Q .normal a' w') (List.range l.length) a w.drew := by
  rw [List.range_eq_range']; exact wpE_of_wpL l 0 a w.drew (fun j => .inl (by simp)) h
 refine wp_region_any hm (wpE_any (S := S) (E := E) (lx := lx) (M := Region.before l.toArray) hB _ (List.range l.length) _ _ _ (by simp) (by simp) ?_ ?_ List.pairwise_lt_range (by simp) (.inr hS) h')
 · intro i o _ hl hs; exfalso; simp at hs; simp [hs] at hl
 · intro j hj; simp at hj; simp [hj]
end
attribute [go_sem] Oper.eff
section
variable {P : Program} {ops : Array Oper} {S : World → Prop} {E : List Nat} {lx : Bool} {Q : Act → World → Prop} {o : Oper} {a : Act} {w : World}
theorem wpL_look {k : Nat} {l : List Oper} (hE : E.contains k = false) (hw : Region.wanted o (yielded ops a.tmps) = true)
 (h : ∃ v : Value, (∀ w', S w' → (execOp a.eval o).run P w' = .ok (.value v) w') ∧ wpL P ops S E lx Q (k + 1) l (a.put o.dst v) w) : wpL P ops S E lx Q k (o :: l) a w := by
 obtain ⟨v, h1, h2⟩ := h
 simp only [wpL]
 rw [if_neg (by rintro ⟨h1, _⟩; rw [hE] at h1; cases h1)]
 exact ⟨v, .inl ⟨hw, h1⟩, h2⟩
theorem wpL_act {k : Nat} {l : List Oper} (hE : E.contains k = true) (hw : Region.wanted o (yielded ops a.tmps) = true)
 (h : o.eff P a w fun v w' => (S w' ∨ (lx = true ∧ k + 1 = ops.size)) ∧ wpL P ops S E lx Q (k + 1) l (a.put o.dst v) w') : wpL P ops S E lx Q k (o :: l) a w := by
 simp only [wpL]
 rw [if_pos ⟨hE, hw⟩]
 exact h
theorem wpL_end {k : Nat} (h : Q a w) : wpL P ops S E lx Q k [] a w := h
theorem eff_call {K : Value → World → Prop} (f : FuncId) (args : Array Value) (hr : (execOp a.eval o).run P w = .ok (.enter f args) w) (h : Calls P f args w fun e w' => ∃ v, e = .returned v ∧ K v w') : o.eff P a w K := by
 unfold Oper.eff
 rw [hr]
 exact h
end
theorem wpL_do {P : Program} {ops : Array Oper} {S : World → Prop} {E : List Nat} {lx : Bool} {Q : Act → World → Prop} {o : Oper} {a : Act} {w : World} {k : Nat} {l : List Oper} (hE : E.contains k = true) (hw : Region.wanted o (yielded ops a.tmps) = true)
 (h : ∃ (v : Value) (w' : World), (execOp a.eval o).run P w = .ok (.value v) w' ∧ (S w' ∨ (lx = true ∧ k + 1 = ops.size)) ∧ wpL P ops S E lx Q (k + 1) l (a.put o.dst v) w') : wpL P ops S E lx Q k (o :: l) a w := by
 obtain ⟨v, w', h1, h2⟩ := h
 refine wpL_act hE hw ?_
 unfold Oper.eff
 rw [h1]
 exact h2
theorem wpL_skip {P : Program} {ops : Array Oper} {S : World → Prop} {E : List Nat} {lx : Bool} {Q : Act → World → Prop} {o : Oper} {a : Act} {w : World} {k : Nat} {l : List Oper} (hE : E.contains k = true) (hw : Region.wanted o (yielded ops a.tmps) = true)
 (h : ∃ (w' : World), (execOp a.eval o).run P w = .ok .skip w' ∧ (S w' ∨ (lx = true ∧ k + 1 = ops.size)) ∧ wpL P ops S E lx Q (k + 1) l (a.put o.dst undef) w') : wpL P ops S E lx Q k (o :: l) a w := by
 obtain ⟨w', h1, h2⟩ := h
 refine wpL_act hE hw ?_
 unfold Oper.eff
 rw [h1]
 exact h2
end Go
namespace Go
section
variable {P : Program} {ops : Array Oper} {C : World → Prop} {Q : Act → Prop} {a : Act} {o : Oper} {rest : List Oper}
structure WQ (P : Program) (ops : Array Oper) (C : World → Prop) (Q : Act → Prop) (l : List Oper) (a : Act) : Prop where
 out : wpQuiet P ops C Q l a
theorem WQ_step (h : ∀ K : Act → Prop, (∀ a, WQ P ops C Q rest a → K a) → if Region.wanted o (yielded ops a.tmps) then o.quiet P a C K else K (a.put o.dst undef)) : WQ P ops C Q (o :: rest) a :=
 ⟨wpQuiet_step fun K hK => h K fun a ha => hK a ha.out⟩
theorem WQ_nil (h : Q a) : WQ P ops C Q [] a := ⟨wpQuiet_nil h⟩
end
end Go
namespace Go.Proofs.YtmkapobnfigedaaGreatDoor
open Go.RowKit
end Go.Proofs.YtmkapobnfigedaaGreatDoor
