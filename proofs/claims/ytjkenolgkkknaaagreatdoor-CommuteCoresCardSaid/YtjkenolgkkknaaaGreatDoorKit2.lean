/- Words for slices of integers that came in. Conditions: none. -/
import Derived.Test.YtjkenolgkkknaaaGreatDoorKit
namespace Go.RowKit
/-- A slice of integers that came in: nil, or a row of 'cap' cells, the first 'len' its elements. -/
def IsRow (k : IntKind) (w : World) (a : Option Addr) (len cap : Nat) (zs : List Int) : Prop :=
  (a = none ∧ len = 0 ∧ cap = 0 ∧ zs = []) ∨
  ∃ x, a = some x ∧ len ≤ cap ∧ cap ≤ maxLen ∧ zs.length = cap ∧ (∀ i, i < zs.length → w.cell? (x.add i) = some (.int k (zs.getD i 0))) ∧ ∀ n ∈ zs, (Lit.int k n).wf = true
/-- The number at a place, and its bounds. -/
theorem IsRow.at_ {w : World} {a : Option Addr} {len cap : Nat} {zs : List Int} (h : IsRow .i64 w a len cap zs) {i : Nat} (hi : i < len) :
    ∃ b off z, a = some ⟨b, off, none⟩ ∧ b < w.heap.size ∧ w.cell? ⟨b, off + i, none⟩ = some (.int .i64 z) ∧ -9223372036854775808 ≤ z ∧ z ≤ 9223372036854775807 := by
  rcases h with ⟨_, h0, _⟩ | ⟨⟨b, off, spot⟩, e, hl, _, hz, hc, hw⟩
  · omega
  · have hi' : i < zs.length := by omega
    have hwf := hw _ (List.getElem_mem hi')
    have hcell := hc i hi'
    have h0 := hc 0 (by omega)
    have hsp : spot = none := by
      cases spot with
      | none => rfl
      | some s =>
        simp only [Addr.add, if_true] at h0
        unfold World.cell? at h0
        split at h0 <;> simp at h0
    subst hsp
    have ea : (⟨b, off, none⟩ : Addr).add i = ⟨b, off + i, none⟩ := by unfold Addr.add; split <;> simp_all
    rw [ea] at hcell
    refine ⟨b, off, zs[i], e, World.block_lt_of_cell? _ _ hcell, ?_, ?_⟩
    · rw [hcell, List.getD_eq_getElem?_getD, List.getElem?_eq_getElem hi']; rfl
    · simpa [Lit.wf, IntKind.min, IntKind.max, IntKind.signed, IntKind.bits] using hwf
theorem IsRow.below {w w' : World} {B : Nat} {k : IntKind} {a : Option Addr} {len cap : Nat} {zs : List Int} (h : IsRow k w a len cap zs) (hb : Below B w w') (hB : w.heap.size ≤ B) : IsRow k w' a len cap zs := by
  rcases h with h | ⟨x, e, hl, hm, hz, hc, hw⟩
  · exact .inl h
  · refine .inr ⟨x, e, hl, hm, hz, fun i hi => ?_, hw⟩
    have h1 := hc i hi
    have h2 := World.block_lt_of_cell? _ _ h1
    rw [hb.cell (by omega)]; exact h1
theorem IsRow.len_le {w : World} {a : Option Addr} {len cap : Nat} {zs : List Int} (h : IsRow .i64 w a len cap zs) : len ≤ 9223372036854775807 := by
  rcases h with ⟨_, h0, _⟩ | ⟨x, e, hl, hm, _⟩
  · omega
  · unfold maxLen at hm; omega
theorem i64_and_low (n : Int) (m : Nat) (k : Nat) (hk : (BitVec.ofInt 64 (m : Int)).toNat = 2 ^ k - 1) (h2 : k < 63) : bits .and .i64 n m = n % (2 ^ k : Nat) := by
  have key : (BitVec.ofInt 64 n &&& BitVec.ofInt 64 (m : Int)).toNat = (n % ((2 ^ 64 : Nat) : Int)).toNat % 2 ^ k := by
    rw [BitVec.toNat_and, BitVec.toNat_ofInt, hk, Nat.and_two_pow_sub_one_eq_mod]
  have hpos : 0 < 2 ^ k := Nat.two_pow_pos k
  have hlt : 2 ^ k ≤ 2 ^ 62 := Nat.pow_le_pow_right (by omega) (by omega)
  have hmod : (n % ((2 ^ 64 : Nat) : Int)).toNat % 2 ^ k < 2 ^ k := Nat.mod_lt _ hpos
  show IntKind.i64.wrap ((BitVec.ofInt 64 n &&& BitVec.ofInt 64 (m : Int)).toNat : Nat) = n % (2 ^ k : Nat)
  rw [key, IntKind.wrap_i64]
  have e : (((n % ((2 ^ 64 : Nat) : Int)).toNat % 2 ^ k : Nat) : Int) = n % (2 ^ k : Nat) := by
    rw [Int.natCast_emod, Int.toNat_of_nonneg (Int.emod_nonneg _ (by decide))]
    exact Int.emod_emod_of_dvd n (Int.natCast_dvd_natCast.2 (Nat.pow_dvd_pow 2 (by omega)))
  omega
@[go_sem] theorem i64_and1 (n : Int) : bits .and .i64 n 1 = n % 2 := i64_and_low n 1 1 (by decide) (by omega)
@[go_sem] theorem i64_and3 (n : Int) : bits .and .i64 n 3 = n % 4 := i64_and_low n 3 2 (by decide) (by omega)
@[go_sem] theorem i64_and7 (n : Int) : bits .and .i64 n 7 = n % 8 := i64_and_low n 7 3 (by decide) (by omega)
@[go_sem] theorem i64_and15 (n : Int) : bits .and .i64 n 15 = n % 16 := i64_and_low n 15 4 (by decide) (by omega)
@[go_sem] theorem i64_and63 (n : Int) : bits .and .i64 n 63 = n % 64 := i64_and_low n 63 6 (by decide) (by omega)
@[go_sem] theorem i64_and255 (n : Int) : bits .and .i64 n 255 = n % 256 := i64_and_low n 255 8 (by decide) (by omega)
/-- A number made unsigned, by a small one: what is left. -/
theorem u64_rem (z : Int) (m : Int) (hm : 0 < m) : ∃ v, (IntKind.u64.wrap z).tmod m = v ∧ 0 ≤ v ∧ v < m := by
  have h0 : 0 ≤ IntKind.u64.wrap z := by simp [IntKind.wrap, IntKind.bits, IntKind.signed]; omega
  rw [Int.tmod_eq_emod_of_nonneg h0]
  exact ⟨_, rfl, Int.emod_nonneg _ (by omega), Int.emod_lt_of_pos _ (by omega)⟩
/-- A block's number is not below a world's. -/
class BlockGe (b : Nat) (a : World) : Prop where
  ge : a.heap.size ≤ b
section
variable {a w : World} {b n : Nat}
instance : BlockGe a.heap.size a := ⟨Nat.le_refl _⟩
instance [h : BlockGe n a] : BlockGe (n + b) a := ⟨by have := h.ge; omega⟩
instance {i : Nat} {s : Option Nat} {v : Value} [h : Bel a w] [h2 : BlockGe b a] : Bel a (w.setCell ⟨b, i, s⟩ v) := ⟨h.below.setCell h2.ge v⟩
theorem blk_lt (b : Nat) (w : World) [h : BlockLt b w] : b < w.heap.size := h.lt
end
end Go.RowKit
