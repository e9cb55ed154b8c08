/- A binary search finds what a look one by one finds; texts are compared alike. Conditions: none. -/
import Derived.Test.YtmkapobnfigedaaGreatDoorEl42
import Derived.Test.YtmkapobnfigedaaGreatDoorEl14
set_option linter.unusedVariables false
set_option linter.unusedSimpArgs false
namespace Go.Proofs.YtmkapobnfigedaaGreatDoor
open Go.RowKit
theorem bsFrom_spec (f : Nat → Int) : ∀ (b lo hi : Nat), lo ≤ hi → hi - lo ≤ b → (∀ i j, lo ≤ i → i ≤ j → j < hi → f j < 0 → f i < 0) →
 lo ≤ bsFrom f b lo hi ∧ bsFrom f b lo hi ≤ hi ∧ (∀ i, lo ≤ i → i < bsFrom f b lo hi → f i < 0) ∧ (∀ i, bsFrom f b lo hi ≤ i → i < hi → ¬ f i < 0)
 | 0, lo, hi, h, hb, _ => by
   have : hi = lo := by omega
   subst this; exact ⟨Nat.le_refl _, Nat.le_refl _, fun i h1 h2 => absurd h2 (by show ¬ i < hi; omega), fun i h1 h2 => absurd h2 (by have : hi ≤ i := h1; omega)⟩
 | b + 1, lo, hi, h, hb, hm => by
   unfold bsFrom; by_cases hl : lo < hi
   · rw [if_pos hl]; by_cases hf : f ((lo + hi) / 2) < 0
     · rw [if_pos hf]; obtain ⟨h1, h2, h3, h4⟩ := bsFrom_spec f b ((lo + hi) / 2 + 1) hi (by omega) (by omega) (fun i j a c d e => hm i j (by omega) c d e); refine ⟨by omega, h2, fun i a c => ?_, h4⟩; by_cases hi' : i ≤ (lo + hi) / 2
       · exact hm i ((lo + hi) / 2) a hi' (by omega) hf
       · exact h3 i (by omega) c
     · rw [if_neg hf]; obtain ⟨h1, h2, h3, h4⟩ := bsFrom_spec f b lo ((lo + hi) / 2) (by omega) (by omega) (fun i j a c d e => hm i j a c (by omega) e); refine ⟨h1, by omega, h3, fun i a c => ?_⟩; by_cases hi' : i < (lo + hi) / 2
       · exact h4 i a hi'
       · exact fun hn => hf (hm ((lo + hi) / 2) i (by omega) (by omega) c hn)
   · rw [if_neg hl]; exact ⟨Nat.le_refl _, h, fun i h1 h2 => absurd h2 (by omega), fun i h1 h2 => absurd h2 (by omega)⟩
def Rise (ns : List Int) : Prop := ∀ (i j : Nat) (x y : Int), ns[i]? = some x → ns[j]? = some y → i < j → x < y
theorem Rise.inj {ns : List Int} (h : Rise ns) {i j : Nat} {x : Int} (hi : ns[i]? = some x) (hj : ns[j]? = some x) : i = j := by
 rcases Nat.lt_trichotomy i j with h1 | h1 | h1
 · have := h i j _ _ hi hj h1; omega
 · exact h1
 · have := h j i _ _ hj hi h1; omega
theorem findN_hit {ns : List Int} (h : Rise ns) {k : Nat} {n : Int} (hk : ns[k]? = some n) : findN ns n = k := by
 obtain ⟨hl, _⟩ := List.getElem?_eq_some_iff.1 hk
 have hc : ∀ j (hj : j < ns.length), cmpN ns n j = cmpM ns[j] n := fun j hj => by unfold cmpN; rw [List.getElem?_eq_getElem hj]
 obtain ⟨h1, h2, h3, h4⟩ := bsFrom_spec (cmpN ns n) ns.length 0 ns.length (by omega) (by omega) (fun i j a c d e => by
  rw [hc j d] at e; rw [hc i (by omega)]; unfold cmpM at e ⊢; by_cases hij : i = j
  · subst hij; exact e
  · have := h i j _ _ (List.getElem?_eq_getElem (by omega)) (List.getElem?_eq_getElem d) (by omega)
    split at e
    · rw [if_pos (by omega)]; omega
    · split at e <;> omega)
 have hz : cmpN ns n k = 0 := by
  rw [hc k hl]; have : ns[k] = n := by have := List.getElem?_eq_getElem hl; rw [hk] at this; exact (Option.some.inj this).symm
  rw [this]; simp [cmpM]
 have e : bsN ns n = k := by
  unfold bsN; generalize bsFrom (cmpN ns n) ns.length 0 ns.length = r at *; rcases Nat.lt_trichotomy r k with hrk | hrk | hrk
  · have := h4 r (Nat.le_refl _) (by omega); rw [hc r (by omega)] at this; have h5 := h r k _ _ (List.getElem?_eq_getElem (by omega)) hk hrk; unfold cmpM at this; rw [if_pos h5] at this; omega
  · exact hrk
  · have := h3 k (Nat.zero_le _) hrk; omega
 unfold findN
 rw [e, hz]
 rw [if_pos (by simp [hl])]
theorem findN_miss {ns : List Int} {n : Int} (hn : ∀ x ∈ ns, x ≠ n) : findN ns n = -1 := by
 unfold findN
 rw [if_neg]
 intro h
 simp only [Bool.and_eq_true, decide_eq_true_eq, beq_iff_eq] at h
 obtain ⟨h1, h2⟩ := h
 unfold cmpN at h2
 rw [List.getElem?_eq_getElem h1] at h2
 simp only at h2
 have := hn _ (List.getElem_mem h1)
 unfold cmpM at h2
 split at h2
 · omega
 · split at h2 <;> omega
theorem idxF_hit {α : Type} (p : α → Bool) : ∀ (zs : List α) (q k : Nat) (z : α), zs[k]? = some z → p z = true → (∀ j y, j < k → zs[j]? = some y → p y = false) → idxFrom p zs q = ((q + k : Nat) : Int)
 | [], _, _, _, h, _, _ => by simp at h
 | x :: r, q, 0, z, h, hp, _ => by
   simp at h; subst h; unfold idxFrom; rw [if_pos hp]; simp
 | x :: r, q, k + 1, z, h, hp, hl => by
   unfold idxFrom; rw [if_neg (by rw [hl 0 x (by omega) rfl]; simp), idxF_hit p r (q + 1) k z (by simpa using h) hp (fun j y hj hy => hl (j + 1) y (by omega) (by simpa using hy))]; omega
theorem idxF_miss {α : Type} (p : α → Bool) : ∀ (zs : List α) (q : Nat), (∀ z ∈ zs, p z = false) → idxFrom p zs q = -1
 | [], _, _ => rfl
 | x :: r, q, h => by
   unfold idxFrom; rw [if_neg (by rw [h x List.mem_cons_self]; simp)]; exact idxF_miss p r (q + 1) fun z hz => h z (List.mem_cons_of_mem _ hz)
theorem atR_hit {S : PSt} (h : Rise S.nums) {k : Nat} {x : PIn} (hk : S.ins[k]? = some x) : atR S x.num = k := by
 unfold atR idxM
 rw [idxF_hit (isNum x.num) S.ins 0 k x hk (by simp [isNum]) (fun j y hj hy => by
  unfold isNum; rw [beq_eq_false_iff_ne]; intro e; have := h j k y.num x.num (by unfold PSt.nums; rw [List.getElem?_map, hy]; rfl) (by unfold PSt.nums; rw [List.getElem?_map, hk]; rfl) hj; omega)]
 simp
theorem atR_cases (S : PSt) (n : Int) : (∃ (k : Nat) (x : PIn), S.ins[k]? = some x ∧ x.num = n) ∨ ((∀ x ∈ S.ins, x.num ≠ n) ∧ atR S n = -1) := by
 by_cases h : ∃ x ∈ S.ins, x.num = n
 · obtain ⟨x, hx, e⟩ := h; obtain ⟨k, hk⟩ := List.mem_iff_getElem?.1 hx; exact .inl ⟨k, x, hk, e⟩
 · have h' : ∀ x ∈ S.ins, x.num ≠ n := fun x hx e => h ⟨x, hx, e⟩
   refine .inr ⟨h', ?_⟩; unfold atR idxM; exact idxF_miss _ _ _ fun z hz => by unfold isNum; rw [beq_eq_false_iff_ne]; exact h' z hz
theorem find_atR {S : PSt} (h : Rise S.nums) (n : Int) : findN S.nums n = atR S n := by
 rcases atR_cases S n with ⟨k, x, hk, rfl⟩ | ⟨h1, h2⟩
 · rw [atR_hit h hk]; exact findN_hit h (by unfold PSt.nums; rw [List.getElem?_map, hk]; rfl)
 · rw [h2]; exact findN_miss fun y hy => by
    obtain ⟨x, hx, rfl⟩ := List.mem_map.1 hy; exact h1 x hx
theorem byteAt_list {s : ByteArray} {p : Nat} (h : p < s.size) : ∃ b, s.toList.drop p = b :: s.toList.drop (p + 1) ∧ byteAt s p = (b.toNat : Int) := by
 have hl : p < s.data.toList.length := by simpa using h
 refine ⟨s.data.toList[p], ?_, ?_⟩
 · rw [ByteArray.toList_eq]; exact List.drop_eq_getElem_cons hl
 · unfold byteAt; rw [dif_pos h]; rfl
theorem below_less (x y : ByteArray) : ∀ m p, x.size ≤ p + m → p ≤ x.size → p ≤ y.size → belowRF x y m p = Op.bytesLess (x.toList.drop p) (y.toList.drop p) := by
 have hend : ∀ p, p ≤ x.size → p ≤ y.size → ¬ (p < x.size ∧ p < y.size) → decide (x.size < y.size) = Op.bytesLess (x.toList.drop p) (y.toList.drop p) := by
  intro p h1 h2 h; have lx : x.toList.length = x.size := by rw [ByteArray.toList_eq]; simp
  have ly : y.toList.length = y.size := by rw [ByteArray.toList_eq]; simp
  by_cases hy : p < y.size
  · obtain ⟨b, hb, _⟩ := byteAt_list hy; have : x.toList.drop p = [] := List.drop_of_length_le (by omega); rw [this, hb]; rw [decide_eq_true (by omega)]; rfl
  · have : y.toList.drop p = [] := List.drop_of_length_le (by omega); rw [this, decide_eq_false (by omega)]; cases x.toList.drop p <;> rfl
 intro m
 induction m with
 | zero =>
   intro p h h1 h2; exact hend p h1 h2 (by omega)
 | succ m ih =>
   intro p h h1 h2; unfold belowRF; by_cases hp : p < x.size ∧ p < y.size
   · rw [if_pos hp]; obtain ⟨a, ha, ea⟩ := byteAt_list hp.1; obtain ⟨b, hb, eb⟩ := byteAt_list hp.2; rw [ha, hb, ea, eb]; unfold Op.bytesLess; by_cases e : a = b
     · subst e; rw [if_pos rfl, ih (p + 1) (by omega) (by omega) (by omega)]; simp
     · have hne : ¬ (a.toNat : Int) = b.toNat := fun h => e (UInt8.toNat_inj.1 (by omega))
       rw [if_neg hne]; have : (a == b) = false := by simpa using e
       rw [this, Bool.false_and, Bool.or_false]
       congr 1
       rw [UInt8.lt_iff_toNat_lt]; exact propext ⟨fun h => by omega, fun h => by omega⟩
   · rw [if_neg hp]; exact hend p h1 h2 hp
theorem below_eq (x y : ByteArray) : belowR x y = Op.bytesLess x.toList y.toList := by
 unfold belowR
 rw [below_less x y x.size 0 (by omega) (by omega) (by omega)]
 rfl
end Go.Proofs.YtmkapobnfigedaaGreatDoor
