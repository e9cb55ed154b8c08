/- The reference's May, where it says yes. Conditions: none. A binary search finds what a look one by one finds; texts are compared alike. Conditions: none. What the reference's May says yes to, the model's does. Conditions: none. A state that may be is a tree: how long its walk is. Conditions: none. -/
import Derived.Test.YtmkapobnfigedaaGreatDoorEd17
import Derived.Test.YtmkapobnfigedaaGreatDoorEd18
import Derived.Test.YtmkapobnfigedaaGreatDoorEd05
set_option linter.unusedVariables false
set_option linter.unusedSimpArgs false
namespace Go.Proofs.YtmkapobnfigedaaGreatDoor
open Go.RowKit
def numAt (S : PSt) (k : Nat) : Int := match S.ins[k]? with | some x => x.num | none => 0
end Go.Proofs.YtmkapobnfigedaaGreatDoor
namespace Go.Proofs.YtmkapobnfigedaaGreatDoor
open Go.RowKit
theorem bsFrom_spec (f : Nat → Int) : ∀ (b lo hi : Nat), lo ≤ hi → hi - lo ≤ b → (∀ i j, lo ≤ i → i ≤ j → j < hi → f j < 0 → f i < 0) →
    lo ≤ bsFrom f b lo hi ∧ bsFrom f b lo hi ≤ hi ∧ (∀ i, lo ≤ i → i < bsFrom f b lo hi → f i < 0) ∧ (∀ i, bsFrom f b lo hi ≤ i → i < hi → ¬ f i < 0)
  | 0, lo, hi, h, hb, _ => by
    have : hi = lo := by omega
    subst this
    exact ⟨Nat.le_refl _, Nat.le_refl _, fun i h1 h2 => absurd h2 (by show ¬ i < hi; omega), fun i h1 h2 => absurd h2 (by have : hi ≤ i := h1; omega)⟩
  | b + 1, lo, hi, h, hb, hm => by
    unfold bsFrom
    by_cases hl : lo < hi
    · rw [if_pos hl]
      by_cases hf : f ((lo + hi) / 2) < 0
      · rw [if_pos hf]
        obtain ⟨h1, h2, h3, h4⟩ := bsFrom_spec f b ((lo + hi) / 2 + 1) hi (by omega) (by omega) (fun i j a c d e => hm i j (by omega) c d e)
        refine ⟨by omega, h2, fun i a c => ?_, h4⟩
        by_cases hi' : i ≤ (lo + hi) / 2
        · exact hm i ((lo + hi) / 2) a hi' (by omega) hf
        · exact h3 i (by omega) c
      · rw [if_neg hf]
        obtain ⟨h1, h2, h3, h4⟩ := bsFrom_spec f b lo ((lo + hi) / 2) (by omega) (by omega) (fun i j a c d e => hm i j a c (by omega) e)
        refine ⟨h1, by omega, h3, fun i a c => ?_⟩
        by_cases hi' : i < (lo + hi) / 2
        · exact h4 i a hi'
        · exact fun hn => hf (hm ((lo + hi) / 2) i (by omega) (by omega) c hn)
    · rw [if_neg hl]
      exact ⟨Nat.le_refl _, h, fun i h1 h2 => absurd h2 (by omega), fun i h1 h2 => absurd h2 (by omega)⟩
/-- Numbers rise. -/
def Rise (ns : List Int) : Prop := ∀ (i j : Nat) (x y : Int), ns[i]? = some x → ns[j]? = some y → i < j → x < y
theorem Rise.inj {ns : List Int} (h : Rise ns) {i j : Nat} {x : Int} (hi : ns[i]? = some x) (hj : ns[j]? = some x) : i = j := by
  rcases Nat.lt_trichotomy i j with h1 | h1 | h1
  · have := h i j _ _ hi hj h1; omega
  · exact h1
  · have := h j i _ _ hj hi h1; omega
theorem findN_hit {ns : List Int} (h : Rise ns) {k : Nat} {n : Int} (hk : ns[k]? = some n) : findN ns n = k := by
  obtain ⟨hl, _⟩ := List.getElem?_eq_some_iff.1 hk
  have hc : ∀ j (hj : j < ns.length), cmpN ns n j = cmpM ns[j] n := fun j hj => by unfold cmpN; rw [List.getElem?_eq_getElem hj]
  obtain ⟨h1, h2, h3, h4⟩ := bsFrom_spec (cmpN ns n) ns.length 0 ns.length (by omega) (by omega) (fun i j a c d e => by
    rw [hc j d] at e
    rw [hc i (by omega)]
    unfold cmpM at e ⊢
    by_cases hij : i = j
    · subst hij; exact e
    · have := h i j _ _ (List.getElem?_eq_getElem (by omega)) (List.getElem?_eq_getElem d) (by omega)
      split at e
      · rw [if_pos (by omega)]; omega
      · split at e <;> omega)
  have hz : cmpN ns n k = 0 := by
    rw [hc k hl]
    have : ns[k] = n := by have := List.getElem?_eq_getElem hl; rw [hk] at this; exact (Option.some.inj this).symm
    rw [this]
    simp [cmpM]
  have e : bsN ns n = k := by
    unfold bsN
    generalize bsFrom (cmpN ns n) ns.length 0 ns.length = r at *
    rcases Nat.lt_trichotomy r k with hrk | hrk | hrk
    · have := h4 r (Nat.le_refl _) (by omega)
      rw [hc r (by omega)] at this
      have h5 := h r k _ _ (List.getElem?_eq_getElem (by omega)) hk hrk
      unfold cmpM at this
      rw [if_pos h5] at this
      omega
    · exact hrk
    · have := h3 k (Nat.zero_le _) hrk
      omega
  unfold findN
  rw [e, hz]
  rw [if_pos (by simp [hl])]
theorem findN_miss {ns : List Int} {n : Int} (hn : ∀ x ∈ ns, x ≠ n) : findN ns n = -1 := by
  unfold findN
  rw [if_neg]
  intro h
  simp only [Bool.and_eq_true, decide_eq_true_eq, beq_iff_eq] at h
  obtain ⟨h1, h2⟩ := h
  unfold cmpN at h2
  rw [List.getElem?_eq_getElem h1] at h2
  simp only at h2
  have := hn _ (List.getElem_mem h1)
  unfold cmpM at h2
  split at h2
  · omega
  · split at h2 <;> omega
theorem idxF_hit {α : Type} (p : α → Bool) : ∀ (zs : List α) (q k : Nat) (z : α), zs[k]? = some z → p z = true → (∀ j y, j < k → zs[j]? = some y → p y = false) → idxFrom p zs q = ((q + k : Nat) : Int)
  | [], _, _, _, h, _, _ => by simp at h
  | x :: r, q, 0, z, h, hp, _ => by
    simp at h; subst h
    unfold idxFrom
    rw [if_pos hp]; simp
  | x :: r, q, k + 1, z, h, hp, hl => by
    unfold idxFrom
    rw [if_neg (by rw [hl 0 x (by omega) rfl]; simp), idxF_hit p r (q + 1) k z (by simpa using h) hp (fun j y hj hy => hl (j + 1) y (by omega) (by simpa using hy))]
    omega
theorem idxF_miss {α : Type} (p : α → Bool) : ∀ (zs : List α) (q : Nat), (∀ z ∈ zs, p z = false) → idxFrom p zs q = -1
  | [], _, _ => rfl
  | x :: r, q, h => by
    unfold idxFrom
    rw [if_neg (by rw [h x List.mem_cons_self]; simp)]
    exact idxF_miss p r (q + 1) fun z hz => h z (List.mem_cons_of_mem _ hz)
theorem atR_hit {S : PSt} (h : Rise S.nums) {k : Nat} {x : PIn} (hk : S.ins[k]? = some x) : atR S x.num = k := by
  unfold atR idxM
  rw [idxF_hit (isNum x.num) S.ins 0 k x hk (by simp [isNum]) (fun j y hj hy => by
    unfold isNum
    rw [beq_eq_false_iff_ne]
    intro e
    have := h j k y.num x.num (by unfold PSt.nums; rw [List.getElem?_map, hy]; rfl) (by unfold PSt.nums; rw [List.getElem?_map, hk]; rfl) hj
    omega)]
  simp
theorem atR_cases (S : PSt) (n : Int) : (∃ (k : Nat) (x : PIn), S.ins[k]? = some x ∧ x.num = n) ∨ ((∀ x ∈ S.ins, x.num ≠ n) ∧ atR S n = -1) := by
  by_cases h : ∃ x ∈ S.ins, x.num = n
  · obtain ⟨x, hx, e⟩ := h
    obtain ⟨k, hk⟩ := List.mem_iff_getElem?.1 hx
    exact .inl ⟨k, x, hk, e⟩
  · have h' : ∀ x ∈ S.ins, x.num ≠ n := fun x hx e => h ⟨x, hx, e⟩
    refine .inr ⟨h', ?_⟩
    unfold atR idxM
    exact idxF_miss _ _ _ fun z hz => by unfold isNum; rw [beq_eq_false_iff_ne]; exact h' z hz
theorem find_atR {S : PSt} (h : Rise S.nums) (n : Int) : findN S.nums n = atR S n := by
  rcases atR_cases S n with ⟨k, x, hk, rfl⟩ | ⟨h1, h2⟩
  · rw [atR_hit h hk]
    exact findN_hit h (by unfold PSt.nums; rw [List.getElem?_map, hk]; rfl)
  · rw [h2]
    exact findN_miss fun y hy => by
      obtain ⟨x, hx, rfl⟩ := List.mem_map.1 hy
      exact h1 x hx
end Go.Proofs.YtmkapobnfigedaaGreatDoor
namespace Go.Proofs.YtmkapobnfigedaaGreatDoor
open Go.RowKit
theorem nums_at {S : PSt} {k : Nat} {x : PIn} (h : S.ins[k]? = some x) : S.nums[k]? = some x.num := by unfold PSt.nums; rw [List.getElem?_map, h]; rfl
/-- A count does not shrink, and no list adds more than it has. -/
theorem lkE_le (n : Int) : ∀ (es : List PEnt) (a : Int), a ≤ lkE n es a ∧ lkE n es a ≤ a + es.length
  | [], a => ⟨Int.le_refl _, by simp [lkE]⟩
  | e :: r, a => by
    unfold lkE
    have := lkE_le n r (if (e.num == n) = true then a + 1 else a)
    simp only [List.length_cons]
    split at this <;> rename_i h
    · rw [if_pos h]; omega
    · rw [if_neg h]; omega
theorem bump_at {ns : List Int} (hr : Rise ns) {m : List Int} (hl : m.length = ns.length) {i : Nat} {n : Int} (hi : ns[i]? = some n) {k : Int} (hk : 0 ≤ findN ns k) (hb : 0 ≤ m.getD i 0 ∧ m.getD i 0 < 9000000000000000000) :
    (bumpAt m (findN ns k)).getD i 0 = if (k == n) = true then m.getD i 0 + 1 else m.getD i 0 := by
  obtain ⟨hil, _⟩ := List.getElem?_eq_some_iff.1 hi
  have him : i < m.length := by omega
  unfold bumpAt
  by_cases e : k = n
  · subst e
    rw [findN_hit hr hi]
    simp only [beq_self_eq_true, if_true, Int.toNat_natCast]
    rw [List.getD_eq_getElem?_getD, List.getElem?_set_self him]
    simp only [Option.getD_some]
    unfold wrap64
    omega
  · rw [if_neg (by simpa using e)]
    have hne : (findN ns k).toNat ≠ i := by
      intro h
      have hf : findN ns k = i := by omega
      by_cases hx : ∃ j : Nat, ns[j]? = some k
      · obtain ⟨j, hj⟩ := hx
        rw [findN_hit hr hj] at hf
        have : j = i := by omega
        subst this
        rw [hj] at hi
        exact e (Option.some.inj hi)
      · unfold findN at hf
        split at hf
        · rename_i hc
          simp only [Bool.and_eq_true, decide_eq_true_eq, beq_iff_eq] at hc
          have hbi : bsN ns k = i := by omega
          rw [hbi] at hc
          unfold cmpN at hc
          rw [hi] at hc
          have h2 := hc.2
          simp only at h2
          unfold cmpM at h2
          rcases Int.lt_trichotomy n k with h | h | h
          · rw [if_pos h] at h2; exact absurd h2 (by decide)
          · exact e h.symm
          · rw [if_neg (by omega), if_pos h] at h2; exact absurd h2 (by decide)
        · omega
    rw [List.getD_eq_getElem?_getD, List.getElem?_set_ne hne, ← List.getD_eq_getElem?_getD]
theorem manyE_at {ns : List Int} (hr : Rise ns) {i : Nat} {n : Int} (hi : ns[i]? = some n) : ∀ (es : List PEnt) (m : List Int), m.length = ns.length → (∀ e ∈ es, 0 ≤ findN ns e.num) → 0 ≤ m.getD i 0 → m.getD i 0 + es.length < 9000000000000000000 → (manyE ns m es).getD i 0 = lkE n es (m.getD i 0)
  | [], _, _, _, _, _ => rfl
  | e :: r, m, hl, hf, h0, hb => by
    simp only [List.length_cons] at hb
    have h1 := bump_at hr hl hi (hf e List.mem_cons_self) ⟨h0, by omega⟩
    show (manyE ns (bumpAt m (findN ns e.num)) r).getD i 0 = lkE n r (if (e.num == n) = true then m.getD i 0 + 1 else m.getD i 0)
    rw [manyE_at hr hi r _ (by rw [bumpAt_len, hl]) (fun e he => hf e (List.mem_cons_of_mem _ he)) (by rw [h1]; split <;> omega) (by rw [h1]; split <;> omega), h1]
def entsLen (xs : List PIn) : Nat := (xs.map fun x => x.ents.length).sum
theorem manyM_at {ns : List Int} (hr : Rise ns) {i : Nat} {n : Int} (hi : ns[i]? = some n) : ∀ (xs : List PIn) (m : List Int), m.length = ns.length → (∀ x ∈ xs, ∀ e ∈ x.ents, 0 ≤ findN ns e.num) → (∀ x ∈ xs, x.dir = false → x.ents = []) → 0 ≤ m.getD i 0 → m.getD i 0 + entsLen xs < 9000000000000000000 → (manyM ns m xs).getD i 0 = lkI n xs (m.getD i 0)
  | [], _, _, _, _, _, _ => rfl
  | x :: r, m, hl, hf, hd, h0, hb => by
    simp only [entsLen, List.map_cons, List.sum_cons] at hb
    have h1 := manyE_at hr hi x.ents m hl (hf x List.mem_cons_self) h0 (by omega)
    have h2 := lkE_le n x.ents (m.getD i 0)
    show (manyM ns (manyE ns m x.ents) r).getD i 0 = lkI n r (if x.dir = true then lkE n x.ents (m.getD i 0) else m.getD i 0)
    have h3 : (if x.dir = true then lkE n x.ents (m.getD i 0) else m.getD i 0) = lkE n x.ents (m.getD i 0) := by
      split
      · rfl
      · rename_i h
        rw [hd x List.mem_cons_self (by simpa using h)]
        rfl
    rw [manyM_at hr hi r _ (by rw [manyE_len, hl]) (fun y hy => hf y (List.mem_cons_of_mem _ hy)) (fun y hy => hd y (List.mem_cons_of_mem _ hy)) (by rw [h1]; omega) (by rw [h1]; unfold entsLen; omega), h1, h3]
/-- Is a set of places closed: whatever an inode of it names is in it? -/
def Closed (S : PSt) (C : Nat → Prop) : Prop := ∀ (k : Nat) (x : PIn), C k → S.ins[k]? = some x → ∀ e ∈ x.ents, C (findN S.nums e.num).toNat
theorem getD_set_true {fd : List Bool} {k j : Nat} (h : fd.getD j false = true) : (fd.set k true).getD j false = true := by
  by_cases e : k = j
  · subst e
    have hl : k < fd.length := by
      rcases Nat.lt_or_ge k fd.length with h1 | h1
      · exact h1
      · rw [List.getD_eq_getElem?_getD, List.getElem?_eq_none h1] at h; cases h
    rw [List.getD_eq_getElem?_getD, List.getElem?_set_self hl]; rfl
  · rw [List.getD_eq_getElem?_getD, List.getElem?_set_ne e, ← List.getD_eq_getElem?_getD]; exact h
end Go.Proofs.YtmkapobnfigedaaGreatDoor
namespace Go.Proofs.YtmkapobnfigedaaGreatDoor
open Go.RowKit
def sumU (f : Nat → Nat) : Nat → Nat
  | 0 => 0
  | n + 1 => sumU f n + f n
theorem sumU_one {f : Nat → Nat} : ∀ {n : Nat}, sumU f n = 1 → ∃ p, p < n ∧ f p = 1 ∧ ∀ k, k < n → k ≠ p → f k = 0
  | 0, h => by cases h
  | n + 1, h => by
    unfold sumU at h
    have hz : ∀ {m : Nat}, sumU f m = 0 → ∀ k, k < m → f k = 0 := by
      intro m
      induction m with
      | zero => intro _ k hk; omega
      | succ m ih =>
        intro h k hk
        unfold sumU at h
        by_cases e : k = m
        · subst e; omega
        · exact ih (by omega) k (by omega)
    by_cases e : f n = 1
    · exact ⟨n, by omega, e, fun k hk hne => hz (m := n) (by omega) k (by omega)⟩
    · obtain ⟨p, h1, h2, h3⟩ := sumU_one (f := f) (n := n) (by omega)
      exact ⟨p, by omega, h2, fun k hk hne => by
        by_cases e2 : k = n
        · subst e2; omega
        · exact h3 k (by omega) hne⟩
theorem sumU_mono {f g : Nat → Nat} : ∀ {n : Nat}, (∀ k, k < n → f k ≤ g k) → sumU f n ≤ sumU g n
  | 0, _ => Nat.le_refl _
  | n + 1, h => by
    unfold sumU
    have h1 := sumU_mono (f := f) (g := g) (n := n) fun k hk => h k (by omega)
    have h2 := h n (by omega)
    omega
theorem sumU_const (c n : Nat) : sumU (fun _ => c) n = n * c := by
  induction n with
  | zero => simp [sumU]
  | succ n ih => unfold sumU; rw [ih, Nat.succ_mul]
theorem sumU_add (f g : Nat → Nat) (n : Nat) : sumU (fun k => f k + g k) n = sumU f n + sumU g n := by
  induction n with
  | zero => rfl
  | succ n ih => unfold sumU; rw [ih]; omega
/-- The places that an inode's entries name. -/
def kidsI (S : PSt) (k : Nat) : List Nat := match S.ins[k]? with
  | some x => if x.dir = true then x.ents.map fun e => (atR S e.num).toNat else []
  | none => []
/-- What lies so many steps below some places. -/
def levL (S : PSt) : Nat → List Nat → List Nat
  | 0, ns => ns
  | i + 1, ns => levL S i (ns.flatMap (kidsI S))
theorem levL_append (S : PSt) : ∀ i (as_ bs : List Nat), levL S i (as_ ++ bs) = levL S i as_ ++ levL S i bs
  | 0, _, _ => rfl
  | i + 1, as_, bs => by
    unfold levL
    rw [List.flatMap_append]
    exact levL_append S i _ _
theorem levL_step (S : PSt) : ∀ i ns, levL S (i + 1) ns = (levL S i ns).flatMap (kidsI S)
  | 0, _ => rfl
  | i + 1, ns => by
    show levL S (i + 1) (ns.flatMap (kidsI S)) = _
    rw [levL_step S i]
    rfl
/-- How many nodes the first levels below a place have. -/
def cntN (S : PSt) : Nat → Nat → Nat
  | 0, _ => 0
  | f + 1, k => 1 + ((kidsI S k).map (cntN S f)).sum
theorem sumU_shift (g : Nat → Nat) (n : Nat) : sumU g (n + 1) = g 0 + sumU (fun i => g (i + 1)) n := by
  induction n with
  | zero => simp [sumU]
  | succ n ih =>
    rw [sumU, ih]
    simp only [sumU]
    omega
/-- A tree: each directory but the root is named once, the root never. -/
structure Tree (S : PSt) : Prop where
  rise : Rise S.nums
  pos : 0 < S.ins.length
  small : S.ins.length ≤ 257
  found : ∀ x ∈ S.ins, ∀ e ∈ x.ents, 0 ≤ atR S e.num ∧ atR S e.num < S.ins.length
  root : ∀ k, 0 ∉ kidsI S k
  once : ∀ j x, S.ins[j]? = some x → x.dir = true → j ≠ 0 → sumU (fun k => (kidsI S k).count j) S.ins.length ≤ 1
  many : ∀ x ∈ S.ins, x.ents.length ≤ 32
  name : ∀ x ∈ S.ins, ∀ e ∈ x.ents, e.name.size ≤ 12
  data : ∀ x ∈ S.ins, x.data.size ≤ 256
section
variable {S : PSt}
theorem Tree.kid_lt (h : Tree S) {k j : Nat} (hj : j ∈ kidsI S k) : j < S.ins.length := by
  unfold kidsI at hj
  split at hj
  · rename_i x hx
    split at hj
    · obtain ⟨e, he, rfl⟩ := List.mem_map.1 hj
      have := h.found x (List.mem_of_getElem? hx) e he
      omega
    · cases hj
  · cases hj
def isDir (S : PSt) (k : Nat) : Bool := match S.ins[k]? with | some x => x.dir | none => false
theorem kids_dir {k : Nat} (h : kidsI S k ≠ []) : isDir S k = true := by
  unfold kidsI at h
  unfold isDir
  split at h
  · rename_i x hx
    rcases hd : x.dir with _ | _
    · rw [hd] at h; simp at h
    · rfl
  · exact absurd rfl h
theorem Tree.lev_lt (h : Tree S) : ∀ i j, j ∈ levL S i [0] → j < S.ins.length
  | 0, j, hj => by
    have : j = 0 := List.mem_singleton.1 hj
    have := h.pos
    omega
  | i + 1, j, hj => by
    rw [levL_step] at hj
    obtain ⟨k, _, hk⟩ := List.mem_flatMap.1 hj
    exact h.kid_lt hk
theorem count_flat (f : Nat → List Nat) (j : Nat) : ∀ l : List Nat, (l.flatMap f).count j = (l.map fun k => (f k).count j).sum
  | [] => rfl
  | k :: r => by
    rw [List.flatMap_cons, List.count_append, count_flat f j r]
    rfl
theorem sum_one_at {c : Nat → Nat} {p : Nat} (hp : c p = 1) : ∀ l : List Nat, (∀ k ∈ l, k ≠ p → c k = 0) → (l.map c).sum = l.count p
  | [], _ => rfl
  | k :: r, h => by
    rw [List.map_cons, List.sum_cons, sum_one_at hp r fun k hk => h k (List.mem_cons_of_mem _ hk), List.count_cons]
    by_cases e : k = p
    · subst e; rw [hp]; simp; omega
    · rw [h k List.mem_cons_self e]; simp [e]
theorem sum_zero_at {c : Nat → Nat} : ∀ l : List Nat, (∀ k ∈ l, c k = 0) → (l.map c).sum = 0
  | [], _ => rfl
  | k :: r, h => by
    rw [List.map_cons, List.sum_cons, sum_zero_at r fun k hk => h k (List.mem_cons_of_mem _ hk), h k List.mem_cons_self]
/-- A directory is come to once at most. -/
theorem Tree.visit (h : Tree S) : ∀ (l j : Nat), isDir S j = true → sumU (fun i => (levL S i [0]).count j) (l + 1) ≤ 1
  | 0, j, _ => by
    simp only [sumU, levL]
    rw [List.count_singleton]
    split <;> omega
  | l + 1, j, hj => by
    rw [sumU_shift]
    have hstep : ∀ i, (levL S (i + 1) [0]).count j = ((levL S i [0]).map fun k => (kidsI S k).count j).sum := fun i => by rw [levL_step, count_flat]
    simp only [hstep]
    by_cases j0 : j = 0
    · subst j0
      have hz : ∀ i, ((levL S i [0]).map fun k => (kidsI S k).count 0).sum = 0 := fun i => sum_zero_at _ fun k _ => List.count_eq_zero.2 (h.root k)
      simp only [hz]
      rw [sumU_const]
      simp [levL]
    · have h0 : (levL S 0 [0]).count j = 0 := List.count_eq_zero.2 (by simp [levL]; exact j0)
      rw [h0, Nat.zero_add]
      have hx : ∃ x, S.ins[j]? = some x ∧ x.dir = true := by
        unfold isDir at hj
        split at hj
        · rename_i x hx; exact ⟨x, hx, hj⟩
        · cases hj
      obtain ⟨x, hx1, hx2⟩ := hx
      have ho := h.once j x hx1 hx2 j0
      rcases Nat.lt_or_ge 0 (sumU (fun k => (kidsI S k).count j) S.ins.length) with hp | hp
      · obtain ⟨p, p1, p2, p3⟩ := sumU_one (f := fun k => (kidsI S k).count j) (n := S.ins.length) (by omega)
        have hpd : isDir S p = true := kids_dir (fun e => by simp only [e] at p2; simp at p2)
        have hi : ∀ i, ((levL S i [0]).map fun k => (kidsI S k).count j).sum = (levL S i [0]).count p := fun i => sum_one_at (c := fun k => (kidsI S k).count j) (p := p) p2 _ fun k hk hne => p3 k (h.lev_lt i k hk) hne
        simp only [hi]
        exact h.visit l p hpd
      · have hz : ∀ k, k < S.ins.length → (kidsI S k).count j = 0 := by
          have key : ∀ (n : Nat), sumU (fun k => (kidsI S k).count j) n = 0 → ∀ k, k < n → (kidsI S k).count j = 0 := by
            intro n
            induction n with
            | zero => intro _ k hk; omega
            | succ n ih =>
              intro e k hk
              unfold sumU at e
              by_cases e2 : k = n
              · subst e2; omega
              · exact ih (by omega) k (by omega)
          exact key _ (by omega)
        have hi : ∀ i, ((levL S i [0]).map fun k => (kidsI S k).count j).sum = 0 := fun i => sum_zero_at _ fun k hk => hz k (h.lev_lt i k hk)
        simp only [hi]
        rw [sumU_const]
        omega
theorem countP_sum (S : PSt) (n : Nat) : ∀ l : List Nat, (∀ k ∈ l, k < n) → l.countP (isDir S) = sumU (fun j => if isDir S j = true then l.count j else 0) n := by
  intro l
  induction l with
  | nil =>
    intro _
    have : (fun j => if isDir S j = true then ([] : List Nat).count j else 0) = fun _ => 0 := by funext j; simp
    rw [this, sumU_const]
    simp
  | cons k r ih =>
    intro hl
    have hk := hl k List.mem_cons_self
    rw [List.countP_cons, ih fun k hk => hl k (List.mem_cons_of_mem _ hk)]
    have e : (fun j => if isDir S j = true then (k :: r).count j else 0) = fun j => (if isDir S j = true then r.count j else 0) + (if j = k then (if isDir S k = true then 1 else 0) else 0) := by
      funext j
      rw [List.count_cons]
      by_cases e1 : j = k
      · subst e1
        simp
        split <;> rfl
      · have : (k == j) = false := by rw [beq_eq_false_iff_ne]; exact fun h => e1 h.symm
        simp [this, e1]
    rw [e, sumU_add]
    congr 1
    have one : ∀ (n k v : Nat), k < n → sumU (fun j => if j = k then v else 0) n = v := by
      intro n
      induction n with
      | zero => intro k v hk; omega
      | succ n ihn =>
        intro k v hk
        unfold sumU
        by_cases e2 : k = n
        · subst e2
          have : sumU (fun j => if j = k then v else 0) k = 0 := by
            have hm : sumU (fun j => if j = k then v else 0) k ≤ sumU (fun _ => 0) k := sumU_mono fun j hj => by rw [if_neg (by omega)]; exact Nat.le_refl _
            rw [sumU_const] at hm
            omega
          rw [this, if_pos rfl]
          omega
        · rw [ihn k v (by omega), if_neg (fun h => e2 h.symm), Nat.add_zero]
    rw [one n k _ hk]
theorem sumU_swap (g : Nat → Nat → Nat) (n : Nat) : ∀ m, sumU (fun i => sumU (fun j => g i j) n) m = sumU (fun j => sumU (fun i => g i j) m) n
  | 0 => by
    simp only [sumU]
    rw [sumU_const]
    rfl
  | m + 1 => by
    rw [sumU, sumU_swap g n m]
    rw [← sumU_add]
    rfl
/-- All levels together have no more directories than there are inodes. -/
theorem Tree.dirs (h : Tree S) (l : Nat) : sumU (fun i => (levL S i [0]).countP (isDir S)) (l + 1) ≤ S.ins.length := by
  have e : ∀ i, (levL S i [0]).countP (isDir S) = sumU (fun j => if isDir S j = true then (levL S i [0]).count j else 0) S.ins.length := fun i => countP_sum S S.ins.length _ fun k hk => h.lev_lt i k hk
  simp only [e]
  rw [sumU_swap]
  have hb : sumU (fun j => sumU (fun i => if isDir S j = true then (levL S i [0]).count j else 0) (l + 1)) S.ins.length ≤ sumU (fun _ => 1) S.ins.length := sumU_mono fun j hj => by
    by_cases hd : isDir S j = true
    · simp only [hd, if_true]
      exact h.visit l j hd
    · simp only [hd, if_neg (Bool.false_ne_true)]
      have : sumU (fun _ => 0) (l + 1) = 0 := by rw [sumU_const]; rfl
      simp [this]
  rw [sumU_const] at hb
  omega
/-- At last there is nothing. -/
theorem Tree.ends (h : Tree S) : levL S 258 [0] = [] := by
  have hno : ∃ i, i < 258 ∧ (levL S i [0]).countP (isDir S) = 0 := by
    apply Classical.byContradiction
    intro hn
    have h1 : sumU (fun _ => 1) 258 ≤ sumU (fun i => (levL S i [0]).countP (isDir S)) 258 := sumU_mono fun i hi => by
      rcases Nat.lt_or_ge 0 ((levL S i [0]).countP (isDir S)) with h2 | h2
      · exact h2
      · exact absurd ⟨i, hi, by omega⟩ hn
    rw [sumU_const] at h1
    have h2 : sumU (fun i => (levL S i [0]).countP (isDir S)) 258 ≤ S.ins.length := h.dirs 257
    have h4 := h.small
    omega
  obtain ⟨i, hi, hz⟩ := hno
  have h1 : levL S (i + 1) [0] = [] := by
    rw [levL_step]
    rw [List.flatMap_eq_nil_iff]
    intro k hk
    apply Classical.byContradiction
    intro hne
    have := List.countP_eq_zero.1 hz k hk
    exact this (kids_dir hne)
  have key : ∀ m, levL S (i + 1 + m) [0] = [] := by
    intro m
    induction m with
    | zero => exact h1
    | succ m ih => rw [← Nat.add_assoc, levL_step, ih]; rfl
  have := key (258 - (i + 1))
  rw [show i + 1 + (258 - (i + 1)) = 258 by omega] at this
  exact this
theorem atR_at {k : Nat} {n : Int} (h0 : 0 ≤ atR S n) (hk : (atR S n).toNat = k) : idxM (isNum n) S.ins = (k : Int) := by
  show atR S n = _
  omega
/-- The walk ends. -/
theorem Tree.ok (h : Tree S) : ∀ (f : Nat) (n : Int), 0 ≤ atR S n → atR S n < S.ins.length → levL S f [(atR S n).toNat] = [] → wlkOk S f n = true
  | 0, n, h0, h1, hl => by cases hl
  | f + 1, n, h0, h1, hl => by
    unfold wlkOk
    rw [atR_at h0 rfl, Int.toNat_natCast]
    have hx : S.ins[(atR S n).toNat]? = some (S.ins[(atR S n).toNat]'(by omega)) := List.getElem?_eq_getElem (by omega)
    rw [hx]
    simp only [Bool.and_eq_true, decide_eq_true_eq]
    refine ⟨by omega, ?_⟩
    rcases hd : (S.ins[(atR S n).toNat]'(by omega)).dir with _ | _
    · rfl
    · simp only [Bool.not_true, Bool.false_or, List.all_eq_true]
      intro e he
      have hf := h.found _ (List.getElem_mem (by omega)) e he
      refine h.ok f e.num hf.1 hf.2 ?_
      have hl2 : levL S f (kidsI S (atR S n).toNat) = [] := by
        have : levL S (f + 1) [(atR S n).toNat] = levL S f ([(atR S n).toNat].flatMap (kidsI S)) := rfl
        rw [this] at hl
        simpa using hl
      have hm : (atR S e.num).toNat ∈ kidsI S (atR S n).toNat := by
        unfold kidsI
        rw [hx]
        simp only
        rw [if_pos hd]
        exact List.mem_map_of_mem he
      obtain ⟨as_, bs, e2⟩ := List.append_of_mem hm
      rw [e2, show (atR S e.num).toNat :: bs = [(atR S e.num).toNat] ++ bs from rfl, levL_append, levL_append] at hl2
      exact (List.append_eq_nil_iff.1 (List.append_eq_nil_iff.1 hl2).2).1
/-- How long the walk's text is. -/
theorem Tree.len (h : Tree S) : ∀ (f : Nat) (n : Int) (p : Nat), wLen S f n p ≤ cntN S f (atR S n).toNat * (p + 13 * f + 552)
  | 0, n, p => Nat.zero_le _
  | f + 1, n, p => by
    unfold wLen cntN
    have ei : (idxM (isNum n) S.ins).toNat = (atR S n).toNat := rfl
    rw [ei]
    rcases hx : S.ins[(atR S n).toNat]? with _ | x
    · exact Nat.zero_le _
    · simp only
      have hk : kidsI S (atR S n).toNat = if x.dir = true then x.ents.map fun e => (atR S e.num).toNat else [] := by unfold kidsI; rw [hx]
      have hxm := List.mem_of_getElem? hx
      by_cases hd : x.dir = true
      · rw [if_pos hd]
        rw [if_pos hd] at hk
        rw [hk, List.map_map]
        have h1 := sum_le (fun e : PEnt => wLen S f e.num (p + 1 + e.name.size)) (fun e => cntN S f (atR S e.num).toNat * (p + 13 * (f + 1) + 552)) x.ents fun e he => by
          have h2 := h.len f e.num (p + 1 + e.name.size)
          have h3 := h.name x hxm e he
          exact Nat.le_trans h2 (Nat.mul_le_mul_left _ (by omega))
        have h4 : (x.ents.map fun e => cntN S f (atR S e.num).toNat * (p + 13 * (f + 1) + 552)).sum = (x.ents.map (cntN S f ∘ fun e => (atR S e.num).toNat)).sum * (p + 13 * (f + 1) + 552) := by
          generalize p + 13 * (f + 1) + 552 = c
          induction x.ents with
          | nil => simp
          | cons e r ih => simp only [List.map_cons, List.sum_cons, Function.comp]; rw [ih, Nat.add_mul]
        rw [h4] at h1
        rw [Nat.add_mul, Nat.one_mul]
        omega
      · rw [if_neg hd]
        have h5 := h.data x hxm
        rw [Nat.add_mul, Nat.one_mul]
        have : p + 2 * x.data.size + 40 ≤ p + 13 * (f + 1) + 552 := by omega
        omega
end
end Go.Proofs.YtmkapobnfigedaaGreatDoor
