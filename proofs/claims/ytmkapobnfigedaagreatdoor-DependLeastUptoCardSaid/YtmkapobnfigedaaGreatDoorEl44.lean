/- What the reference's May says yes to, the model's does. Conditions: none. -/
import Derived.Test.YtmkapobnfigedaaGreatDoorEl43
import Derived.Test.YtmkapobnfigedaaGreatDoorEl41
set_option linter.unusedVariables false
set_option linter.unusedSimpArgs false
namespace Go.Proofs.YtmkapobnfigedaaGreatDoor
open Go.RowKit
def isOpenQ (S : PSt) (n : Int) : Bool := S.op.any fun d => d.num == n
def inR (S : PSt) (q : Nat) (x : PIn) : Bool := (q == 0 || (decide (numAt S (q - 1) < x.num) && givenR S x.num)) && (decide (x.data.size ≤ 256) && ((if x.dir = true then x.data.size == 0 else x.ents.isEmpty) && (entsR S x.ents &&
 (if x.dir = true then q == 0 || (linksR S x.num == 1 && (reachR S).getD q false) else (reachR S).getD q false || isOpenQ S x.num))))
def insR (S : PSt) : Bool := (List.range S.ins.length).all fun q => match S.ins[q]? with | some x => inR S q x | none => false
def mayR (S : PSt) : Bool := decide (1 ≤ S.made.length ∧ S.made.length ≤ 8 ∧ 1 ≤ S.ins.length ∧ S.ins.length ≤ 257) && ((match S.ins[0]? with | some x => x.num == 1 && x.dir | none => false) && (openR S && ((S.made.all fun m => decide (0 ≤ m ∧ m ≤ 32)) && insR S)))
theorem insR_at {S : PSt} (h : insR S = true) {q : Nat} {x : PIn} (hx : S.ins[q]? = some x) : inR S q x = true := by
 unfold insR at h
 rw [List.all_eq_true] at h
 obtain ⟨hl, _⟩ := List.getElem?_eq_some_iff.1 hx
 have := h q (List.mem_range.2 hl)
 rw [hx] at this
 exact this
theorem nums_at {S : PSt} {k : Nat} {x : PIn} (h : S.ins[k]? = some x) : S.nums[k]? = some x.num := by unfold PSt.nums; rw [List.getElem?_map, h]; rfl
theorem nums_inv {S : PSt} {k : Nat} {n : Int} (h : S.nums[k]? = some n) : ∃ x, S.ins[k]? = some x ∧ x.num = n := by
 unfold PSt.nums at h
 rw [List.getElem?_map] at h
 rcases e : S.ins[k]? with _ | x
 · rw [e] at h; cases h
 · rw [e] at h; exact ⟨x, rfl, Option.some.inj h⟩
theorem rise_of {S : PSt} (h : insR S = true) : Rise S.nums := by
 have step : ∀ (k : Nat) (x y : Int), S.nums[k]? = some x → S.nums[k + 1]? = some y → x < y := by
  intro k x y hx hy; obtain ⟨a, ha, rfl⟩ := nums_inv hx; obtain ⟨b, hb, rfl⟩ := nums_inv hy; have := insR_at h hb; unfold inR at this; simp only [Bool.and_eq_true, Bool.or_eq_true, decide_eq_true_eq] at this; have h1 := this.1; rcases h1 with h1 | h1
  · simp at h1
  · have h2 := h1.1; unfold numAt at h2; rw [Nat.add_sub_cancel, ha] at h2; exact h2
 intro i j
 induction j with
 | zero => intro x y _ _ h; omega
 | succ j ih =>
   intro x y hx hy hij; obtain ⟨hl, _⟩ := List.getElem?_eq_some_iff.1 hy; have hz : S.nums[j]? = some S.nums[j] := List.getElem?_eq_getElem (by omega); have h1 := step j _ y hz hy; by_cases e : i = j
   · subst e; rw [hx] at hz; rw [Option.some.inj hz]; exact h1
   · have := ih x _ hx hz (by omega); omega
theorem ents_of {S : PSt} (hr : Rise S.nums) : ∀ (es : List PEnt) (prev : Option ByteArray) (sl : List Int), entsRB S prev sl es = true → entsB S.nums prev sl es = true
 | [], _, _, _ => rfl
 | e :: r, prev, sl, h => by
   unfold entsRB at h; unfold entsB
   split at h
   · cases h
   rename_i h1
   split at h
   · cases h
   rename_i h2
   split at h
   · cases h
   rename_i h3
   split at h
   · cases h
   rename_i h4
   have c : checkR e.name = 0 := by simpa using h1
   have p : prevBad prev e.name = prevBadR prev e.name := by
    unfold prevBad prevBadR; cases prev with
    | none => rfl
    | some q => simp only [below_eq]
   rw [if_neg (by rw [check_name c]; simp), p, if_neg h2, if_neg h3, find_atR hr, if_neg h4, ← bucket_eq]; rcases hs : sl[(bucketR e.name).toNat]? with _ | x
   · rw [hs] at h; cases h
   · rw [hs] at h; simp only at h ⊢
     split at h
     · cases h
     · rename_i h5
       rw [if_neg h5]; exact ents_of hr r _ _ h
theorem ents_found {S : PSt} : ∀ (es : List PEnt) (prev : Option ByteArray) (sl : List Int), entsRB S prev sl es = true → ∀ e ∈ es, 0 ≤ atR S e.num
 | [], _, _, _, e, he => by cases he
 | e :: r, prev, sl, h, e', he => by
   unfold entsRB at h
   split at h
   · cases h
   split at h
   · cases h
   split at h
   · cases h
   split at h
   · cases h
   rename_i h4
   split at h
   · split at h
     · cases h
     · rcases List.mem_cons.1 he with rfl | he
       · omega
       · exact ents_found r _ _ h e' he
   · cases h
theorem open_of {S : PSt} (hr : Rise S.nums) : ∀ (ds : List PDesc) (o : Option PDesc), openL S o ds = true → descB S o ds = true
 | [], _, _ => rfl
 | d :: r, o, h => by
   unfold openL at h; unfold descB
   split at h
   · cases h
   rename_i h1
   split at h
   · cases h
   rename_i h2
   unfold badD at h1; simp only [Bool.or_eq_true, decide_eq_true_eq, not_or] at h1; obtain ⟨a1, a2, a3, a4, a5, a6⟩ := h1; have p : prevDB o d = prevDR o d := by
    unfold prevDB prevDR; cases o with
    | none => rfl
    | some q => simp only; congr 2
   rw [if_neg a1, if_neg a2, if_neg a3, if_neg a4, p, if_neg h2, find_atR hr, if_neg a5]; unfold dirAt at a6; have hb : 0 ≤ atR S d.num ∧ atR S d.num < S.ins.length := by
    rcases atR_cases S d.num with ⟨k, x, hk, e⟩ | ⟨_, e⟩
    · rw [← e, atR_hit hr hk]; obtain ⟨hl, _⟩ := List.getElem?_eq_some_iff.1 hk; omega
    · omega
   rw [List.getElem?_eq_getElem (by omega)] at a6 ⊢; simp only at a6 ⊢; rw [if_neg a6]; exact open_of hr r _ h
theorem nums_of {S : PSt} (h : insR S = true) : ∀ (m k : Nat) (p : Int), m + k = S.ins.length → 1 ≤ k → numAt S (k - 1) = p → numsB S.made p ((S.ins.drop k).map PIn.num) = true
 | 0, k, p, hk, _, _ => by rw [List.drop_of_length_le (by omega)]; rfl
 | m + 1, k, p, hk, h1, hp => by
   rw [List.drop_eq_getElem_cons (by omega)]; have hx : S.ins[k]? = some S.ins[k] := List.getElem?_eq_getElem (by omega); have := insR_at h hx; unfold inR at this; simp only [Bool.and_eq_true, Bool.or_eq_true, decide_eq_true_eq] at this; have h2 := this.1; rcases h2 with h2 | ⟨h2, h3⟩
   · simp at h2; omega
   · rw [hp] at h2; show numsB S.made p (S.ins[k].num :: (S.ins.drop (k + 1)).map PIn.num) = true; unfold numsB; rw [if_neg (by omega), if_neg (by rw [show mayNumM S.made S.ins[k].num = givenR S S.ins[k].num from rfl, h3]; simp)]; exact nums_of h m (k + 1) _ (by omega) (by omega) (by unfold numAt; rw [Nat.add_sub_cancel, hx])
theorem lkE_le (n : Int) : ∀ (es : List PEnt) (a : Int), a ≤ lkE n es a ∧ lkE n es a ≤ a + es.length
 | [], a => ⟨Int.le_refl _, by simp [lkE]⟩
 | e :: r, a => by
   unfold lkE; have := lkE_le n r (if (e.num == n) = true then a + 1 else a); simp only [List.length_cons]
   split at this <;> rename_i h
   · rw [if_pos h]; omega
   · rw [if_neg h]; omega
theorem bump_at {ns : List Int} (hr : Rise ns) {m : List Int} (hl : m.length = ns.length) {i : Nat} {n : Int} (hi : ns[i]? = some n) {k : Int} (hk : 0 ≤ findN ns k) (hb : 0 ≤ m.getD i 0 ∧ m.getD i 0 < 9000000000000000000) :
 (bumpAt m (findN ns k)).getD i 0 = if (k == n) = true then m.getD i 0 + 1 else m.getD i 0 := by
 obtain ⟨hil, _⟩ := List.getElem?_eq_some_iff.1 hi
 have him : i < m.length := by omega
 unfold bumpAt
 by_cases e : k = n
 · subst e; rw [findN_hit hr hi]; simp only [beq_self_eq_true, if_true, Int.toNat_natCast]; rw [List.getD_eq_getElem?_getD, List.getElem?_set_self him]; simp only [Option.getD_some]; unfold wrap64; omega
 · rw [if_neg (by simpa using e)]; have hne : (findN ns k).toNat ≠ i := by
    intro h; have hf : findN ns k = i := by omega
    by_cases hx : ∃ j : Nat, ns[j]? = some k
    · obtain ⟨j, hj⟩ := hx; rw [findN_hit hr hj] at hf; have : j = i := by omega
      subst this; rw [hj] at hi; exact e (Option.some.inj hi)
    · unfold findN at hf
      split at hf
      · rename_i hc
        simp only [Bool.and_eq_true, decide_eq_true_eq, beq_iff_eq] at hc; have hbi : bsN ns k = i := by omega
        rw [hbi] at hc; unfold cmpN at hc; rw [hi] at hc; have h2 := hc.2; simp only at h2; unfold cmpM at h2; rcases Int.lt_trichotomy n k with h | h | h
        · rw [if_pos h] at h2; exact absurd h2 (by decide)
        · exact e h.symm
        · rw [if_neg (by omega), if_pos h] at h2; exact absurd h2 (by decide)
      · omega
   rw [List.getD_eq_getElem?_getD, List.getElem?_set_ne hne, ← List.getD_eq_getElem?_getD]
theorem manyE_at {ns : List Int} (hr : Rise ns) {i : Nat} {n : Int} (hi : ns[i]? = some n) : ∀ (es : List PEnt) (m : List Int), m.length = ns.length → (∀ e ∈ es, 0 ≤ findN ns e.num) → 0 ≤ m.getD i 0 → m.getD i 0 + es.length < 9000000000000000000 → (manyE ns m es).getD i 0 = lkE n es (m.getD i 0)
 | [], _, _, _, _, _ => rfl
 | e :: r, m, hl, hf, h0, hb => by
   simp only [List.length_cons] at hb; have h1 := bump_at hr hl hi (hf e List.mem_cons_self) ⟨h0, by omega⟩; show (manyE ns (bumpAt m (findN ns e.num)) r).getD i 0 = lkE n r (if (e.num == n) = true then m.getD i 0 + 1 else m.getD i 0); rw [manyE_at hr hi r _ (by rw [bumpAt_len, hl]) (fun e he => hf e (List.mem_cons_of_mem _ he)) (by rw [h1]; split <;> omega) (by rw [h1]; split <;> omega), h1]
def entsLen (xs : List PIn) : Nat := (xs.map fun x => x.ents.length).sum
theorem manyM_at {ns : List Int} (hr : Rise ns) {i : Nat} {n : Int} (hi : ns[i]? = some n) : ∀ (xs : List PIn) (m : List Int), m.length = ns.length → (∀ x ∈ xs, ∀ e ∈ x.ents, 0 ≤ findN ns e.num) → (∀ x ∈ xs, x.dir = false → x.ents = []) → 0 ≤ m.getD i 0 → m.getD i 0 + entsLen xs < 9000000000000000000 → (manyM ns m xs).getD i 0 = lkI n xs (m.getD i 0)
 | [], _, _, _, _, _, _ => rfl
 | x :: r, m, hl, hf, hd, h0, hb => by
   simp only [entsLen, List.map_cons, List.sum_cons] at hb; have h1 := manyE_at hr hi x.ents m hl (hf x List.mem_cons_self) h0 (by omega); have h2 := lkE_le n x.ents (m.getD i 0); show (manyM ns (manyE ns m x.ents) r).getD i 0 = lkI n r (if x.dir = true then lkE n x.ents (m.getD i 0) else m.getD i 0); have h3 : (if x.dir = true then lkE n x.ents (m.getD i 0) else m.getD i 0) = lkE n x.ents (m.getD i 0) := by
    split
    · rfl
    · rename_i h
      rw [hd x List.mem_cons_self (by simpa using h)]; rfl
   rw [manyM_at hr hi r _ (by rw [manyE_len, hl]) (fun y hy => hf y (List.mem_cons_of_mem _ hy)) (fun y hy => hd y (List.mem_cons_of_mem _ hy)) (by rw [h1]; omega) (by rw [h1]; unfold entsLen; omega), h1, h3]
def Closed (S : PSt) (C : Nat → Prop) : Prop := ∀ (k : Nat) (x : PIn), C k → S.ins[k]? = some x → ∀ e ∈ x.ents, C (findN S.nums e.num).toNat
theorem reachF_in {S : PSt} (hr : Rise S.nums) {C : Nat → Prop} (hC : Closed S C) : ∀ (g : Nat) (st : List Int) (fd : List Bool), (∀ n ∈ st, 0 ≤ atR S n → C (atR S n).toNat) → (∀ k, fd.getD k false = true → C k) → ∀ k, (reachF S g st fd).getD k false = true → C k
 | 0, _, _, _, h, k, hk => h k hk
 | _ + 1, [], _, _, h, k, hk => h k hk
 | g + 1, n :: st, fd, h1, h2, k, hk => by
   unfold reachF at hk
   split at hk
   · exact reachF_in hr hC g st fd (fun m hm => h1 m (List.mem_cons_of_mem _ hm)) h2 k hk
   rename_i ha
   split at hk
   · exact reachF_in hr hC g st fd (fun m hm => h1 m (List.mem_cons_of_mem _ hm)) h2 k hk
   split at hk
   · rename_i x hx
     have hc := h1 n List.mem_cons_self (by omega); refine reachF_in hr hC g _ _ (fun m hm hm0 => ?_) (fun j hj => ?_) k hk
     · rcases List.mem_append.1 hm with hm | hm
       · rw [List.mem_reverse] at hm; unfold numsIf at hm
         split at hm
         · obtain ⟨e, he, rfl⟩ := List.mem_map.1 hm; have := hC _ x hc hx e he; rw [find_atR hr] at this; exact this
         · cases hm
       · exact h1 m (List.mem_cons_of_mem _ hm) hm0
     · by_cases e : (atR S n).toNat = j
       · subst e; exact hc
       · rw [List.getD_eq_getElem?_getD, List.getElem?_set_ne e, ← List.getD_eq_getElem?_getD] at hj; exact h2 j hj
   · exact h2 k hk
def openN (fd : List Bool) : Nat := fd.count false
theorem count_fnd {fd : List Bool} {k : Nat} (h : k < fd.length) (hf : fd.getD k false = false) : (fd.set k true).count false + 1 = fd.count false := by
 rw [List.getD_eq_getElem?_getD, List.getElem?_eq_getElem h] at hf
 simp only [Option.getD_some] at hf
 rw [List.count_set h, hf]
 have : 0 < fd.count false := List.count_pos_iff.2 (by rw [← hf]; exact List.getElem_mem h)
 simp
 omega
theorem getD_set_true {fd : List Bool} {k j : Nat} (h : fd.getD j false = true) : (fd.set k true).getD j false = true := by
 by_cases e : k = j
 · subst e; have hl : k < fd.length := by
    rcases Nat.lt_or_ge k fd.length with h1 | h1
    · exact h1
    · rw [List.getD_eq_getElem?_getD, List.getElem?_eq_none h1] at h; cases h
   rw [List.getD_eq_getElem?_getD, List.getElem?_set_self hl]; rfl
 · rw [List.getD_eq_getElem?_getD, List.getElem?_set_ne e, ← List.getD_eq_getElem?_getD]; exact h
theorem pushE_spec (ns : List Int) (hfl : Nat) : ∀ (es : List PEnt) (td : List Nat) (fd : List Bool), fd.length = hfl → (∀ e ∈ es, 0 ≤ findN ns e.num ∧ findN ns e.num < hfl) →
 (∀ j, fd.getD j false = true → (pushE ns (td, fd) es).2.getD j false = true) ∧ (∀ e ∈ es, (pushE ns (td, fd) es).2.getD (findN ns e.num).toNat false = true) ∧
 (∀ j, (pushE ns (td, fd) es).2.getD j false = true → fd.getD j false = true ∨ j ∈ (pushE ns (td, fd) es).1) ∧ (∀ j ∈ td, j ∈ (pushE ns (td, fd) es).1) ∧ (∀ j ∈ (pushE ns (td, fd) es).1, j ∈ td ∨ (pushE ns (td, fd) es).2.getD j false = true) ∧
 (pushE ns (td, fd) es).1.length + openN (pushE ns (td, fd) es).2 = td.length + openN fd
 | [], td, fd, _, _ => ⟨fun _ h => h, fun _ h => (by cases h), fun _ h => .inl h, fun _ h => h, fun _ h => .inl h, rfl⟩
 | e :: r, td, fd, hl, hf => by
   obtain ⟨f0, f1⟩ := hf e List.mem_cons_self; show _ ∧ _ ∧ _ ∧ _ ∧ _ ∧ _; have hstep : pushE ns (td, fd) (e :: r) = pushE ns (pushS ns (td, fd) e) r := rfl; rw [hstep]; by_cases hd : fd.getD (findN ns e.num).toNat false = true
   · have hs : pushS ns (td, fd) e = (td, fd) := by unfold pushS; rw [if_pos hd]
     rw [hs]; obtain ⟨a, b, c, d, g, i⟩ := pushE_spec ns hfl r td fd hl (fun e he => hf e (List.mem_cons_of_mem _ he)); refine ⟨a, fun e' he => ?_, c, d, g, i⟩; rcases List.mem_cons.1 he with rfl | he
     · exact a _ hd
     · exact b e' he
   · have hs : pushS ns (td, fd) e = (td ++ [(findN ns e.num).toNat], fd.set (findN ns e.num).toNat true) := by unfold pushS; rw [if_neg hd]
     rw [hs]; have hlt : (findN ns e.num).toNat < fd.length := by omega
     obtain ⟨a, b, c, d, g, i⟩ := pushE_spec ns hfl r (td ++ [(findN ns e.num).toNat]) (fd.set (findN ns e.num).toNat true) (by simpa using hl) (fun e he => hf e (List.mem_cons_of_mem _ he)); have hnew : (fd.set (findN ns e.num).toNat true).getD (findN ns e.num).toNat false = true := by
      rw [List.getD_eq_getElem?_getD, List.getElem?_set_self hlt]; rfl
     refine ⟨fun j hj => a j (getD_set_true hj), fun e' he => ?_, fun j hj => ?_, fun j hj => d j (List.mem_append_left _ hj), fun j hj => ?_, ?_⟩
     · rcases List.mem_cons.1 he with rfl | he
       · exact a _ hnew
       · exact b e' he
     · rcases c j hj with h | h
       · by_cases e2 : (findN ns e.num).toNat = j
         · right; exact d j (by rw [← e2]; simp)
         · left; rw [List.getD_eq_getElem?_getD, List.getElem?_set_ne e2, ← List.getD_eq_getElem?_getD] at h; exact h
       · exact .inr h
     · rcases g j hj with h | h
       · rcases List.mem_append.1 h with h | h
         · exact .inl h
         · rw [List.mem_singleton.1 h]; exact .inr (a _ hnew)
       · exact .inr h
     · rw [i]; have := count_fnd hlt (by simpa using hd); simp only [List.length_append, List.length_singleton]; unfold openN; omega
theorem bfs_closed {S : PSt} (hfound : ∀ x ∈ S.ins, ∀ e ∈ x.ents, 0 ≤ findN S.nums e.num ∧ findN S.nums e.num < S.ins.length) : ∀ (b : Nat) (td : List Nat) (fd : List Bool), fd.length = S.ins.length → td.length + openN fd ≤ b → (∀ j ∈ td, fd.getD j false = true) →
 (∀ k x, fd.getD k false = true → k ∉ td → S.ins[k]? = some x → ∀ e ∈ x.ents, fd.getD (findN S.nums e.num).toNat false = true) →
 (∀ j, fd.getD j false = true → (bfs S.nums S.ins b td fd).getD j false = true) ∧ Closed S fun k => (bfs S.nums S.ins b td fd).getD k false = true
 | 0, td, fd, hl, hb, ht, hi => by
   have : td = [] := List.eq_nil_of_length_eq_zero (by omega); subst this; exact ⟨fun _ h => h, fun k x hk hx e he => hi k x hk (by simp) hx e he⟩
 | b + 1, [], fd, hl, hb, ht, hi => ⟨fun _ h => h, fun k x hk hx e he => hi k x hk (by simp) hx e he⟩
 | b + 1, k :: td, fd, hl, hb, ht, hi => by
   have hk := ht k List.mem_cons_self; have hkl : k < S.ins.length := by
    rcases Nat.lt_or_ge k fd.length with h1 | h1
    · omega
    · rw [List.getD_eq_getElem?_getD, List.getElem?_eq_none h1] at hk; cases hk
   have hx : S.ins[k]? = some S.ins[k] := List.getElem?_eq_getElem hkl; have hf := hfound _ (List.getElem_mem hkl); obtain ⟨a, b1, c, d, g, i⟩ := pushE_spec S.nums S.ins.length S.ins[k].ents td fd hl hf; show (∀ j, fd.getD j false = true → (bfs S.nums S.ins b (pushE S.nums (td, fd) (match S.ins[k]? with | some x => x.ents | none => [])).1 (pushE S.nums (td, fd) (match S.ins[k]? with | some x => x.ents | none => [])).2).getD j false = true) ∧ Closed S fun q => (bfs S.nums S.ins b (pushE S.nums (td, fd) (match S.ins[k]? with | some x => x.ents | none => [])).1 (pushE S.nums (td, fd) (match S.ins[k]? with | some x => x.ents | none => [])).2).getD q false = true
   rw [hx]; simp only; simp only [List.length_cons] at hb; obtain ⟨r1, r2⟩ := bfs_closed hfound b (pushE S.nums (td, fd) S.ins[k].ents).1 (pushE S.nums (td, fd) S.ins[k].ents).2 (by rw [pushE_len]; exact hl) (by omega) (fun j hj => by
    rcases g j hj with h | h
    · exact a j (ht j (List.mem_cons_of_mem _ h))
    · exact h) (fun q x hq hnq hqx e he => by
    rcases c q hq with h | h
    · by_cases e2 : q = k
      · subst e2; rw [hx] at hqx; cases hqx; exact b1 e he
      · refine a _ (hi q x h (fun hm => ?_) hqx e he); rcases List.mem_cons.1 hm with h3 | h3
        · exact e2 h3
        · exact hnq (d q h3)
    · exact absurd h hnq)
   exact ⟨fun j hj => r1 j (a j hj), r2⟩
theorem mayR_mayM {S : PSt} (hwf : S.wf) (h : mayR S = true) : mayM S = true := by
 unfold mayR at h
 simp only [Bool.and_eq_true, decide_eq_true_eq, List.all_eq_true] at h
 obtain ⟨⟨m1, m8, i1, i257⟩, hroot, hop, hmade, hins⟩ := h
 have hr := rise_of hins
 have x0 : S.ins[0]? = some S.ins[0] := List.getElem?_eq_getElem (by omega)
 rw [x0] at hroot
 simp only [Bool.and_eq_true, beq_iff_eq] at hroot
 obtain ⟨hn0, hd0⟩ := hroot
 have hat : ∀ {q : Nat} {x : PIn}, S.ins[q]? = some x → entsR S x.ents = true ∧ x.data.size ≤ 256 ∧ (if x.dir = true then x.data.size == 0 else x.ents.isEmpty) = true ∧ (if x.dir = true then q == 0 || (linksR S x.num == 1 && (reachR S).getD q false) else (reachR S).getD q false || isOpenQ S x.num) = true := fun hx => by
  have := insR_at hins hx; unfold inR at this; simp only [Bool.and_eq_true, decide_eq_true_eq] at this; exact ⟨this.2.2.2.1, this.2.1, this.2.2.1, this.2.2.2.2⟩
 have hfound : ∀ x ∈ S.ins, ∀ e ∈ x.ents, 0 ≤ findN S.nums e.num ∧ findN S.nums e.num < S.ins.length := fun x hx e he => by
  obtain ⟨q, hq⟩ := List.mem_iff_getElem?.1 hx; have h1 := ents_found _ _ _ (hat hq).1 e he; rw [find_atR hr]; refine ⟨h1, ?_⟩; rcases atR_cases S e.num with ⟨k, y, hk, e2⟩ | ⟨_, e2⟩
  · rw [← e2, atR_hit hr hk]; obtain ⟨hl, _⟩ := List.getElem?_eq_some_iff.1 hk; omega
  · omega
 have hfile : ∀ x ∈ S.ins, x.dir = false → x.ents = [] := fun x hx hd => by
  obtain ⟨q, hq⟩ := List.mem_iff_getElem?.1 hx; have := (hat hq).2.2.1; rw [hd] at this; simpa using this
 have hlen : entsLen S.ins < 9000000000000000000 := by
  have key : ∀ (xs : List PIn), (∀ x ∈ xs, x.ents.length ≤ 1000000000) → entsLen xs ≤ xs.length * 1000000000 := by
   intro xs
   induction xs with
   | nil => intro _; simp [entsLen]
   | cons x r ih =>
     intro hx; have h1 := ih fun y hy => hx y (List.mem_cons_of_mem _ hy)
     have h2 := hx x List.mem_cons_self; simp only [entsLen, List.map_cons, List.sum_cons, List.length_cons] at h1 ⊢; omega
  have := key S.ins fun x hx => (hwf.2.2.2.1 x hx).2.1
  omega
 -- what is found is closed, and has what the reference finds
 have hset : ((List.replicate S.ins.length false).set 0 true).getD 0 false = true := by
  rw [List.getD_eq_getElem?_getD, List.getElem?_set_self (by simp; omega)]; rfl
 have honly : ∀ k, ((List.replicate S.ins.length false).set 0 true).getD k false = true → k = 0 := fun k hk => by
  by_cases e : 0 = k
  · exact e.symm
  · rw [List.getD_eq_getElem?_getD, List.getElem?_set_ne e, List.getElem?_replicate] at hk
    split at hk <;> cases hk
 obtain ⟨c1, c2⟩ := bfs_closed hfound S.ins.length [0] ((List.replicate S.ins.length false).set 0 true) (by simp) (by
  have := count_fnd (fd := List.replicate S.ins.length false) (k := 0) (by simp; omega) (by rw [List.getD_eq_getElem?_getD, List.getElem?_replicate]; split <;> rfl); rw [List.count_replicate_self] at this; unfold openN; simp only [List.length_singleton]; omega) (fun j hj => by rw [List.mem_singleton.1 hj]; exact hset) (fun k x hk hn _ e he => absurd (List.mem_singleton.2 (honly k hk)) hn)
 have hroot' : (foundOf S).getD 0 false = true := c1 0 hset
 have hcl : Closed S fun k => (foundOf S).getD k false = true := c2
 have hre : ∀ k, (reachR S).getD k false = true → (foundOf S).getD k false = true := fun k hk => reachF_in hr hcl _ _ _ (fun n hn _ => by
  rw [List.mem_singleton.1 hn, ← hn0, atR_hit hr x0]; exact hroot') (fun k hk => by
  rw [List.getD_eq_getElem?_getD, List.getElem?_replicate] at hk
  split at hk <;> cases hk) k hk
 have hmany : ∀ {q : Nat} {x : PIn}, S.ins[q]? = some x → (manyOf S).getD q 0 = linksR S x.num := fun {q x} hq => by
  unfold manyOf linksR; have h0 : (List.replicate S.ins.length (0 : Int)).getD q 0 = 0 := by
   rw [List.getD_eq_getElem?_getD, List.getElem?_replicate]; split <;> rfl
  have := manyM_at hr (nums_at hq) S.ins (List.replicate S.ins.length 0) (by simp [PSt.nums]) (fun x hx e he => (hfound x hx e he).1) hfile (by rw [h0]; omega) (by rw [h0]; omega); rw [this, h0]
 -- the loop
 have hloop : ∀ (m k : Nat), m + k = S.ins.length → mayLoop (manyOf S) (foundOf S) S.op k (S.ins.drop k) = true := by
  intro m
  induction m with
  | zero => intro k hk; rw [List.drop_of_length_le (by omega)]; rfl
  | succ m ih =>
    intro k hk; rw [List.drop_eq_getElem_cons (by omega)]; have hx : S.ins[k]? = some S.ins[k] := List.getElem?_eq_getElem (by omega); obtain ⟨-, -, -, h4⟩ := hat hx; unfold mayLoop; rw [ih (k + 1) (by omega)]; by_cases k0 : k = 0
    · rw [if_pos k0]
    rw [if_neg k0]; by_cases hd : S.ins[k].dir = true
    · rw [if_pos hd] at h4; simp only [Bool.or_eq_true, Bool.and_eq_true, beq_iff_eq] at h4; rcases h4 with h4 | ⟨h4, h5⟩
      · omega
      · rw [hmany hx, h4, hre k h5, hd]; rfl
    · rw [if_neg hd] at h4; have hd' : S.ins[k].dir = false := by simpa using hd
      rw [hd']; simp only [Bool.false_and, Bool.not_false, Bool.true_and, if_neg (Bool.false_ne_true)]; rw [if_neg]; intro hb; simp only [Bool.and_eq_true, Bool.not_eq_true', Bool.or_eq_true, decide_eq_true_eq] at hb; obtain ⟨hb1, hb2⟩ := hb; simp only [Bool.or_eq_true] at h4; rcases h4 with h4 | h4
      · rw [hre k h4] at hb1; cases hb1
      · rcases hb2 with hb2 | hb2
        · -- an entry names it: its directory is found, so it is
          rw [hmany hx] at hb2; have hex : ∃ y ∈ S.ins, y.dir = true ∧ ∃ e ∈ y.ents, e.num = S.ins[k].num := by
           apply Classical.byContradiction; intro hno; have keyE : ∀ (es : List PEnt) (a : Int), (∀ e ∈ es, e.num ≠ S.ins[k].num) → lkE S.ins[k].num es a = a := by
            intro es
            induction es with
            | nil => intro a _; rfl
            | cons e r ihe =>
              intro a he; unfold lkE; rw [if_neg (by simpa using he e List.mem_cons_self)]; exact ihe a fun e' h' => he e' (List.mem_cons_of_mem _ h')
           have keyI : ∀ (xs : List PIn) (a : Int), (∀ y ∈ xs, y.dir = true → ∀ e ∈ y.ents, e.num ≠ S.ins[k].num) → lkI S.ins[k].num xs a = a := by
            intro xs
            induction xs with
            | nil => intro a _; rfl
            | cons y r ihx =>
              intro a hy; unfold lkI; have : (if y.dir = true then lkE S.ins[k].num y.ents a else a) = a := by
               split
               · rename_i hyd
                 exact keyE _ _ (hy y List.mem_cons_self hyd)
               · rfl
              rw [this]; exact ihx a fun z hz => hy z (List.mem_cons_of_mem _ hz)
           have h0 : linksR S S.ins[k].num = 0 := keyI S.ins 0 fun y hy hyd e he h => hno ⟨y, hy, hyd, e, he, h⟩
           omega
          obtain ⟨y, hy, hyd, e, he, hen⟩ := hex; obtain ⟨q, hq⟩ := List.mem_iff_getElem?.1 hy; have hyf : (foundOf S).getD q false = true := by
           by_cases q0 : q = 0
           · rw [q0]; exact hroot'
           · obtain ⟨-, -, -, h5⟩ := hat hq; rw [if_pos hyd] at h5; simp only [Bool.or_eq_true, Bool.and_eq_true, beq_iff_eq] at h5; rcases h5 with h5 | h5
             · omega
             · exact hre q h5.2
          have := hcl q y hyf hq e he; rw [hen, findN_hit hr (nums_at hx), Int.toNat_natCast] at this; rw [this] at hb1; cases hb1
        · rw [show openM S.op S.ins[k].num = isOpenQ S S.ins[k].num from rfl, h4] at hb2; cases hb2
 unfold mayM
 have h1 : mayMadeM S.made = true := by
  unfold mayMadeM; rw [decide_eq_false (by omega), decide_eq_false (by omega)]; simp only [Bool.or_false, Bool.not_false, Bool.true_and, Bool.not_eq_true']; rw [List.any_eq_false]; intro m hm; have := hmade m hm; unfold badMade; simp only [Bool.or_eq_true, decide_eq_true_eq]; omega
 have h2 : mayInsM S = true := by
  have hN := nums_of hins (S.ins.length - 1) 1 1 (by omega) (by omega) (by unfold numAt; rw [x0]; exact hn0); have hI : S.ins.all (inB S.nums) = true := by
   rw [List.all_eq_true]; intro x hx; obtain ⟨q, hq⟩ := List.mem_iff_getElem?.1 hx; obtain ⟨a1, a2, a3, -⟩ := hat hq; unfold inB
   split
   · rename_i hd
     rw [if_pos hd] at a3; have : x.data.size = 0 := by simpa using a3
     rw [ents_of hr _ _ _ a1 |> (fun h => (h : mayEntsM S.nums x.ents = true)), Bool.and_true, ByteArray.toList_eq]; have : x.data.data.toList.length = 0 := by simpa using this
     rw [List.eq_nil_of_length_eq_zero this]; rfl
   · rename_i hd
     rw [if_neg hd] at a3; have : x.ents = [] := by simpa using a3
     rw [this]; simp [a2]
  unfold mayInsM; rcases e : S.ins with _ | ⟨x, r⟩
  · rw [e] at i1; simp at i1
  · simp only [e] at hn0 hd0 hN hI ⊢; simp only [List.getElem_cons_zero] at hn0 hd0; rw [if_pos hn0, if_pos hd0]; simp only [List.drop_succ_cons, List.drop_zero] at hN; rw [hN, Bool.true_and]; exact hI
 have h3 : mayOpenM S = true := open_of hr _ _ hop
 rw [h1, h2, h3]
 simp only [Bool.and_self, if_true]
 have := hloop S.ins.length 0 (by omega)
 simpa using this
end Go.Proofs.YtmkapobnfigedaaGreatDoor
