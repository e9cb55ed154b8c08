/- Part of the proof of a law of chapter 15. Conditions: none. -/
import Derived.Test.YtmkapobnfigedaaGreatDoorDp21
import Derived.Test.YtmkapobnfigedaaGreatDoorDp24
import Derived.Test.YtmkapobnfigedaaGreatDoorDp27
set_option linter.unusedVariables false
set_option linter.unusedSimpArgs false
set_option maxRecDepth 100000
set_option maxHeartbeats 8000000
namespace Go.Proofs.YtmkapobnfigedaaGreatDoor
open Go.RowKit
theorem run_bytes (B d b : Nat) (S : PSt) (c : PCall) (r : PRes) (w : World) (h : DoAt B w d b S c r) (hk : c.kind = 4 ∨ c.kind = 5 ∨ c.kind = 7) (R : Except Int (PSt × PRes)) (ht : Calls Tryz.prog 146 #[.pointer (some ⟨d, 0, none⟩)] w (RunOut B w d b c R)) :
 Calls Tryz.prog 108 #[.pointer (some ⟨d, 0, none⟩)] w (RunOut B w d b c R) := by
 obtain ⟨iD, d1⟩ := h.kind
 clear h
 rcases hk with hk | hk | hk <;> rw [hk] at d1 <;> rcases R with k | ⟨S', r'⟩
 all_goals (go_enter Tryz.func108, Tryz.ntmps108)
 all_goals first
  | (go_wp2_with (go_at_call 146; refine ht.mono ?_; rintro e w1 ⟨hb1, hr1⟩; obtain rfl : e = thrown k := hr1)
     exact ⟨rfl, hb1, rfl⟩)
  | (go_wp2_with (go_at_call 146; refine ht.mono ?_; rintro e w1 ⟨hb1, hr1⟩; have hr2 : e = .returned (.tuple #[]) ∧ DoAt B w1 d b S' c r' := hr1; clear hr1; obtain ⟨rfl, hd1⟩ := hr2; have HD := Lib.hid hd1; clear hd1)
     exact bodyPost_end (v := .tuple #[]) (by simp [results, go_sem]) rfl ⟨hb1, rfl, HD.out⟩)
theorem run_open (B d b : Nat) (S : PSt) (c : PCall) (r : PRes) (w : World) (h : DoAt B w d b S c r) (hk : c.kind = 2) (R : Except Int (PSt × PRes)) (ht : Calls Tryz.prog 142 #[.pointer (some ⟨d, 0, none⟩)] w (RunOut B w d b c R)) :
 Calls Tryz.prog 108 #[.pointer (some ⟨d, 0, none⟩)] w (RunOut B w d b c R) := by
 obtain ⟨iD, d1⟩ := h.kind
 rw [hk] at d1
 clear h
 rcases R with k | ⟨S', r'⟩
 all_goals (go_enter Tryz.func108, Tryz.ntmps108)
 · go_wp2_with (go_at_call 142; refine ht.mono ?_; rintro e w1 ⟨hb1, hr1⟩; obtain rfl : e = thrown k := hr1)
   exact ⟨rfl, hb1, rfl⟩
 · go_wp2_with (go_at_call 142; refine ht.mono ?_; rintro e w1 ⟨hb1, hr1⟩; have hr2 : e = .returned (.tuple #[]) ∧ DoAt B w1 d b S' c r' := hr1; clear hr1; obtain ⟨rfl, hd1⟩ := hr2; have HD := Lib.hid hd1; clear hd1)
   exact bodyPost_end (v := .tuple #[]) (by simp [results, go_sem]) rfl ⟨hb1, rfl, HD.out⟩
theorem run_told (B d b : Nat) (S : PSt) (c : PCall) (r : PRes) (w : World) (h : DoAt B w d b S c r) (hk : c.kind = 12 ∨ c.kind = 13 ∨ c.kind = 14) (R : Except Int (PSt × PRes)) (ht : Calls Tryz.prog 150 #[.pointer (some ⟨d, 0, none⟩)] w (RunOut B w d b c R)) :
 Calls Tryz.prog 108 #[.pointer (some ⟨d, 0, none⟩)] w (RunOut B w d b c R) := by
 obtain ⟨iD, d1⟩ := h.kind
 rcases hk with hk | hk | hk
 all_goals
  rw [hk] at d1; clear h; rcases R with k | ⟨S', r'⟩
  all_goals (go_enter Tryz.func108, Tryz.ntmps108)
  · go_wp2_with (go_at_call 150; refine ht.mono ?_; rintro e w1 ⟨hb1, hr1⟩; obtain rfl : e = thrown k := hr1)
    exact ⟨rfl, hb1, rfl⟩
  · go_wp2_with (go_at_call 150; refine ht.mono ?_; rintro e w1 ⟨hb1, hr1⟩; have hr2 : e = .returned (.tuple #[]) ∧ DoAt B w1 d b S' c r' := hr1; clear hr1; obtain ⟨rfl, hd1⟩ := hr2; have HD := Lib.hid hd1; clear hd1)
    exact bodyPost_end (v := .tuple #[]) (by simp [results, go_sem]) rfl ⟨hb1, rfl, HD.out⟩
def lookM (S : PSt) (c : PCall) : Except Int (PSt × PRes) :=
 if c.kind = 4 then readM S c PRes.zero else if c.kind = 7 then sizeM S c PRes.zero else
 if (parseM c.path).1 ≠ 0 then .error (codeM (parseM c.path).1) else
 if c.kind = 12 then listM S c PRes.zero else if c.kind = 13 then statM S c PRes.zero else countM S c PRes.zero
def Looks (c : PCall) : Prop := c.kind = 4 ∨ c.kind = 7 ∨ c.kind = 12 ∨ c.kind = 13 ∨ c.kind = 14
theorem may_data {S : PSt} (h : mayM S = true) : ∀ x ∈ S.ins, x.data.size ≤ 256 := by
 intro x hx
 unfold mayM at h
 split at h
 · rename_i h1
   simp only [Bool.and_eq_true] at h1; have h2 := h1.1.2; unfold mayInsM at h2
   split at h2
   · rename_i e
     rw [e] at hx; cases hx
   · rename_i y r e
     split at h2
     · split at h2
       · rw [Bool.and_eq_true] at h2; have h3 := List.all_eq_true.1 h2.2 x hx; unfold inB at h3
         split at h3
         · rw [Bool.and_eq_true] at h3; have h4 := h3.1; rw [ByteArray.toList_eq] at h4; have : x.data.size = 0 := by
            have h5 := List.isEmpty_iff.1 h4; have := congrArg List.length h5; simpa using this
           omega
         · simp only [Bool.and_eq_true, decide_eq_true_eq] at h3; exact h3.2
       · cases h2
     · cases h2
 · cases h
theorem numsB_at {made : List Int} : ∀ (l : List Int) (p : Int), numsB made p l = true → (∀ (i : Nat) (x : Int), l[i]? = some x → p < x ∧ mayNumM made x = true) ∧ Rise l
 | [], p, _ => ⟨fun i x h => by simp at h, fun i j x y h => by simp at h⟩
 | n :: r, p, h => by
   unfold numsB at h
   split at h
   · cases h
   · rename_i h1
     split at h
     · cases h
     · rename_i h2
       obtain ⟨h3, h4⟩ := numsB_at r n h; refine ⟨fun i x hx => ?_, fun i j x y hx hy hij => ?_⟩
       · rcases i with _ | i
         · simp at hx; subst hx; exact ⟨by omega, by simpa using h2⟩
         · have := h3 i x (by simpa using hx); exact ⟨by omega, this.2⟩
       · rcases j with _ | j
         · omega
         · rcases i with _ | i
           · simp at hx; subst hx; exact (h3 j y (by simpa using hy)).1
           · exact h4 i j x y (by simpa using hx) (by simpa using hy) (by omega)
theorem rise_ge {ns : List Int} (h : Rise ns) : ∀ (i : Nat) (x y : Int), ns[0]? = some x → ns[i]? = some y → x + i ≤ y
 | 0, x, y, hx, hy => by rw [hx] at hy; have := Option.some.inj hy; omega
 | i + 1, x, y, hx, hy => by
   obtain ⟨hl, _⟩ := gI.1 hy; have hz : ns[i]? = some ns[i] := gE (by omega); have h1 := rise_ge h i x _ hx hz; have h2 := h i (i + 1) _ _ hz hy (by omega); omega
theorem name_small {s : ByteArray} (h : nameB s = true) : s.size ≤ 12 := by
 unfold nameB checkM at h
 by_cases e : 12 < s.size
 · rw [if_pos e] at h; cases h
 · omega
theorem set_sum : ∀ (sl : List Int) (k : Nat) (x : Int), sl[k]? = some x → (sl.set k (x + 1)).sum = sl.sum + 1
 | [], k, x, h => by simp at h
 | y :: r, 0, x, h => by
   simp at h; subst h; simp only [sZ, List.sum_cons]; omega
 | y :: r, k + 1, x, h => by
   simp only [sS, List.sum_cons]; rw [set_sum r k x (by simpa using h)]; omega
theorem sum_le4 : ∀ (sl : List Int), (∀ x ∈ sl, x ≤ 4) → sl.sum ≤ 4 * sl.length
 | [], _ => by simp
 | x :: r, h => by
   have h1 := sum_le4 r fun y hy => h y (List.mem_cons_of_mem _ hy)
   have h2 := h x List.mem_cons_self; simp only [List.sum_cons, List.length_cons]; omega
theorem entsB_all {ns : List Int} : ∀ (es : List PEnt) (prev : Option ByteArray) (sl : List Int), entsB ns prev sl es = true → (∀ x ∈ sl, x ≤ 4) → (∀ e ∈ es, e.name.size ≤ 12 ∧ e.num ≠ 1 ∧ 0 ≤ findN ns e.num) ∧ es.length + sl.sum ≤ 4 * sl.length
 | [], _, sl, _, h4 => ⟨fun e he => (by cases he), by have := sum_le4 sl h4; simp; omega⟩
 | e :: r, prev, sl, h, h4 => by
   unfold entsB at h
   split at h
   · cases h
   rename_i h1
   split at h
   · cases h
   split at h
   · cases h
   rename_i h3
   split at h
   · cases h
   rename_i h5
   rcases hs : sl[(bucketM e.name).toNat]? with _ | x
   · rw [hs] at h; cases h
   · rw [hs] at h; simp only at h
     split at h
     · cases h
     · rename_i h6
       obtain ⟨a1, a2⟩ := entsB_all r _ _ h (fun y hy => by
        rcases List.mem_or_eq_of_mem_set hy with hy | hy
        · exact h4 y hy
        · omega)
       rw [set_sum sl _ x hs, List.length_set] at a2; refine ⟨fun e' he => ?_, by simp only [List.length_cons]; omega⟩; rcases List.mem_cons.1 he with rfl | he
       · exact ⟨name_small (by simpa using h1), h3, by omega⟩
       · exact a1 e' he
theorem lkI_append (n : Int) : ∀ (xs ys : List PIn) (a : Int), lkI n (xs ++ ys) a = lkI n ys (lkI n xs a)
 | [], _, _ => rfl
 | x :: r, ys, a => by
   show lkI n (r ++ ys) _ = _; rw [lkI_append n r ys]; rfl
theorem lkE_count {S : PSt} (hr : Rise S.nums) {j : Nat} {y : PIn} (hj : S.ins[j]? = some y) : ∀ (es : List PEnt) (a : Int), (∀ e ∈ es, 0 ≤ atR S e.num) → lkE y.num es a = a + (((es.map fun e => (atR S e.num).toNat).count j : Nat) : Int)
 | [], a, _ => by simp [lkE]
 | e :: r, a, h => by
   unfold lkE; rw [lkE_count hr hj r _ fun e' he => h e' (List.mem_cons_of_mem _ he), List.map_cons, List.count_cons]; have he := h e List.mem_cons_self; by_cases e1 : e.num = y.num
   · rw [if_pos (by simpa using e1)]; have : (atR S e.num).toNat = j := by rw [e1, atR_hit hr hj]; simp
     rw [this]; simp; omega
   · rw [if_neg (by simpa using e1)]; have : ((atR S e.num).toNat == j) = false := by
      rw [beq_eq_false_iff_ne]; intro e2; rcases atR_cases S e.num with ⟨k, x, hk, e3⟩ | ⟨_, e3⟩
      · rw [← e3, atR_hit hr hk] at e2; have : k = j := by omega
        subst this; rw [hk] at hj; cases hj; exact e1 e3.symm
      · omega
     rw [this]; simp
theorem lkI_sum {S : PSt} (hr : Rise S.nums) (hf : ∀ x ∈ S.ins, ∀ e ∈ x.ents, 0 ≤ atR S e.num) {j : Nat} {y : PIn} (hj : S.ins[j]? = some y) : ∀ m, m ≤ S.ins.length → lkI y.num (S.ins.take m) 0 = ((sumU (fun k => (kidsI S k).count j) m : Nat) : Int)
 | 0, _ => rfl
 | m + 1, hm => by
   have hx : S.ins[m]? = some (S.ins[m]'(by omega)) := gE (by omega); rw [List.take_add_one, hx]; simp only [Option.toList_some]; rw [lkI_append, lkI_sum hr hf hj m (by omega)]; rw [show sumU (fun k => (kidsI S k).count j) (m + 1) = sumU (fun k => (kidsI S k).count j) m + (kidsI S m).count j from rfl]; show (if (S.ins[m]'(by omega)).dir = true then lkE y.num (S.ins[m]'(by omega)).ents _ else _) = _; have hk : kidsI S m = if (S.ins[m]'(by omega)).dir = true then (S.ins[m]'(by omega)).ents.map fun e => (atR S e.num).toNat else [] := by unfold kidsI; rw [hx]
   rw [hk]
   split
   · rw [lkE_count hr hj _ _ (hf _ (List.getElem_mem (by omega)))]; omega
   · simp
theorem mayLoop_at {many : List Int} {found : List Bool} {op : List PDesc} : ∀ (xs : List PIn) (i j : Nat) (x : PIn), mayLoop many found op i xs = true → xs[j]? = some x → x.dir = true → i + j ≠ 0 → many.getD (i + j) 0 = 1
 | [], _, _, _, _, h, _, _ => by simp at h
 | y :: r, i, 0, x, h, hx, hd, hn => by
   simp at hx; subst hx; unfold mayLoop at h; rw [if_neg (by omega)] at h
   split at h
   · cases h
   · rename_i h1
     rw [hd] at h1; simp only [Bool.true_and, Bool.or_eq_true, Bool.not_eq_true', not_or, beq_eq_false_iff_ne] at h1; have := h1.1; exact Classical.not_not.1 this
 | y :: r, i, j + 1, x, h, hx, hd, hn => by
   have hr : mayLoop many found op (i + 1) r = true := by
    unfold mayLoop at h
    split at h
    · exact h
    · split at h
      · cases h
      · split at h
        · cases h
        · exact h
   have := mayLoop_at r (i + 1) j x hr (by simpa using hx) hd (by omega); rw [show i + (j + 1) = i + 1 + j by omega]; exact this
theorem tree_of_may {S : PSt} (hwf : S.wf) (hm : mayM S = true) : Tree S := by
 have hdata := may_data hm
 unfold mayM at hm
 split at hm
 rotate_left
 · cases hm
 rename_i h1
 simp only [Bool.and_eq_true] at h1
 obtain ⟨⟨hmade, hins⟩, hop⟩ := h1
 unfold mayInsM at hins
 rcases e : S.ins with _ | ⟨x0, r⟩
 · rw [e] at hins; cases hins
 rw [e] at hins
 simp only at hins
 split at hins
 rotate_left
 · cases hins
 rename_i hn0
 split at hins
 rotate_left
 · cases hins
 rename_i hd0
 rw [← e, Bool.and_eq_true, List.all_eq_true] at hins
 obtain ⟨hnb, hall⟩ := hins
 obtain ⟨n1, n2⟩ := numsB_at _ _ hnb
 have hnums : S.nums = 1 :: r.map PIn.num := by unfold PSt.nums; rw [e, List.map_cons, hn0]
 have hr : Rise S.nums := by
  rw [hnums]; intro i j x y hx hy hij; rcases j with _ | j
  · omega
  · rcases i with _ | i
    · simp at hx; subst hx; exact (n1 j y (by simpa using hy)).1
    · exact n2 i j x y (by simpa using hx) (by simpa using hy) (by omega)
 have hx0 : S.ins[0]? = some x0 := by rw [e]; rfl
 have hents : ∀ x ∈ S.ins, (∀ e ∈ x.ents, e.name.size ≤ 12 ∧ e.num ≠ 1 ∧ 0 ≤ findN S.nums e.num) ∧ x.ents.length ≤ 32 ∧ (x.dir = false → x.ents = []) := fun x hx => by
  have := hall x hx; unfold inB at this
  split at this
  · rename_i hd
    rw [Bool.and_eq_true] at this; obtain ⟨a1, a2⟩ := entsB_all x.ents none [0, 0, 0, 0, 0, 0, 0, 0] this.2 (fun y hy => by simp at hy; omega); refine ⟨a1, by simp at a2; omega, fun h => by rw [hd] at h; cases h⟩
  · simp only [Bool.and_eq_true, decide_eq_true_eq] at this; have h0 := List.eq_nil_of_length_eq_zero this.1; rw [h0]; exact ⟨fun e he => (by cases he), by simp, fun _ => rfl⟩
 have hfound : ∀ x ∈ S.ins, ∀ e ∈ x.ents, 0 ≤ atR S e.num ∧ atR S e.num < S.ins.length := fun x hx e' he => by
  have h2 := ((hents x hx).1 e' he).2.2; rw [find_atR hr] at h2; have := atR_bounds S e'.num; omega
 have hlen : S.ins.length ≤ 257 := by
  apply Classical.byContradiction; intro hl; obtain ⟨v, hy⟩ : ∃ v, S.nums[257]? = some v := ⟨_, gE (by unfold PSt.nums; rw [lM]; omega)⟩
  have h2 := rise_ge hr 257 1 _ (by rw [hnums]; rfl) hy; have h3 : (r.map PIn.num)[256]? = some v := by
   rw [hnums] at hy; simpa using hy
  have h4 := (n1 256 _ h3).2; unfold mayNumM at h4; rw [if_neg (by omega)] at h4
  split at h4
  · rename_i m hmk
    simp only [decide_eq_true_eq] at h4; unfold mayMadeM at hmade; simp only [Bool.and_eq_true, Bool.not_eq_true', List.any_eq_false] at hmade; have h5 := hmade.2 m (mG hmk); unfold badMade at h5; simp only [Bool.or_eq_true, decide_eq_true_eq, not_or] at h5; omega
  · cases h4
 refine ⟨hr, by rw [e]; simp, hlen, hfound, fun k hk => ?_, fun j x hx hd hj => ?_, fun x hx => (hents x hx).2.1, fun x hx e' he => ((hents x hx).1 e' he).1, hdata⟩
 · unfold kidsI at hk
   split at hk
   · rename_i x hx
     split at hk
     · obtain ⟨e', he, h0⟩ := List.mem_map.1 hk; have hxm := mG hx; have hf := hfound x hxm e' he; rcases atR_cases S e'.num with ⟨k2, y, hk2, e3⟩ | ⟨_, e3⟩
       · rw [← e3, atR_hit hr hk2] at h0; have : k2 = 0 := by omega
         subst this; rw [hx0] at hk2; cases hk2; exact ((hents x hxm).1 e' he).2.1 (by rw [← e3]; exact hn0)
       · omega
     · cases hk
   · cases hk
 · have h2 := mayLoop_at S.ins 0 j x hm hx hd (by omega); rw [Nat.zero_add] at h2; have h0 : (List.replicate S.ins.length (0 : Int)).getD j 0 = 0 := by
    rw [List.getD_eq_getElem?_getD, List.getElem?_replicate]; split <;> rfl
   have hel : entsLen S.ins < 9000000000000000000 := by
    have key : ∀ (xs : List PIn), (∀ x ∈ xs, x.ents.length ≤ 32) → entsLen xs ≤ xs.length * 32 := by
     intro xs
     induction xs with
     | nil => intro _; simp [entsLen]
     | cons x r ih =>
       intro hx; have h1 := ih fun y hy => hx y (List.mem_cons_of_mem _ hy)
       have h2 := hx x List.mem_cons_self; simp only [entsLen, List.map_cons, List.sum_cons, List.length_cons] at h1 ⊢; omega
    have := key S.ins fun x hx => (hents x hx).2.1
    omega
   have h3 := manyM_at hr (nums_at hx) S.ins (List.replicate S.ins.length 0) (by simp [PSt.nums]) (fun x hx e' he => ((hents x hx).1 e' he).2.2) (fun x hx => (hents x hx).2.2) (by rw [h0]; omega) (by rw [h0]; omega); unfold manyOf at h2; rw [h3, h0] at h2; have h4 := lkI_sum hr (fun x hx e' he => (hfound x hx e' he).1) hx S.ins.length (Nat.le_refl _); rw [List.take_length, h2] at h4; omega
end Go.Proofs.YtmkapobnfigedaaGreatDoor
