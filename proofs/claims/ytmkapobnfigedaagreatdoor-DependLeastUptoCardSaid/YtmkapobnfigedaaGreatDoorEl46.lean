/- Open, Close, Read, Write, Size and List, done. Conditions: none. Calls that look alone, done: whatever they look at. Conditions: none. A state that may be is a tree: how long its walk is. Conditions: none. A state that may be is a tree; its shape is not long. Conditions: none. -/
import Derived.Test.YtmkapobnfigedaaGreatDoorEl39
import Derived.Test.YtmkapobnfigedaaGreatDoorEl25
import Derived.Test.YtmkapobnfigedaaGreatDoorEl31
import Derived.Test.YtmkapobnfigedaaGreatDoorEl44
import Derived.Test.YtmkapobnfigedaaGreatDoorEl32
import Derived.Test.YtmkapobnfigedaaGreatDoorEl15
set_option linter.unusedVariables false
set_option linter.unusedSimpArgs false
namespace Go.Proofs.YtmkapobnfigedaaGreatDoor
open Go.RowKit
set_option maxRecDepth 100000 in
set_option maxHeartbeats 2000000 in
theorem run_bytes (B d b : Nat) (S : PSt) (c : PCall) (r : PRes) (w : World) (h : DoAt B w d b S c r) (hk : c.kind = 4 ∨ c.kind = 5 ∨ c.kind = 7) (R : Except Int (PSt × PRes)) (ht : Calls Tryz.prog 146 #[.pointer (some ⟨d, 0, none⟩)] w (RunOut B w d b c R)) :
 Calls Tryz.prog 108 #[.pointer (some ⟨d, 0, none⟩)] w (RunOut B w d b c R) := by
 obtain ⟨iD, d1⟩ := h.kind
 clear h
 rcases hk with hk | hk | hk <;> rw [hk] at d1 <;> rcases R with k | ⟨S', r'⟩
 all_goals (go_enter Tryz.func108, Tryz.ntmps108)
 all_goals first
  | (go_wp2_with (go_at_call 146; refine ht.mono ?_; rintro e w1 ⟨hb1, hr1⟩; obtain rfl : e = thrown k := hr1)
     exact ⟨rfl, hb1, rfl⟩)
  | (go_wp2_with (go_at_call 146; refine ht.mono ?_; rintro e w1 ⟨hb1, hr1⟩; have hr2 : e = .returned (.tuple #[]) ∧ DoAt B w1 d b S' c r' := hr1; clear hr1; obtain ⟨rfl, hd1⟩ := hr2; have HD := Lib.hid hd1; clear hd1)
     exact bodyPost_end (v := .tuple #[]) (by simp [results, go_sem]) rfl ⟨hb1, rfl, HD.out⟩)
set_option maxRecDepth 100000 in
set_option maxHeartbeats 2000000 in
theorem run_open (B d b : Nat) (S : PSt) (c : PCall) (r : PRes) (w : World) (h : DoAt B w d b S c r) (hk : c.kind = 2) (R : Except Int (PSt × PRes)) (ht : Calls Tryz.prog 142 #[.pointer (some ⟨d, 0, none⟩)] w (RunOut B w d b c R)) :
 Calls Tryz.prog 108 #[.pointer (some ⟨d, 0, none⟩)] w (RunOut B w d b c R) := by
 obtain ⟨iD, d1⟩ := h.kind
 rw [hk] at d1
 clear h
 rcases R with k | ⟨S', r'⟩
 all_goals (go_enter Tryz.func108, Tryz.ntmps108)
 · go_wp2_with (go_at_call 142; refine ht.mono ?_; rintro e w1 ⟨hb1, hr1⟩; obtain rfl : e = thrown k := hr1)
   exact ⟨rfl, hb1, rfl⟩
 · go_wp2_with (go_at_call 142; refine ht.mono ?_; rintro e w1 ⟨hb1, hr1⟩; have hr2 : e = .returned (.tuple #[]) ∧ DoAt B w1 d b S' c r' := hr1; clear hr1; obtain ⟨rfl, hd1⟩ := hr2; have HD := Lib.hid hd1; clear hd1)
   exact bodyPost_end (v := .tuple #[]) (by simp [results, go_sem]) rfl ⟨hb1, rfl, HD.out⟩
end Go.Proofs.YtmkapobnfigedaaGreatDoor
namespace Go.Proofs.YtmkapobnfigedaaGreatDoor
open Go.RowKit
set_option maxRecDepth 100000 in
set_option maxHeartbeats 4000000 in
theorem run_told (B d b : Nat) (S : PSt) (c : PCall) (r : PRes) (w : World) (h : DoAt B w d b S c r) (hk : c.kind = 12 ∨ c.kind = 13 ∨ c.kind = 14) (R : Except Int (PSt × PRes)) (ht : Calls Tryz.prog 150 #[.pointer (some ⟨d, 0, none⟩)] w (RunOut B w d b c R)) :
 Calls Tryz.prog 108 #[.pointer (some ⟨d, 0, none⟩)] w (RunOut B w d b c R) := by
 obtain ⟨iD, d1⟩ := h.kind
 rcases hk with hk | hk | hk
 all_goals
  rw [hk] at d1; clear h; rcases R with k | ⟨S', r'⟩
  all_goals (go_enter Tryz.func108, Tryz.ntmps108)
  · go_wp2_with (go_at_call 150; refine ht.mono ?_; rintro e w1 ⟨hb1, hr1⟩; obtain rfl : e = thrown k := hr1)
    exact ⟨rfl, hb1, rfl⟩
  · go_wp2_with (go_at_call 150; refine ht.mono ?_; rintro e w1 ⟨hb1, hr1⟩; have hr2 : e = .returned (.tuple #[]) ∧ DoAt B w1 d b S' c r' := hr1; clear hr1; obtain ⟨rfl, hd1⟩ := hr2; have HD := Lib.hid hd1; clear hd1)
    exact bodyPost_end (v := .tuple #[]) (by simp [results, go_sem]) rfl ⟨hb1, rfl, HD.out⟩
def lookM (S : PSt) (c : PCall) : Except Int (PSt × PRes) :=
 if c.kind = 4 then readM S c PRes.zero else if c.kind = 7 then sizeM S c PRes.zero else
 if (parseM c.path).1 ≠ 0 then .error (codeM (parseM c.path).1) else
 if c.kind = 12 then listM S c PRes.zero else if c.kind = 13 then statM S c PRes.zero else countM S c PRes.zero
def Looks (c : PCall) : Prop := c.kind = 4 ∨ c.kind = 7 ∨ c.kind = 12 ∨ c.kind = 13 ∨ c.kind = 14
theorem may_data {S : PSt} (h : mayM S = true) : ∀ x ∈ S.ins, x.data.size ≤ 256 := by
 intro x hx
 unfold mayM at h
 split at h
 · rename_i h1
   simp only [Bool.and_eq_true] at h1; have h2 := h1.1.2; unfold mayInsM at h2
   split at h2
   · rename_i e
     rw [e] at hx; cases hx
   · rename_i y r e
     split at h2
     · split at h2
       · rw [Bool.and_eq_true] at h2; have h3 := List.all_eq_true.1 h2.2 x hx; unfold inB at h3
         split at h3
         · rw [Bool.and_eq_true] at h3; have h4 := h3.1; rw [ByteArray.toList_eq] at h4; have : x.data.size = 0 := by
            have h5 := List.isEmpty_iff.1 h4; have := congrArg List.length h5; simpa using this
           omega
         · simp only [Bool.and_eq_true, decide_eq_true_eq] at h3; exact h3.2
       · cases h2
     · cases h2
 · cases h
end Go.Proofs.YtmkapobnfigedaaGreatDoor
namespace Go.Proofs.YtmkapobnfigedaaGreatDoor
open Go.RowKit
def sumU (f : Nat → Nat) : Nat → Nat
 | 0 => 0
 | n + 1 => sumU f n + f n
theorem sumU_one {f : Nat → Nat} : ∀ {n : Nat}, sumU f n = 1 → ∃ p, p < n ∧ f p = 1 ∧ ∀ k, k < n → k ≠ p → f k = 0
 | 0, h => by cases h
 | n + 1, h => by
   unfold sumU at h; have hz : ∀ {m : Nat}, sumU f m = 0 → ∀ k, k < m → f k = 0 := by
    intro m
    induction m with
    | zero => intro _ k hk; omega
    | succ m ih =>
      intro h k hk; unfold sumU at h; by_cases e : k = m
      · subst e; omega
      · exact ih (by omega) k (by omega)
   by_cases e : f n = 1
   · exact ⟨n, by omega, e, fun k hk hne => hz (m := n) (by omega) k (by omega)⟩
   · obtain ⟨p, h1, h2, h3⟩ := sumU_one (f := f) (n := n) (by omega); exact ⟨p, by omega, h2, fun k hk hne => by
      by_cases e2 : k = n
      · subst e2; omega
      · exact h3 k (by omega) hne⟩
theorem sumU_mono {f g : Nat → Nat} : ∀ {n : Nat}, (∀ k, k < n → f k ≤ g k) → sumU f n ≤ sumU g n
 | 0, _ => Nat.le_refl _
 | n + 1, h => by
   unfold sumU; have h1 := sumU_mono (f := f) (g := g) (n := n) fun k hk => h k (by omega)
   have h2 := h n (by omega); omega
theorem sumU_const (c n : Nat) : sumU (fun _ => c) n = n * c := by
 induction n with
 | zero => simp [sumU]
 | succ n ih => unfold sumU; rw [ih, Nat.succ_mul]
theorem sumU_add (f g : Nat → Nat) (n : Nat) : sumU (fun k => f k + g k) n = sumU f n + sumU g n := by
 induction n with
 | zero => rfl
 | succ n ih => unfold sumU; rw [ih]; omega
def kidsI (S : PSt) (k : Nat) : List Nat := match S.ins[k]? with
 | some x => if x.dir = true then x.ents.map fun e => (atR S e.num).toNat else []
 | none => []
def levL (S : PSt) : Nat → List Nat → List Nat
 | 0, ns => ns
 | i + 1, ns => levL S i (ns.flatMap (kidsI S))
theorem levL_append (S : PSt) : ∀ i (as_ bs : List Nat), levL S i (as_ ++ bs) = levL S i as_ ++ levL S i bs
 | 0, _, _ => rfl
 | i + 1, as_, bs => by
   unfold levL; rw [List.flatMap_append]; exact levL_append S i _ _
theorem levL_step (S : PSt) : ∀ i ns, levL S (i + 1) ns = (levL S i ns).flatMap (kidsI S)
 | 0, _ => rfl
 | i + 1, ns => by
   show levL S (i + 1) (ns.flatMap (kidsI S)) = _; rw [levL_step S i]; rfl
def cntN (S : PSt) : Nat → Nat → Nat
 | 0, _ => 0
 | f + 1, k => 1 + ((kidsI S k).map (cntN S f)).sum
theorem sumU_shift (g : Nat → Nat) (n : Nat) : sumU g (n + 1) = g 0 + sumU (fun i => g (i + 1)) n := by
 induction n with
 | zero => simp [sumU]
 | succ n ih =>
   rw [sumU, ih]; simp only [sumU]; omega
structure Tree (S : PSt) : Prop where
 rise : Rise S.nums
 pos : 0 < S.ins.length
 small : S.ins.length ≤ 257
 found : ∀ x ∈ S.ins, ∀ e ∈ x.ents, 0 ≤ atR S e.num ∧ atR S e.num < S.ins.length
 root : ∀ k, 0 ∉ kidsI S k
 once : ∀ j x, S.ins[j]? = some x → x.dir = true → j ≠ 0 → sumU (fun k => (kidsI S k).count j) S.ins.length ≤ 1
 many : ∀ x ∈ S.ins, x.ents.length ≤ 32
 name : ∀ x ∈ S.ins, ∀ e ∈ x.ents, e.name.size ≤ 12
 data : ∀ x ∈ S.ins, x.data.size ≤ 256
section
variable {S : PSt}
theorem Tree.kid_lt (h : Tree S) {k j : Nat} (hj : j ∈ kidsI S k) : j < S.ins.length := by
 unfold kidsI at hj
 split at hj
 · rename_i x hx
   split at hj
   · obtain ⟨e, he, rfl⟩ := List.mem_map.1 hj; have := h.found x (List.mem_of_getElem? hx) e he; omega
   · cases hj
 · cases hj
def isDir (S : PSt) (k : Nat) : Bool := match S.ins[k]? with | some x => x.dir | none => false
theorem kids_dir {k : Nat} (h : kidsI S k ≠ []) : isDir S k = true := by
 unfold kidsI at h
 unfold isDir
 split at h
 · rename_i x hx
   rcases hd : x.dir with _ | _
   · rw [hd] at h; simp at h
   · rfl
 · exact absurd rfl h
theorem Tree.lev_lt (h : Tree S) : ∀ i j, j ∈ levL S i [0] → j < S.ins.length
 | 0, j, hj => by
   have : j = 0 := List.mem_singleton.1 hj; have := h.pos; omega
 | i + 1, j, hj => by
   rw [levL_step] at hj; obtain ⟨k, _, hk⟩ := List.mem_flatMap.1 hj; exact h.kid_lt hk
theorem count_flat (f : Nat → List Nat) (j : Nat) : ∀ l : List Nat, (l.flatMap f).count j = (l.map fun k => (f k).count j).sum
 | [] => rfl
 | k :: r => by
   rw [List.flatMap_cons, List.count_append, count_flat f j r]; rfl
theorem sum_one_at {c : Nat → Nat} {p : Nat} (hp : c p = 1) : ∀ l : List Nat, (∀ k ∈ l, k ≠ p → c k = 0) → (l.map c).sum = l.count p
 | [], _ => rfl
 | k :: r, h => by
   rw [List.map_cons, List.sum_cons, sum_one_at hp r fun k hk => h k (List.mem_cons_of_mem _ hk), List.count_cons]; by_cases e : k = p
   · subst e; rw [hp]; simp; omega
   · rw [h k List.mem_cons_self e]; simp [e]
theorem sum_zero_at {c : Nat → Nat} : ∀ l : List Nat, (∀ k ∈ l, c k = 0) → (l.map c).sum = 0
 | [], _ => rfl
 | k :: r, h => by
   rw [List.map_cons, List.sum_cons, sum_zero_at r fun k hk => h k (List.mem_cons_of_mem _ hk), h k List.mem_cons_self]
theorem Tree.visit (h : Tree S) : ∀ (l j : Nat), isDir S j = true → sumU (fun i => (levL S i [0]).count j) (l + 1) ≤ 1
 | 0, j, _ => by
   simp only [sumU, levL]; rw [List.count_singleton]
   split <;> omega
 | l + 1, j, hj => by
   rw [sumU_shift]; have hstep : ∀ i, (levL S (i + 1) [0]).count j = ((levL S i [0]).map fun k => (kidsI S k).count j).sum := fun i => by rw [levL_step, count_flat]
   simp only [hstep]; by_cases j0 : j = 0
   · subst j0; have hz : ∀ i, ((levL S i [0]).map fun k => (kidsI S k).count 0).sum = 0 := fun i => sum_zero_at _ fun k _ => List.count_eq_zero.2 (h.root k)
     simp only [hz]; rw [sumU_const]; simp [levL]
   · have h0 : (levL S 0 [0]).count j = 0 := List.count_eq_zero.2 (by simp [levL]; exact j0); rw [h0, Nat.zero_add]; have hx : ∃ x, S.ins[j]? = some x ∧ x.dir = true := by
      unfold isDir at hj
      split at hj
      · rename_i x hx; exact ⟨x, hx, hj⟩
      · cases hj
     obtain ⟨x, hx1, hx2⟩ := hx; have ho := h.once j x hx1 hx2 j0; rcases Nat.lt_or_ge 0 (sumU (fun k => (kidsI S k).count j) S.ins.length) with hp | hp
     · obtain ⟨p, p1, p2, p3⟩ := sumU_one (f := fun k => (kidsI S k).count j) (n := S.ins.length) (by omega); have hpd : isDir S p = true := kids_dir (fun e => by simp only [e] at p2; simp at p2); have hi : ∀ i, ((levL S i [0]).map fun k => (kidsI S k).count j).sum = (levL S i [0]).count p := fun i => sum_one_at (c := fun k => (kidsI S k).count j) (p := p) p2 _ fun k hk hne => p3 k (h.lev_lt i k hk) hne
       simp only [hi]; exact h.visit l p hpd
     · have hz : ∀ k, k < S.ins.length → (kidsI S k).count j = 0 := by
        have key : ∀ (n : Nat), sumU (fun k => (kidsI S k).count j) n = 0 → ∀ k, k < n → (kidsI S k).count j = 0 := by
         intro n
         induction n with
         | zero => intro _ k hk; omega
         | succ n ih =>
           intro e k hk; unfold sumU at e; by_cases e2 : k = n
           · subst e2; omega
           · exact ih (by omega) k (by omega)
        exact key _ (by omega)
       have hi : ∀ i, ((levL S i [0]).map fun k => (kidsI S k).count j).sum = 0 := fun i => sum_zero_at _ fun k hk => hz k (h.lev_lt i k hk)
       simp only [hi]; rw [sumU_const]; omega
theorem countP_sum (S : PSt) (n : Nat) : ∀ l : List Nat, (∀ k ∈ l, k < n) → l.countP (isDir S) = sumU (fun j => if isDir S j = true then l.count j else 0) n := by
 intro l
 induction l with
 | nil =>
   intro _; have : (fun j => if isDir S j = true then ([] : List Nat).count j else 0) = fun _ => 0 := by funext j; simp
   rw [this, sumU_const]; simp
 | cons k r ih =>
   intro hl; have hk := hl k List.mem_cons_self; rw [List.countP_cons, ih fun k hk => hl k (List.mem_cons_of_mem _ hk)]; have e : (fun j => if isDir S j = true then (k :: r).count j else 0) = fun j => (if isDir S j = true then r.count j else 0) + (if j = k then (if isDir S k = true then 1 else 0) else 0) := by
    funext j
    rw [List.count_cons]; by_cases e1 : j = k
    · subst e1; simp
      split <;> rfl
    · have : (k == j) = false := by rw [beq_eq_false_iff_ne]; exact fun h => e1 h.symm
      simp [this, e1]
   rw [e, sumU_add]
   congr 1
   have one : ∀ (n k v : Nat), k < n → sumU (fun j => if j = k then v else 0) n = v := by
    intro n
    induction n with
    | zero => intro k v hk; omega
    | succ n ihn =>
      intro k v hk; unfold sumU; by_cases e2 : k = n
      · subst e2; have : sumU (fun j => if j = k then v else 0) k = 0 := by
         have hm : sumU (fun j => if j = k then v else 0) k ≤ sumU (fun _ => 0) k := sumU_mono fun j hj => by rw [if_neg (by omega)]; exact Nat.le_refl _
         rw [sumU_const] at hm; omega
        rw [this, if_pos rfl]; omega
      · rw [ihn k v (by omega), if_neg (fun h => e2 h.symm), Nat.add_zero]
   rw [one n k _ hk]
theorem sumU_swap (g : Nat → Nat → Nat) (n : Nat) : ∀ m, sumU (fun i => sumU (fun j => g i j) n) m = sumU (fun j => sumU (fun i => g i j) m) n
 | 0 => by
   simp only [sumU]; rw [sumU_const]; rfl
 | m + 1 => by
   rw [sumU, sumU_swap g n m]; rw [← sumU_add]; rfl
theorem Tree.dirs (h : Tree S) (l : Nat) : sumU (fun i => (levL S i [0]).countP (isDir S)) (l + 1) ≤ S.ins.length := by
 have e : ∀ i, (levL S i [0]).countP (isDir S) = sumU (fun j => if isDir S j = true then (levL S i [0]).count j else 0) S.ins.length := fun i => countP_sum S S.ins.length _ fun k hk => h.lev_lt i k hk
 simp only [e]
 rw [sumU_swap]
 have hb : sumU (fun j => sumU (fun i => if isDir S j = true then (levL S i [0]).count j else 0) (l + 1)) S.ins.length ≤ sumU (fun _ => 1) S.ins.length := sumU_mono fun j hj => by
  by_cases hd : isDir S j = true
  · simp only [hd, if_true]; exact h.visit l j hd
  · simp only [hd, if_neg (Bool.false_ne_true)]; have : sumU (fun _ => 0) (l + 1) = 0 := by rw [sumU_const]; rfl
    simp [this]
 rw [sumU_const] at hb
 omega
theorem Tree.ends (h : Tree S) : levL S 258 [0] = [] := by
 have hno : ∃ i, i < 258 ∧ (levL S i [0]).countP (isDir S) = 0 := by
  apply Classical.byContradiction; intro hn; have h1 : sumU (fun _ => 1) 258 ≤ sumU (fun i => (levL S i [0]).countP (isDir S)) 258 := sumU_mono fun i hi => by
   rcases Nat.lt_or_ge 0 ((levL S i [0]).countP (isDir S)) with h2 | h2
   · exact h2
   · exact absurd ⟨i, hi, by omega⟩ hn
  rw [sumU_const] at h1; have h2 : sumU (fun i => (levL S i [0]).countP (isDir S)) 258 ≤ S.ins.length := h.dirs 257; have h4 := h.small; omega
 obtain ⟨i, hi, hz⟩ := hno
 have h1 : levL S (i + 1) [0] = [] := by
  rw [levL_step]; rw [List.flatMap_eq_nil_iff]; intro k hk; apply Classical.byContradiction; intro hne; have := List.countP_eq_zero.1 hz k hk; exact this (kids_dir hne)
 have key : ∀ m, levL S (i + 1 + m) [0] = [] := by
  intro m
  induction m with
  | zero => exact h1
  | succ m ih => rw [← Nat.add_assoc, levL_step, ih]; rfl
 have := key (258 - (i + 1))
 rw [show i + 1 + (258 - (i + 1)) = 258 by omega] at this
 exact this
theorem atR_at {k : Nat} {n : Int} (h0 : 0 ≤ atR S n) (hk : (atR S n).toNat = k) : idxM (isNum n) S.ins = (k : Int) := by
 show atR S n = _
 omega
theorem Tree.ok (h : Tree S) : ∀ (f : Nat) (n : Int), 0 ≤ atR S n → atR S n < S.ins.length → levL S f [(atR S n).toNat] = [] → wlkOk S f n = true
 | 0, n, h0, h1, hl => by cases hl
 | f + 1, n, h0, h1, hl => by
   unfold wlkOk; rw [atR_at h0 rfl, Int.toNat_natCast]; have hx : S.ins[(atR S n).toNat]? = some (S.ins[(atR S n).toNat]'(by omega)) := List.getElem?_eq_getElem (by omega); rw [hx]; simp only [Bool.and_eq_true, decide_eq_true_eq]; refine ⟨by omega, ?_⟩; rcases hd : (S.ins[(atR S n).toNat]'(by omega)).dir with _ | _
   · rfl
   · simp only [Bool.not_true, Bool.false_or, List.all_eq_true]; intro e he; have hf := h.found _ (List.getElem_mem (by omega)) e he; refine h.ok f e.num hf.1 hf.2 ?_; have hl2 : levL S f (kidsI S (atR S n).toNat) = [] := by
      have : levL S (f + 1) [(atR S n).toNat] = levL S f ([(atR S n).toNat].flatMap (kidsI S)) := rfl; rw [this] at hl; simpa using hl
     have hm : (atR S e.num).toNat ∈ kidsI S (atR S n).toNat := by
      unfold kidsI; rw [hx]; simp only; rw [if_pos hd]; exact List.mem_map_of_mem he
     obtain ⟨as_, bs, e2⟩ := List.append_of_mem hm; rw [e2, show (atR S e.num).toNat :: bs = [(atR S e.num).toNat] ++ bs from rfl, levL_append, levL_append] at hl2; exact (List.append_eq_nil_iff.1 (List.append_eq_nil_iff.1 hl2).2).1
theorem Tree.len (h : Tree S) : ∀ (f : Nat) (n : Int) (p : Nat), wLen S f n p ≤ cntN S f (atR S n).toNat * (p + 13 * f + 552)
 | 0, n, p => Nat.zero_le _
 | f + 1, n, p => by
   unfold wLen cntN; have ei : (idxM (isNum n) S.ins).toNat = (atR S n).toNat := rfl; rw [ei]; rcases hx : S.ins[(atR S n).toNat]? with _ | x
   · exact Nat.zero_le _
   · simp only; have hk : kidsI S (atR S n).toNat = if x.dir = true then x.ents.map fun e => (atR S e.num).toNat else [] := by unfold kidsI; rw [hx]
     have hxm := List.mem_of_getElem? hx; by_cases hd : x.dir = true
     · rw [if_pos hd]; rw [if_pos hd] at hk; rw [hk, List.map_map]; have h1 := sum_le (fun e : PEnt => wLen S f e.num (p + 1 + e.name.size)) (fun e => cntN S f (atR S e.num).toNat * (p + 13 * (f + 1) + 552)) x.ents fun e he => by
        have h2 := h.len f e.num (p + 1 + e.name.size); have h3 := h.name x hxm e he; exact Nat.le_trans h2 (Nat.mul_le_mul_left _ (by omega))
       have h4 : (x.ents.map fun e => cntN S f (atR S e.num).toNat * (p + 13 * (f + 1) + 552)).sum = (x.ents.map (cntN S f ∘ fun e => (atR S e.num).toNat)).sum * (p + 13 * (f + 1) + 552) := by
        generalize p + 13 * (f + 1) + 552 = c
        induction x.ents with
        | nil => simp
        | cons e r ih => simp only [List.map_cons, List.sum_cons, Function.comp]; rw [ih, Nat.add_mul]
       rw [h4] at h1; rw [Nat.add_mul, Nat.one_mul]; omega
     · rw [if_neg hd]; have h5 := h.data x hxm; rw [Nat.add_mul, Nat.one_mul]; have : p + 2 * x.data.size + 40 ≤ p + 13 * (f + 1) + 552 := by omega
       omega
end
end Go.Proofs.YtmkapobnfigedaaGreatDoor
namespace Go.Proofs.YtmkapobnfigedaaGreatDoor
open Go.RowKit
theorem numsB_at {made : List Int} : ∀ (l : List Int) (p : Int), numsB made p l = true → (∀ (i : Nat) (x : Int), l[i]? = some x → p < x ∧ mayNumM made x = true) ∧ Rise l
 | [], p, _ => ⟨fun i x h => by simp at h, fun i j x y h => by simp at h⟩
 | n :: r, p, h => by
   unfold numsB at h
   split at h
   · cases h
   · rename_i h1
     split at h
     · cases h
     · rename_i h2
       obtain ⟨h3, h4⟩ := numsB_at r n h; refine ⟨fun i x hx => ?_, fun i j x y hx hy hij => ?_⟩
       · rcases i with _ | i
         · simp at hx; subst hx; exact ⟨by omega, by simpa using h2⟩
         · have := h3 i x (by simpa using hx); exact ⟨by omega, this.2⟩
       · rcases j with _ | j
         · omega
         · rcases i with _ | i
           · simp at hx; subst hx; exact (h3 j y (by simpa using hy)).1
           · exact h4 i j x y (by simpa using hx) (by simpa using hy) (by omega)
theorem rise_ge {ns : List Int} (h : Rise ns) : ∀ (i : Nat) (x y : Int), ns[0]? = some x → ns[i]? = some y → x + i ≤ y
 | 0, x, y, hx, hy => by rw [hx] at hy; have := Option.some.inj hy; omega
 | i + 1, x, y, hx, hy => by
   obtain ⟨hl, _⟩ := List.getElem?_eq_some_iff.1 hy; have hz : ns[i]? = some ns[i] := List.getElem?_eq_getElem (by omega); have h1 := rise_ge h i x _ hx hz; have h2 := h i (i + 1) _ _ hz hy (by omega); omega
theorem name_small {s : ByteArray} (h : nameB s = true) : s.size ≤ 12 := by
 unfold nameB checkM at h
 by_cases e : 12 < s.size
 · rw [if_pos e] at h; cases h
 · omega
theorem set_sum : ∀ (sl : List Int) (k : Nat) (x : Int), sl[k]? = some x → (sl.set k (x + 1)).sum = sl.sum + 1
 | [], k, x, h => by simp at h
 | y :: r, 0, x, h => by
   simp at h; subst h; simp only [List.set_cons_zero, List.sum_cons]; omega
 | y :: r, k + 1, x, h => by
   simp only [List.set_cons_succ, List.sum_cons]; rw [set_sum r k x (by simpa using h)]; omega
theorem sum_le4 : ∀ (sl : List Int), (∀ x ∈ sl, x ≤ 4) → sl.sum ≤ 4 * sl.length
 | [], _ => by simp
 | x :: r, h => by
   have h1 := sum_le4 r fun y hy => h y (List.mem_cons_of_mem _ hy)
   have h2 := h x List.mem_cons_self; simp only [List.sum_cons, List.length_cons]; omega
theorem entsB_all {ns : List Int} : ∀ (es : List PEnt) (prev : Option ByteArray) (sl : List Int), entsB ns prev sl es = true → (∀ x ∈ sl, x ≤ 4) → (∀ e ∈ es, e.name.size ≤ 12 ∧ e.num ≠ 1 ∧ 0 ≤ findN ns e.num) ∧ es.length + sl.sum ≤ 4 * sl.length
 | [], _, sl, _, h4 => ⟨fun e he => (by cases he), by have := sum_le4 sl h4; simp; omega⟩
 | e :: r, prev, sl, h, h4 => by
   unfold entsB at h
   split at h
   · cases h
   rename_i h1
   split at h
   · cases h
   split at h
   · cases h
   rename_i h3
   split at h
   · cases h
   rename_i h5
   rcases hs : sl[(bucketM e.name).toNat]? with _ | x
   · rw [hs] at h; cases h
   · rw [hs] at h; simp only at h
     split at h
     · cases h
     · rename_i h6
       obtain ⟨a1, a2⟩ := entsB_all r _ _ h (fun y hy => by
        rcases List.mem_or_eq_of_mem_set hy with hy | hy
        · exact h4 y hy
        · omega)
       rw [set_sum sl _ x hs, List.length_set] at a2; refine ⟨fun e' he => ?_, by simp only [List.length_cons]; omega⟩; rcases List.mem_cons.1 he with rfl | he
       · exact ⟨name_small (by simpa using h1), h3, by omega⟩
       · exact a1 e' he
theorem lkI_append (n : Int) : ∀ (xs ys : List PIn) (a : Int), lkI n (xs ++ ys) a = lkI n ys (lkI n xs a)
 | [], _, _ => rfl
 | x :: r, ys, a => by
   show lkI n (r ++ ys) _ = _; rw [lkI_append n r ys]; rfl
theorem lkE_count {S : PSt} (hr : Rise S.nums) {j : Nat} {y : PIn} (hj : S.ins[j]? = some y) : ∀ (es : List PEnt) (a : Int), (∀ e ∈ es, 0 ≤ atR S e.num) → lkE y.num es a = a + (((es.map fun e => (atR S e.num).toNat).count j : Nat) : Int)
 | [], a, _ => by simp [lkE]
 | e :: r, a, h => by
   unfold lkE; rw [lkE_count hr hj r _ fun e' he => h e' (List.mem_cons_of_mem _ he), List.map_cons, List.count_cons]; have he := h e List.mem_cons_self; by_cases e1 : e.num = y.num
   · rw [if_pos (by simpa using e1)]; have : (atR S e.num).toNat = j := by rw [e1, atR_hit hr hj]; simp
     rw [this]; simp; omega
   · rw [if_neg (by simpa using e1)]; have : ((atR S e.num).toNat == j) = false := by
      rw [beq_eq_false_iff_ne]; intro e2; rcases atR_cases S e.num with ⟨k, x, hk, e3⟩ | ⟨_, e3⟩
      · rw [← e3, atR_hit hr hk] at e2; have : k = j := by omega
        subst this; rw [hk] at hj; cases hj; exact e1 e3.symm
      · omega
     rw [this]; simp
theorem lkI_sum {S : PSt} (hr : Rise S.nums) (hf : ∀ x ∈ S.ins, ∀ e ∈ x.ents, 0 ≤ atR S e.num) {j : Nat} {y : PIn} (hj : S.ins[j]? = some y) : ∀ m, m ≤ S.ins.length → lkI y.num (S.ins.take m) 0 = ((sumU (fun k => (kidsI S k).count j) m : Nat) : Int)
 | 0, _ => rfl
 | m + 1, hm => by
   have hx : S.ins[m]? = some (S.ins[m]'(by omega)) := List.getElem?_eq_getElem (by omega); rw [List.take_add_one, hx]; simp only [Option.toList_some]; rw [lkI_append, lkI_sum hr hf hj m (by omega)]; rw [show sumU (fun k => (kidsI S k).count j) (m + 1) = sumU (fun k => (kidsI S k).count j) m + (kidsI S m).count j from rfl]; show (if (S.ins[m]'(by omega)).dir = true then lkE y.num (S.ins[m]'(by omega)).ents _ else _) = _; have hk : kidsI S m = if (S.ins[m]'(by omega)).dir = true then (S.ins[m]'(by omega)).ents.map fun e => (atR S e.num).toNat else [] := by unfold kidsI; rw [hx]
   rw [hk]
   split
   · rw [lkE_count hr hj _ _ (hf _ (List.getElem_mem (by omega)))]; omega
   · simp
theorem mayLoop_at {many : List Int} {found : List Bool} {op : List PDesc} : ∀ (xs : List PIn) (i j : Nat) (x : PIn), mayLoop many found op i xs = true → xs[j]? = some x → x.dir = true → i + j ≠ 0 → many.getD (i + j) 0 = 1
 | [], _, _, _, _, h, _, _ => by simp at h
 | y :: r, i, 0, x, h, hx, hd, hn => by
   simp at hx; subst hx; unfold mayLoop at h; rw [if_neg (by omega)] at h
   split at h
   · cases h
   · rename_i h1
     rw [hd] at h1; simp only [Bool.true_and, Bool.or_eq_true, Bool.not_eq_true', not_or, beq_eq_false_iff_ne] at h1; have := h1.1; exact Classical.not_not.1 this
 | y :: r, i, j + 1, x, h, hx, hd, hn => by
   have hr : mayLoop many found op (i + 1) r = true := by
    unfold mayLoop at h
    split at h
    · exact h
    · split at h
      · cases h
      · split at h
        · cases h
        · exact h
   have := mayLoop_at r (i + 1) j x hr (by simpa using hx) hd (by omega); rw [show i + (j + 1) = i + 1 + j by omega]; exact this
theorem tree_of_may {S : PSt} (hwf : S.wf) (hm : mayM S = true) : Tree S := by
 have hdata := may_data hm
 unfold mayM at hm
 split at hm
 rotate_left
 · cases hm
 rename_i h1
 simp only [Bool.and_eq_true] at h1
 obtain ⟨⟨hmade, hins⟩, hop⟩ := h1
 unfold mayInsM at hins
 rcases e : S.ins with _ | ⟨x0, r⟩
 · rw [e] at hins; cases hins
 rw [e] at hins
 simp only at hins
 split at hins
 rotate_left
 · cases hins
 rename_i hn0
 split at hins
 rotate_left
 · cases hins
 rename_i hd0
 rw [← e, Bool.and_eq_true, List.all_eq_true] at hins
 obtain ⟨hnb, hall⟩ := hins
 obtain ⟨n1, n2⟩ := numsB_at _ _ hnb
 have hnums : S.nums = 1 :: r.map PIn.num := by unfold PSt.nums; rw [e, List.map_cons, hn0]
 have hr : Rise S.nums := by
  rw [hnums]; intro i j x y hx hy hij; rcases j with _ | j
  · omega
  · rcases i with _ | i
    · simp at hx; subst hx; exact (n1 j y (by simpa using hy)).1
    · exact n2 i j x y (by simpa using hx) (by simpa using hy) (by omega)
 have hx0 : S.ins[0]? = some x0 := by rw [e]; rfl
 have hents : ∀ x ∈ S.ins, (∀ e ∈ x.ents, e.name.size ≤ 12 ∧ e.num ≠ 1 ∧ 0 ≤ findN S.nums e.num) ∧ x.ents.length ≤ 32 ∧ (x.dir = false → x.ents = []) := fun x hx => by
  have := hall x hx; unfold inB at this
  split at this
  · rename_i hd
    rw [Bool.and_eq_true] at this; obtain ⟨a1, a2⟩ := entsB_all x.ents none [0, 0, 0, 0, 0, 0, 0, 0] this.2 (fun y hy => by simp at hy; omega); refine ⟨a1, by simp at a2; omega, fun h => by rw [hd] at h; cases h⟩
  · simp only [Bool.and_eq_true, decide_eq_true_eq] at this; have h0 := List.eq_nil_of_length_eq_zero this.1; rw [h0]; exact ⟨fun e he => (by cases he), by simp, fun _ => rfl⟩
 have hfound : ∀ x ∈ S.ins, ∀ e ∈ x.ents, 0 ≤ atR S e.num ∧ atR S e.num < S.ins.length := fun x hx e' he => by
  have h2 := ((hents x hx).1 e' he).2.2; rw [find_atR hr] at h2; have := atR_bounds S e'.num; omega
 have hlen : S.ins.length ≤ 257 := by
  apply Classical.byContradiction; intro hl; obtain ⟨v, hy⟩ : ∃ v, S.nums[257]? = some v := ⟨_, List.getElem?_eq_getElem (by unfold PSt.nums; rw [List.length_map]; omega)⟩
  have h2 := rise_ge hr 257 1 _ (by rw [hnums]; rfl) hy; have h3 : (r.map PIn.num)[256]? = some v := by
   rw [hnums] at hy; simpa using hy
  have h4 := (n1 256 _ h3).2; unfold mayNumM at h4; rw [if_neg (by omega)] at h4
  split at h4
  · rename_i m hmk
    simp only [decide_eq_true_eq] at h4; unfold mayMadeM at hmade; simp only [Bool.and_eq_true, Bool.not_eq_true', List.any_eq_false] at hmade; have h5 := hmade.2 m (List.mem_of_getElem? hmk); unfold badMade at h5; simp only [Bool.or_eq_true, decide_eq_true_eq, not_or] at h5; omega
  · cases h4
 refine ⟨hr, by rw [e]; simp, hlen, hfound, fun k hk => ?_, fun j x hx hd hj => ?_, fun x hx => (hents x hx).2.1, fun x hx e' he => ((hents x hx).1 e' he).1, hdata⟩
 · unfold kidsI at hk
   split at hk
   · rename_i x hx
     split at hk
     · obtain ⟨e', he, h0⟩ := List.mem_map.1 hk; have hxm := List.mem_of_getElem? hx; have hf := hfound x hxm e' he; rcases atR_cases S e'.num with ⟨k2, y, hk2, e3⟩ | ⟨_, e3⟩
       · rw [← e3, atR_hit hr hk2] at h0; have : k2 = 0 := by omega
         subst this; rw [hx0] at hk2; cases hk2; exact ((hents x hxm).1 e' he).2.1 (by rw [← e3]; exact hn0)
       · omega
     · cases hk
   · cases hk
 · have h2 := mayLoop_at S.ins 0 j x hm hx hd (by omega); rw [Nat.zero_add] at h2; have h0 : (List.replicate S.ins.length (0 : Int)).getD j 0 = 0 := by
    rw [List.getD_eq_getElem?_getD, List.getElem?_replicate]; split <;> rfl
   have hel : entsLen S.ins < 9000000000000000000 := by
    have key : ∀ (xs : List PIn), (∀ x ∈ xs, x.ents.length ≤ 32) → entsLen xs ≤ xs.length * 32 := by
     intro xs
     induction xs with
     | nil => intro _; simp [entsLen]
     | cons x r ih =>
       intro hx; have h1 := ih fun y hy => hx y (List.mem_cons_of_mem _ hy)
       have h2 := hx x List.mem_cons_self; simp only [entsLen, List.map_cons, List.sum_cons, List.length_cons] at h1 ⊢; omega
    have := key S.ins fun x hx => (hents x hx).2.1
    omega
   have h3 := manyM_at hr (nums_at hx) S.ins (List.replicate S.ins.length 0) (by simp [PSt.nums]) (fun x hx e' he => ((hents x hx).1 e' he).2.2) (fun x hx => (hents x hx).2.2) (by rw [h0]; omega) (by rw [h0]; omega); unfold manyOf at h2; rw [h3, h0] at h2; have h4 := lkI_sum hr (fun x hx e' he => (hfound x hx e' he).1) hx S.ins.length (Nat.le_refl _); rw [List.take_length, h2] at h4; omega
end Go.Proofs.YtmkapobnfigedaaGreatDoor
