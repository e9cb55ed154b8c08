/- A region that draws its order: one walk in the order of the text serves, where each operation but a few only looks (and answers one value in every world that meets S), and these few come up in one order. Conditions: none. -/
import Derived.Test.YtjkenolgkkknaaaGreatDoorKit3
namespace Go
section
variable {P : Program} {ops : Array Oper} {S : World → Prop} {E : List Nat} {lx : Bool}
/-- An operation that acts: what it leaves in its slot, and the world behind it. -/
def Oper.eff (P : Program) (o : Oper) (a : Act) (w : World) (K : Value → World → Prop) : Prop :=
  match (execOp a.eval o).run P w with
  | .ok (.value v) w' => K v w'
  | .ok .skip w' => K undef w'
  | .ok (.enter f args) w' => Calls P f args w' (fun e w'' => ∃ v, e = .returned v ∧ K v w'')
  | _ => False
theorem Oper.eff_mono {o : Oper} {a : Act} {w : World} {K K' : Value → World → Prop} (h : o.eff P a w K) (hk : ∀ v w', K v w' → K' v w') : o.eff P a w K' := by
  unfold Oper.eff at *
  split <;> simp_all
  rename_i h1
  exact h.mono fun e w'' ⟨v, he, hv⟩ => ⟨v, he, hk _ _ hv⟩
theorem Oper.eff_some {o : Oper} {a : Act} {w : World} {K : Value → World → Prop} (h : o.eff P a w K) : ∃ v w', K v w' := by
  unfold Oper.eff at h
  split at h
  · exact ⟨_, _, h⟩
  · exact ⟨_, _, h⟩
  · obtain ⟨e, w', _, ⟨v, _, hk⟩, _⟩ := h []
    exact ⟨v, w', hk⟩
  · exact h.elim
theorem Oper.eff_same {o : Oper} {a a' : Act} {w : World} {K : Value → World → Prop} (h : o.eff P a w K) (he : execOp a'.eval o = execOp a.eval o) : o.eff P a' w K := by
  unfold Oper.eff at *
  rw [he]
  exact h
theorem Oper.wp_of_eff {o : Oper} {a : Act} {w : World} {K : Value → World → Prop} {K' : Act → World → Prop} {Q : Exit → Act → World → Prop} (h : o.eff P a w K) (hk : ∀ v w', K v w' → K' (a.put o.dst v) w') : o.wp P a w K' Q := by
  unfold Oper.eff at h
  unfold Oper.wp
  generalize (execOp a.eval o).run P w = r at *
  cases r with
  | ok n w' =>
    cases n <;> simp only [Oper.upon] at h ⊢ <;> first | exact hk _ _ h | exact h.elim | skip
    exact h.mono fun e w'' ⟨v, he, hv⟩ => by subst he; exact hk _ _ hv
  | halt x w' => exact h.elim
/-- In state a, in every world that meets S, operation o leaves v in its slot, and the world as it is. -/
def YieldsS (P : Program) (ops : Array Oper) (S : World → Prop) (o : Oper) (v : Value) (a : Act) : Prop :=
  (Region.wanted o (yielded ops a.tmps) = true ∧ ∀ w, S w → (execOp a.eval o).run P w = .ok (.value v) w) ∨
  (Region.wanted o (yielded ops a.tmps) = false ∧ v = undef)
theorem YieldsS.same {o : Oper} {v : Value} {a a' : Act} (hy : YieldsS P ops S o v a) (he : execOp a'.eval o = execOp a.eval o)
    (hw : Region.wanted o (yielded ops a'.tmps) = Region.wanted o (yielded ops a.tmps)) : YieldsS P ops S o v a' := by
  unfold YieldsS at *
  rw [he, hw]
  exact hy
theorem YieldsS.one {o : Oper} {v v' : Value} {a : Act} {w : World} (hS : S w) (h : YieldsS P ops S o v a) (h' : YieldsS P ops S o v' a) : v = v' := by
  rcases h with ⟨hw, h⟩ | ⟨hw, rfl⟩ <;> rcases h' with ⟨hw', h'⟩ | ⟨hw', rfl⟩
  · have := (h w hS).symm.trans (h' w hS)
    simpa using this
  · rw [hw] at hw'; cases hw'
  · rw [hw] at hw'; cases hw'
  · rfl
/-- The walk in the order of the text, over the numbers of operations that have not come up. -/
def wpE (P : Program) (ops : Array Oper) (S : World → Prop) (E : List Nat) (lx : Bool) (Q : Act → World → Prop) : List Nat → Act → World → Prop
  | [], a, w => Q a w
  | i :: rest, a, w =>
    match ops[i]? with
    | none => False
    | some o =>
      if E.contains i = true ∧ Region.wanted o (yielded ops a.tmps) = true then
        o.eff P a w fun v w' => (S w' ∨ (lx = true ∧ i + 1 = ops.size)) ∧ wpE P ops S E lx Q rest (a.put o.dst v) w'
      else ∃ v, YieldsS P ops S o v a ∧ wpE P ops S E lx Q rest (a.put o.dst v) w
theorem apart_put {x y : Oper} (h : x.apart ops y = true) (hx : ∀ cs b, x.op ≠ .select cs b) (a : Act) (v : Value) :
    execOp (a.put y.dst v).eval x = execOp a.eval x ∧ Region.wanted x (yielded ops (a.put y.dst v).tmps) = Region.wanted x (yielded ops a.tmps) := by
  obtain ⟨_, _, h3⟩ := Oper.apart_spec h
  exact ⟨execOp_put x hx a y.dst v h3, wanted_put x a y.dst v h3⟩
theorem apart_put' {x y : Oper} (h : x.apart ops y = true) (hy : ∀ cs b, y.op ≠ .select cs b) (a : Act) (v : Value) :
    execOp (a.put x.dst v).eval y = execOp a.eval y ∧ Region.wanted y (yielded ops (a.put x.dst v).tmps) = Region.wanted y (yielded ops a.tmps) := by
  obtain ⟨h1, _, _⟩ := Oper.apart_spec h
  exact ⟨execOp_put y hy a x.dst v h1, wanted_put y a x.dst v h1⟩
variable {Q : Act → World → Prop}
/-- An operation that only looks may be moved to the front. -/
theorem wpE_moveQ (hsel : ∀ (j : Nat) (o : Oper) cs b, ops[j]? = some o → o.op ≠ .select cs b) {q : Nat} {oq : Oper} (hq : ops[q]? = some oq) (l2 : List Nat) :
    ∀ (l1 : List Nat) (a : Act) (w : World), S w → (∀ k ∈ l1, k + 1 ≠ ops.size ∧ ∀ ok, ops[k]? = some ok → ok.apart ops oq = true) →
      (E.contains q = false ∨ Region.wanted oq (yielded ops a.tmps) = false) →
      wpE P ops S E lx Q (l1 ++ q :: l2) a w → ∃ v, YieldsS P ops S oq v a ∧ wpE P ops S E lx Q (l1 ++ l2) (a.put oq.dst v) w
  | [], a, w, _, _, hne, h => by
    simp only [List.nil_append, wpE, hq] at h
    rw [if_neg (by rintro ⟨h1, h2⟩; rcases hne with hne | hne <;> simp_all)] at h
    exact h
  | k :: l1, a, w, hS, hl, hne, h => by
    simp only [List.cons_append, wpE] at h ⊢
    obtain ⟨hk1, hk2⟩ := hl k (List.mem_cons_self)
    cases hk : ops[k]? with
    | none => rw [hk] at h; exact h.elim
    | some ok =>
      rw [hk] at h
      have hap := hk2 ok hk
      have hl' : ∀ k ∈ l1, k + 1 ≠ ops.size ∧ ∀ ok, ops[k]? = some ok → ok.apart ops oq = true := fun j hj => hl j (List.mem_cons_of_mem _ hj)
      have hsk := fun cs b => hsel k ok cs b hk
      have hsq := fun cs b => hsel q oq cs b hq
      have hne' : ∀ u, E.contains q = false ∨ Region.wanted oq (yielded ops (a.put ok.dst u).tmps) = false := fun u => by
        rw [(apart_put' hap hsq a u).2]; exact hne
      simp only at h ⊢
      split at h
      · rename_i hc
        obtain ⟨v0, w0, hS0, h0⟩ := Oper.eff_some h
        have hS0' : S w0 := hS0.resolve_right (fun e => hk1 e.2)
        obtain ⟨v, hv, _⟩ := wpE_moveQ hsel hq l2 l1 _ w0 hS0' hl' (hne' v0) h0
        have hva : YieldsS P ops S oq v a := hv.same (apart_put' hap hsq a v0).1.symm (apart_put' hap hsq a v0).2.symm
        refine ⟨v, hva, ?_⟩
        rw [if_pos ⟨hc.1, by rw [(apart_put hap hsk a v).2]; exact hc.2⟩]
        refine Oper.eff_same (Oper.eff_mono h fun v1 w1 ⟨hS1, h1⟩ => ?_) (apart_put hap hsk a v).1
        have hS1' : S w1 := hS1.resolve_right (fun e => hk1 e.2)
        obtain ⟨v2, hv2, h2⟩ := wpE_moveQ hsel hq l2 l1 _ w1 hS1' hl' (hne' v1) h1
        have e : v2 = v := YieldsS.one hS1' hv2 (hva.same (apart_put' hap hsq a v1).1 (apart_put' hap hsq a v1).2)
        subst e
        refine ⟨.inl hS1', ?_⟩
        rw [Act.put_comm a v2 v1 (fun d hd hd' => (Oper.apart_spec hap).2.1 d hd' hd)]
        exact h2
      · rename_i hc
        obtain ⟨u, hu, h1⟩ := h
        obtain ⟨v, hv, h2⟩ := wpE_moveQ hsel hq l2 l1 _ w hS hl' (hne' u) h1
        have hva : YieldsS P ops S oq v a := hv.same (apart_put' hap hsq a u).1.symm (apart_put' hap hsq a u).2.symm
        refine ⟨v, hva, ?_⟩
        rw [if_neg (fun e => hc ⟨e.1, by rw [(apart_put hap hsk a v).2] at e; exact e.2⟩)]
        refine ⟨u, hu.same (apart_put hap hsk a v).1 (apart_put hap hsk a v).2, ?_⟩
        rw [Act.put_comm a v u (fun d hd hd' => (Oper.apart_spec hap).2.1 d hd' hd)]
        exact h2
/-- An operation that acts may be moved ahead of those that only look. -/
theorem wpE_moveE (hsel : ∀ (j : Nat) (o : Oper) cs b, ops[j]? = some o → o.op ≠ .select cs b) {q : Nat} {oq : Oper} (hq : ops[q]? = some oq) (hE : E.contains q = true) (l2 : List Nat) :
    ∀ (l1 : List Nat) (a : Act) (w : World), (∀ k ∈ l1, E.contains k = false ∧ ∀ ok, ops[k]? = some ok → ok.apart ops oq = true) →
      Region.wanted oq (yielded ops a.tmps) = true →
      wpE P ops S E lx Q (l1 ++ q :: l2) a w → oq.eff P a w fun v w' => (S w' ∨ (lx = true ∧ q + 1 = ops.size)) ∧ wpE P ops S E lx Q (l1 ++ l2) (a.put oq.dst v) w'
  | [], a, w, _, hw, h => by
    simp only [List.nil_append, wpE, hq] at h
    rw [if_pos ⟨hE, hw⟩] at h
    exact h
  | k :: l1, a, w, hl, hw, h => by
    simp only [List.cons_append, wpE] at h ⊢
    obtain ⟨hk1, hk2⟩ := hl k (List.mem_cons_self)
    cases hk : ops[k]? with
    | none => rw [hk] at h; exact h.elim
    | some ok =>
      rw [hk] at h
      have hap := hk2 ok hk
      have hsk := fun cs b => hsel k ok cs b hk
      have hsq := fun cs b => hsel q oq cs b hq
      simp only at h ⊢
      rw [if_neg (by rintro ⟨h1, _⟩; rw [hk1] at h1; cases h1)] at h
      obtain ⟨u, hu, h1⟩ := h
      have h2 := wpE_moveE hsel hq hE l2 l1 _ w (fun j hj => hl j (List.mem_cons_of_mem _ hj)) (by rw [(apart_put' hap hsq a u).2]; exact hw) h1
      refine Oper.eff_same (Oper.eff_mono h2 fun v w' ⟨hS', h3⟩ => ⟨hS', ?_⟩) (apart_put' hap hsq a u).1.symm
      rw [if_neg (by rintro ⟨h1, _⟩; rw [hk1] at h1; cases h1)]
      refine ⟨u, hu.same (apart_put hap hsk a v).1 (apart_put hap hsk a v).2, ?_⟩
      rw [← Act.put_comm a u v (fun d hd hd' => (Oper.apart_spec hap).2.1 d hd hd')]
      exact h3
end
/-- Which operations an operation waits for, at any remove: bits, by number. -/
def Region.maskOk (ops : Array Oper) (M : Array Nat) : Bool :=
  (List.range ops.size).all fun i => match ops[i]? with
    | some o => (M.getD i 0 == o.after.toList.foldl (fun s e => if Region.binds .any e then s ||| 2 ^ e.on ||| M.getD e.on 0 else s) 0) && o.after.toList.all fun e => !Region.binds .any e || decide (e.on < i)
    | none => true
theorem mask_fold (M : Array Nat) (j : Nat) : ∀ (l : List Edge) (s : Nat), (l.foldl (fun s e => if Region.binds .any e then s ||| 2 ^ e.on ||| M.getD e.on 0 else s) s).testBit j = true →
    s.testBit j = true ∨ ∃ e ∈ l, Region.binds .any e = true ∧ (e.on = j ∨ (M.getD e.on 0).testBit j = true)
  | [], s, h => .inl h
  | e :: l, s, h => by
    rcases mask_fold M j l _ h with h1 | ⟨e', he', hb, h2⟩
    · dsimp only at h1
      by_cases hb : Region.binds .any e = true
      · rw [if_pos hb] at h1
        simp only [Nat.testBit_or, Bool.or_eq_true, Nat.testBit_two_pow, decide_eq_true_eq] at h1
        rcases h1 with (h1 | h1) | h1
        · exact .inl h1
        · exact .inr ⟨e, List.mem_cons_self, hb, .inl h1⟩
        · exact .inr ⟨e, List.mem_cons_self, hb, .inr h1⟩
      · rw [if_neg hb] at h1
        exact .inl h1
    · exact .inr ⟨e', List.mem_cons_of_mem _ he', hb, h2⟩
theorem mask_listed {ops : Array Oper} {M : Array Nat} (hM : Region.maskOk ops M = true) {listed : Array Bool}
    (hcl : ∀ i o, ops[i]? = some o → listed.getD i true = true → i < listed.size → ∀ e ∈ o.after, Region.binds .any e = true → listed.getD e.on false = true) (hsz : listed.size = ops.size) (j : Nat) :
    ∀ (n i : Nat) (o : Oper), i < n → ops[i]? = some o → (∀ e ∈ o.after, Region.binds .any e = true → listed.getD e.on false = true) → (M.getD i 0).testBit j = true → listed.getD j false = true
  | 0, i, _, hi, _, _, _ => by omega
  | n + 1, i, o, hi, ho, hd, ht => by
    have hlt : i < ops.size := (Array.getElem?_eq_some_iff.1 ho).1
    have h1 := List.all_eq_true.1 hM i (List.mem_range.2 hlt)
    rw [ho] at h1
    simp only [Bool.and_eq_true, beq_iff_eq] at h1
    rw [h1.1] at ht
    rcases mask_fold M j _ _ ht with h0 | ⟨e, he, hb, h2⟩
    · simp at h0
    · have hel := hd e (by simpa using he) hb
      rcases h2 with h2 | h2
      · rw [← h2]; exact hel
      · have hon : e.on < i := by
          have := List.all_eq_true.1 h1.2 e he
          simpa [hb] using this
        have hlt' : e.on < ops.size := by omega
        obtain ⟨o', ho'⟩ : ∃ o', ops[e.on]? = some o' := ⟨_, Array.getElem?_eq_getElem hlt'⟩
        refine mask_listed hM hcl hsz j n e.on o' (by omega) ho' (hcl e.on o' ho' ?_ (by omega)) h2
        have hs : e.on < listed.size := by omega
        simp [hs] at hel ⊢
        exact hel
/-- What the numbers of a region must meet. -/
def Region.effB (ops : Array Oper) (M : Array Nat) (E : List Nat) (lx : Bool) : Bool :=
  Region.noSelect ops && Region.maskOk ops M && (List.range ops.size).all fun i => (List.range i).all fun j =>
    match ops[i]?, ops[j]? with
    | some oi, some oj => ((M.getD i 0).testBit j || oj.apart ops oi) && (!(E.contains i && E.contains j) || (M.getD i 0).testBit j) && (!(lx && i + 1 == ops.size) || (M.getD i 0).testBit j)
    | _, _ => false
theorem effB_pair {ops : Array Oper} {M : Array Nat} {E : List Nat} {lx : Bool} (h : Region.effB ops M E lx = true) {i j : Nat} {oi oj : Oper} (hi : ops[i]? = some oi) (hj : ops[j]? = some oj) (hji : j < i) (hno : (M.getD i 0).testBit j = false) :
    oj.apart ops oi = true ∧ (E.contains i = true → E.contains j = false) ∧ (lx = true → i + 1 ≠ ops.size) := by
  have hlt : i < ops.size := (Array.getElem?_eq_some_iff.1 hi).1
  simp only [Region.effB, Bool.and_eq_true] at h
  have h1 := List.all_eq_true.1 (List.all_eq_true.1 h.2 i (List.mem_range.2 hlt)) j (List.mem_range.2 hji)
  rw [hi, hj] at h1
  simp only [hno, Bool.false_or, Bool.or_false, Bool.and_eq_true, Bool.not_eq_true', Bool.and_eq_false_iff] at h1
  refine ⟨h1.1.1, fun he => ?_, fun hl he => ?_⟩
  · rcases h1.1.2 with h2 | h2
    · rw [he] at h2; cases h2
    · exact h2
  · rcases h1.2 with h2 | h2
    · rw [hl] at h2; cases h2
    · simp [he] at h2
section
variable {P : Program} {ops : Array Oper} {S : World → Prop} {E : List Nat} {lx : Bool} {M : Array Nat} {Q : Exit → Act → World → Prop}
theorem wpE_any (hB : Region.effB ops M E lx = true) : ∀ (n : Nat) (R : List Nat) (listed : Array Bool) (a : Act) (w : World), R.length = n → listed.size = ops.size →
    (∀ i o, ops[i]? = some o → listed.getD i true = true → i < listed.size → ∀ e ∈ o.after, Region.binds .any e = true → listed.getD e.on false = true) →
    (∀ j, j < ops.size → (listed.getD j true = false ↔ j ∈ R)) → R.Pairwise (· < ·) → (∀ j ∈ R, j < ops.size) → (R = [] ∨ S w) →
    wpE P ops S E lx (fun a w => Q .normal a w) R a w → wpAny P .any ops Q n listed a w := by
  have hB' := hB
  simp only [Region.effB, Bool.and_eq_true] at hB'
  obtain ⟨⟨hsel0, hM⟩, _⟩ := hB'
  have hsel := Region.noSelect_spec hsel0
  intro n
  induction n with
  | zero =>
    intro R listed a w hn hsz hcl hR hso hlt hS h
    obtain rfl : R = [] := List.eq_nil_of_length_eq_zero hn
    refine ⟨List.eq_nil_iff_forall_not_mem.2 fun i hi => ?_, by simpa [wpE] using h⟩
    obtain ⟨h0, o, ho, _⟩ := mem_ready.1 hi
    have := (hR i (Array.getElem?_eq_some_iff.1 ho).1).1 h0
    cases this
  | succ n ih =>
    intro R listed a w hn hsz hcl hR hso hlt hS h
    have hSw : S w := by
      rcases hS with hS | hS
      · subst hS; simp at hn
      · exact hS
    have un : ∀ j, j < ops.size → j ∉ R → listed.getD j false = true := fun j hj hjR => by
      have h1 : ¬ listed.getD j true = false := fun e => hjR ((hR j hj).1 e)
      have hs : j < listed.size := by omega
      simp [hs] at h1 ⊢
      exact h1
    refine ⟨fun h0 => ?_, fun i hi => ?_⟩
    · exfalso
      match R, hn with
      | r :: R', _ =>
        have hr : r < ops.size := hlt r (List.mem_cons_self)
        have hmem : r ∈ Region.ready .any ops listed := by
          refine mem_ready.2 ⟨(hR r hr).2 (List.mem_cons_self), _, Array.getElem?_eq_getElem hr, fun e he hb => ?_⟩
          have h1 := List.all_eq_true.1 hM r (List.mem_range.2 hr)
          rw [Array.getElem?_eq_getElem hr] at h1
          simp only [Bool.and_eq_true] at h1
          have hon : e.on < r := by
            have := List.all_eq_true.1 h1.2 e (by simpa using he)
            simpa [hb] using this
          refine un e.on (by omega) fun hmem => ?_
          rcases List.mem_cons.1 hmem with h2 | h2
          · omega
          · have := (List.pairwise_cons.1 hso).1 _ h2; omega
        rw [h0] at hmem
        cases hmem
    · obtain ⟨hi0, oi, hoi, hdep⟩ := mem_ready.1 hi
      have hil : i < ops.size := (Array.getElem?_eq_some_iff.1 hoi).1
      have hiR : i ∈ R := (hR i hil).1 hi0
      obtain ⟨l1, l2, rfl⟩ := List.append_of_mem hiR
      have hso' := List.pairwise_append.1 hso
      have hl1 : ∀ k ∈ l1, k < i := fun k hk => hso'.2.2 k hk i (List.mem_cons_self)
      have hl2 : ∀ k ∈ l2, i < k := (List.pairwise_cons.1 hso'.2.1).1
      have hpair : ∀ k ∈ l1, ∀ ok, ops[k]? = some ok → ok.apart ops oi = true ∧ (E.contains i = true → E.contains k = false) ∧ (lx = true → i + 1 ≠ ops.size) := fun k hk ok hok => by
        refine effB_pair hB hoi hok (hl1 k hk) ?_
        rw [← Bool.not_eq_true]
        intro ht
        have h1 := mask_listed hM hcl hsz k (i + 1) i oi (by omega) hoi hdep ht
        have h2 := (hR k (hlt k (List.mem_append_left _ hk))).2 (List.mem_append_left _ hk)
        have hs : k < listed.size := by have := hl1 k hk; omega
        simp [hs] at h1 h2
        rw [h1] at h2; cases h2
      have hsz' : (listed.setIfInBounds i true).size = ops.size := by simpa using hsz
      have hcl' : ∀ j o, ops[j]? = some o → (listed.setIfInBounds i true).getD j true = true → j < (listed.setIfInBounds i true).size → ∀ e ∈ o.after, Region.binds .any e = true → (listed.setIfInBounds i true).getD e.on false = true := by
        intro j o ho hj hjs e he hb
        by_cases hij : i = j
        · subst hij
          have : o = oi := Option.some.inj (ho.symm.trans hoi)
          subst this
          exact getD_set_true (hdep e he hb)
        · rw [getD_set_ne true hij] at hj
          exact getD_set_true (hcl j o ho hj (by simpa using hjs) e he hb)
      have hR' : ∀ j, j < ops.size → ((listed.setIfInBounds i true).getD j true = false ↔ j ∈ l1 ++ l2) := by
        intro j hj
        by_cases hij : i = j
        · subst hij
          constructor
          · intro hf
            have hs : i < listed.size := by omega
            simp [hs] at hf
          · intro hm
            rcases List.mem_append.1 hm with hm | hm
            · have := hl1 _ hm; omega
            · have := hl2 _ hm; omega
        · rw [getD_set_ne true hij, hR j hj]
          simp only [List.mem_append, List.mem_cons]
          constructor
          · rintro (h1 | h1 | h1)
            · exact .inl h1
            · exact absurd h1.symm hij
            · exact .inr h1
          · rintro (h1 | h1)
            · exact .inl h1
            · exact .inr (.inr h1)
      have hso2 : (l1 ++ l2).Pairwise (· < ·) := hso.sublist (List.Sublist.append_left (List.sublist_cons_self i l2) l1)
      have hlt2 : ∀ j ∈ l1 ++ l2, j < ops.size := fun j hj => hlt j (by
        rcases List.mem_append.1 hj with h1 | h1
        · exact List.mem_append_left _ h1
        · exact List.mem_append_right _ (List.mem_cons_of_mem _ h1))
      have hlen : (l1 ++ l2).length = n := by simp at hn ⊢; omega
      unfold wpOp
      simp only [hoi]
      by_cases hc : E.contains i = true ∧ Region.wanted oi (yielded ops a.tmps) = true
      · have h1 := wpE_moveE hsel hoi hc.1 l2 l1 a w (fun k hk => ⟨by
          obtain ⟨ok, hok⟩ : ∃ ok, ops[k]? = some ok := ⟨_, Array.getElem?_eq_getElem (hlt k (List.mem_append_left _ hk))⟩
          exact (hpair k hk ok hok).2.1 hc.1, fun ok hok => (hpair k hk ok hok).1⟩) hc.2 h
        rw [if_pos hc.2]
        refine .inl (Oper.wp_of_eff h1 fun v w' ⟨hS', h2⟩ => ih _ _ _ _ hlen hsz' hcl' hR' hso2 hlt2 ?_ h2)
        rcases hS' with hS' | ⟨hl, he⟩
        · exact .inr hS'
        · refine .inl ?_
          have e1 : l1 = [] := List.eq_nil_iff_forall_not_mem.2 fun k hk => by
            obtain ⟨ok, hok⟩ : ∃ ok, ops[k]? = some ok := ⟨_, Array.getElem?_eq_getElem (hlt k (List.mem_append_left _ hk))⟩
            exact (hpair k hk ok hok).2.2 hl he
          have e2 : l2 = [] := List.eq_nil_iff_forall_not_mem.2 fun k hk => by
            have h3 := hl2 k hk
            have h4 := hlt2 k (List.mem_append_right _ hk)
            omega
          rw [e1, e2]; rfl
      · obtain ⟨v, hv, h1⟩ := wpE_moveQ hsel hoi l2 l1 a w hSw (fun k hk => ⟨by have := hl1 k hk; omega, fun ok hok => (hpair k hk ok hok).1⟩) (by
          rcases Bool.eq_false_or_eq_true (E.contains i) with h2 | h2
          · exact .inr (by rw [← Bool.not_eq_true]; exact fun h3 => hc ⟨h2, h3⟩)
          · exact .inl h2) h
        have h2 := ih _ _ _ _ hlen hsz' hcl' hR' hso2 hlt2 (.inr hSw) h1
        rcases hv with ⟨hw, hv⟩ | ⟨hw, rfl⟩
        · rw [if_pos hw]
          refine .inl ?_
          unfold Oper.wp
          rw [hv w hSw]
          exact h2
        · rw [if_neg (by rw [hw]; exact Bool.false_ne_true)]
          exact h2
/-- The walk in the order of the text, over the operations themselves. -/
def wpL (P : Program) (ops : Array Oper) (S : World → Prop) (E : List Nat) (lx : Bool) (Q : Act → World → Prop) : Nat → List Oper → Act → World → Prop
  | _, [], a, w => Q a w
  | k, o :: rest, a, w =>
    if E.contains k = true ∧ Region.wanted o (yielded ops a.tmps) = true then
      o.eff P a w fun v w' => (S w' ∨ (lx = true ∧ k + 1 = ops.size)) ∧ wpL P ops S E lx Q (k + 1) rest (a.put o.dst v) w'
    else ∃ v, YieldsS P ops S o v a ∧ wpL P ops S E lx Q (k + 1) rest (a.put o.dst v) w
theorem wpE_of_wpL {Q : Act → World → Prop} : ∀ (l : List Oper) (k : Nat) (a : Act) (w : World), (∀ j, l[j]? = ops[k + j]? ∨ l.length ≤ j) → wpL P ops S E lx Q k l a w → wpE P ops S E lx Q (List.range' k l.length) a w
  | [], _, _, _, _, h => by simpa [wpL, wpE] using h
  | o :: l, k, a, w, hl, h => by
    have h0 : ops[k]? = some o := by
      rcases hl 0 with h0 | h0
      · simpa using h0.symm
      · simp at h0
    have hl' : ∀ j, l[j]? = ops[k + 1 + j]? ∨ l.length ≤ j := fun j => by
      rcases hl (j + 1) with h1 | h1
      · left; rw [show k + 1 + j = k + (j + 1) by omega, ← h1]; simp
      · right; simp at h1; omega
    simp only [List.length_cons, List.range'_succ, wpE, h0]
    simp only [wpL] at h
    split at h
    · rename_i hc
      rw [if_pos hc]
      exact Oper.eff_mono h fun v w' ⟨h1, h2⟩ => ⟨h1, wpE_of_wpL l (k + 1) _ w' hl' h2⟩
    · rename_i hc
      rw [if_neg hc]
      obtain ⟨v, h1, h2⟩ := h
      exact ⟨v, h1, wpE_of_wpL l (k + 1) _ w hl' h2⟩
/-- A region that draws its order, walked in the order of the text. -/
theorem wp_region_eff {id : Nat} {a : Act} {w : World} {l : List Oper} (E : List Nat) (lx : Bool) (S : World → Prop) (hm : P.follows .mixedOrders = true) (hB : Region.effB l.toArray (Region.before l.toArray) E lx = true)
    (hS : S w.drew) (h : wpL P l.toArray S E lx (fun a' w' => Q .normal a' w') 0 l a w.drew) : (Code.region id l.toArray true).wp P Q a w := by
  have h' : wpE P l.toArray S E lx (fun a' w' => Q .normal a' w') (List.range l.length) a w.drew := by
    rw [List.range_eq_range']
    exact wpE_of_wpL l 0 a w.drew (fun j => .inl (by simp)) h
  refine wp_region_any hm (wpE_any (S := S) (E := E) (lx := lx) (M := Region.before l.toArray) hB _ (List.range l.length) _ _ _ (by simp) (by simp) ?_ ?_ List.pairwise_lt_range (by simp) (.inr hS) h')
  · intro i o _ hl hs
    exfalso
    simp at hs
    simp [hs] at hl
  · intro j hj
    simp at hj
    simp [hj]
end
attribute [go_sem] Oper.eff
section
variable {P : Program} {ops : Array Oper} {S : World → Prop} {E : List Nat} {lx : Bool} {Q : Act → World → Prop} {o : Oper} {a : Act} {w : World}
theorem wpL_look {k : Nat} {l : List Oper} (hE : E.contains k = false) (hw : Region.wanted o (yielded ops a.tmps) = true)
    (h : ∃ v : Value, (∀ w', S w' → (execOp a.eval o).run P w' = .ok (.value v) w') ∧ wpL P ops S E lx Q (k + 1) l (a.put o.dst v) w) : wpL P ops S E lx Q k (o :: l) a w := by
  obtain ⟨v, h1, h2⟩ := h
  simp only [wpL]
  rw [if_neg (by rintro ⟨h1, _⟩; rw [hE] at h1; cases h1)]
  exact ⟨v, .inl ⟨hw, h1⟩, h2⟩
theorem wpL_pass {k : Nat} {l : List Oper} (hw : Region.wanted o (yielded ops a.tmps) = false) (h : wpL P ops S E lx Q (k + 1) l (a.put o.dst undef) w) : wpL P ops S E lx Q k (o :: l) a w := by
  simp only [wpL]
  rw [if_neg (by rintro ⟨_, h1⟩; rw [hw] at h1; cases h1)]
  exact ⟨undef, .inr ⟨hw, rfl⟩, h⟩
theorem wpL_act {k : Nat} {l : List Oper} (hE : E.contains k = true) (hw : Region.wanted o (yielded ops a.tmps) = true)
    (h : o.eff P a w fun v w' => (S w' ∨ (lx = true ∧ k + 1 = ops.size)) ∧ wpL P ops S E lx Q (k + 1) l (a.put o.dst v) w') : wpL P ops S E lx Q k (o :: l) a w := by
  simp only [wpL]
  rw [if_pos ⟨hE, hw⟩]
  exact h
theorem wpL_end {k : Nat} (h : Q a w) : wpL P ops S E lx Q k [] a w := h
/-- append onto an owned row, as an operation that acts. -/
theorem eff_append {K : Value → World → Prop} (s x : Operand) (t : TypeId) (ho : o.op = .call { callee := .builtin .append, args := #[s, x], argTypes := #[t, t] })
    (base : Nat) (e : TypeId) (it : TypeInfo) (z : Value) (size bytes : Nat) (ht : P.underlying t = some (.slice e)) (hi : P.info? e = some it) (hz : it.zero = some z)
    (hsize : it.size = size) (hby : it.bytes = bytes) (hzs : z.cells.size = size) (hsz : 0 < size)
    (v : Value) (n : Nat) (xs : List Value) (hs : a.eval s = v) (hown : w.ownsRow base e size v n xs)
    (ad : Addr) (m c : Nat) (news : List Value) (hx : a.eval x = .slice (some ad) m c) (hl : news.length = m * size) (hnews : ∀ j u, news[j]? = some u → w.cell? (ad.add j) = some u) (h1 : ∀ u ∈ news, u.oneCell' = true)
    (h63 : n + m ≤ maxLen) (hbytes : (n + m) * bytes ≤ 140737488355328) (hbase : base ≤ w.heap.size)
    (h : ∀ v' w', w'.ownsRow base e size v' (n + m) (xs ++ news) → w.grownBy w' v.ownBlock → (v'.ownBlock = v.ownBlock ∨ v'.ownBlock = some w.heap.size) → K v' w') : o.eff P a w K := by
  obtain ⟨v', w', hr, h2, h3, _, h4⟩ := run_append_own_at (P := P) w base t o.type e it z size bytes ht hi hz hsize hby hzs hsz v n xs hown ad m c news hl hnews h1 h63 hbytes hbase
  unfold Oper.eff execOp
  simp only [ho, resolve, invoke, builtin, Sem.run_bind, Sem.run_pure, Result.andThen_ok, List.map_toArray, List.map_cons, List.map_nil, hs, hx, hr]
  exact h v' w' h2 h3 h4
/-- A call of a function, as an operation that acts. -/
theorem eff_call {K : Value → World → Prop} (f : FuncId) (args : Array Value) (hr : (execOp a.eval o).run P w = .ok (.enter f args) w) (h : Calls P f args w fun e w' => ∃ v, e = .returned v ∧ K v w') : o.eff P a w K := by
  unfold Oper.eff
  rw [hr]
  exact h
end
theorem wpL_do {P : Program} {ops : Array Oper} {S : World → Prop} {E : List Nat} {lx : Bool} {Q : Act → World → Prop} {o : Oper} {a : Act} {w : World} {k : Nat} {l : List Oper} (hE : E.contains k = true) (hw : Region.wanted o (yielded ops a.tmps) = true)
    (h : ∃ (v : Value) (w' : World), (execOp a.eval o).run P w = .ok (.value v) w' ∧ (S w' ∨ (lx = true ∧ k + 1 = ops.size)) ∧ wpL P ops S E lx Q (k + 1) l (a.put o.dst v) w') : wpL P ops S E lx Q k (o :: l) a w := by
  obtain ⟨v, w', h1, h2⟩ := h
  refine wpL_act hE hw ?_
  unfold Oper.eff
  rw [h1]
  exact h2
theorem wpL_skip {P : Program} {ops : Array Oper} {S : World → Prop} {E : List Nat} {lx : Bool} {Q : Act → World → Prop} {o : Oper} {a : Act} {w : World} {k : Nat} {l : List Oper} (hE : E.contains k = true) (hw : Region.wanted o (yielded ops a.tmps) = true)
    (h : ∃ (w' : World), (execOp a.eval o).run P w = .ok .skip w' ∧ (S w' ∨ (lx = true ∧ k + 1 = ops.size)) ∧ wpL P ops S E lx Q (k + 1) l (a.put o.dst undef) w') : wpL P ops S E lx Q k (o :: l) a w := by
  obtain ⟨w', h1, h2⟩ := h
  refine wpL_act hE hw ?_
  unfold Oper.eff
  rw [h1]
  exact h2
end Go
