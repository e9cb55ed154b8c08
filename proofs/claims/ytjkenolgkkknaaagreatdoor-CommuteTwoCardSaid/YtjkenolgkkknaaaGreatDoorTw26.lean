/- A region that draws its order, walked by what holds whatever has come up: each operation once. Conditions: none. -/
import Derived.Test.YtjkenolgkkknaaaGreatDoorTw01
set_option linter.unusedVariables false
set_option linter.unusedSimpArgs false
namespace Go
/-- Values laid in the operations' slots. -/
def putsL (σ : Nat → Value) : Nat → List Oper → Act → Act
  | _, [], a => a
  | i, o :: r, a => putsL σ (i + 1) r (a.put o.dst (σ i))
def dstsL (l : List Oper) : List Tmp := l.filterMap (·.dst)
def updV (σ : Nat → Value) (i : Nat) (v : Value) : Nat → Value := fun j => if j = i then v else σ j
theorem Act.put_put (a : Act) (x : Option Tmp) (v u : Value) : (a.put x v).put x u = a.put x u := by
  cases x with
  | none => rfl
  | some d => simp [Act.put, Array.setIfInBounds_setIfInBounds]
theorem putsL_comm (σ : Nat → Value) (x : Option Tmp) (v : Value) : ∀ (l : List Oper) (i : Nat) (a : Act), (∀ d, x = some d → d ∉ dstsL l) → (putsL σ i l a).put x v = putsL σ i l (a.put x v)
  | [], _, _, _ => rfl
  | o :: r, i, a, h => by
    simp only [putsL]
    rw [putsL_comm σ x v r (i + 1) _ (fun d hd hm => h d hd (by
      unfold dstsL at hm ⊢
      rw [List.filterMap_cons]
      split
      · exact hm
      · exact List.mem_cons_of_mem _ hm))]
    congr 1
    refine Act.put_comm a _ _ (fun d hd hx => h d hx ?_)
    unfold dstsL
    rw [List.filterMap_cons, hd]
    exact List.mem_cons_self
theorem putsL_congr {σ τ : Nat → Value} : ∀ (l : List Oper) (i : Nat) (a : Act), (∀ j, i ≤ j → σ j = τ j) → putsL σ i l a = putsL τ i l a
  | [], _, _, _ => rfl
  | o :: r, i, a, h => by
    simp only [putsL]
    rw [h i (Nat.le_refl _), putsL_congr r (i + 1) _ (fun j hj => h j (by omega))]
theorem dstsL_cons (o : Oper) (r : List Oper) : dstsL (o :: r) = match o.dst with | none => dstsL r | some d => d :: dstsL r := by
  unfold dstsL
  rw [List.filterMap_cons]
  cases o.dst <;> rfl
theorem dstsL_mem {l : List Oper} {j : Nat} {o : Oper} {d : Tmp} (ho : l[j]? = some o) (hd : o.dst = some d) : d ∈ dstsL l := List.mem_filterMap.2 ⟨o, List.mem_of_getElem? ho, hd⟩
theorem putsL_upd (σ : Nat → Value) (v : Value) : ∀ (l : List Oper) (i j : Nat) (a : Act) (o : Oper), (dstsL l).Nodup → l[j]? = some o → (putsL σ i l a).put o.dst v = putsL (updV σ (i + j) v) i l a
  | [], _, _, _, _, _, h => by simp at h
  | q :: r, i, 0, a, o, hn, h => by
    simp only [List.getElem?_cons_zero, Option.some.injEq] at h
    subst h
    simp only [putsL]
    have hnd : ∀ d, q.dst = some d → d ∉ dstsL r := fun d hd hm => by
      rw [dstsL_cons, hd] at hn
      exact (List.nodup_cons.1 hn).1 hm
    rw [putsL_comm σ q.dst v r (i + 1) _ hnd, Act.put_put]
    have e : updV σ (i + 0) v i = v := by simp [updV]
    rw [e]
    exact putsL_congr r (i + 1) _ (fun j hj => by unfold updV; rw [if_neg (by omega)])
  | q :: r, i, j + 1, a, o, hn, h => by
    simp only [List.getElem?_cons_succ] at h
    simp only [putsL]
    have hn' : (dstsL r).Nodup := by
      rw [dstsL_cons] at hn
      split at hn
      · exact hn
      · exact (List.nodup_cons.1 hn).2
    rw [putsL_upd σ v r (i + 1) j _ o hn' h]
    have e : updV σ (i + (j + 1)) v i = σ i := by unfold updV; rw [if_neg (by omega)]
    rw [e, show i + 1 + j = i + (j + 1) by omega]
theorem putsL_out (σ : Nat → Value) (x : Tmp) : ∀ (l : List Oper) (i : Nat) (a : Act), x ∉ dstsL l → (putsL σ i l a).eval (.tmp x) = a.eval (.tmp x)
  | [], _, _, _ => rfl
  | o :: r, i, a, h => by
    simp only [putsL]
    rw [putsL_out σ x r (i + 1) _ (fun hm => h (by rw [dstsL_cons]; split; exact hm; exact List.mem_cons_of_mem _ hm))]
    exact Act.eval_put fun d hd hx => h (by
      cases hx
      rw [dstsL_cons, hd]
      exact List.mem_cons_self)
theorem put_size (a : Act) (x : Option Tmp) (v : Value) : (a.put x v).tmps.size = a.tmps.size := by
  cases x <;> simp [Act.put]
theorem eval_put_self (a : Act) (d : Tmp) (v : Value) (h : d < a.tmps.size) : (a.put (some d) v).eval (.tmp d) = v := by
  simp [Act.put, Act.eval, h]
theorem putsL_in (σ : Nat → Value) : ∀ (l : List Oper) (i j : Nat) (a : Act) (o : Oper) (d : Tmp), (dstsL l).Nodup → l[j]? = some o → o.dst = some d → d < a.tmps.size → (putsL σ i l a).eval (.tmp d) = σ (i + j)
  | [], _, _, _, _, _, _, h, _, _ => by simp at h
  | q :: r, i, 0, a, o, d, hn, h, hd, hl => by
    simp only [List.getElem?_cons_zero, Option.some.injEq] at h
    subst h
    simp only [putsL]
    rw [putsL_out σ d r (i + 1) _ (fun hm => by
      rw [dstsL_cons, hd] at hn
      exact (List.nodup_cons.1 hn).1 hm), hd]
    exact eval_put_self a d _ hl
  | q :: r, i, j + 1, a, o, d, hn, h, hd, hl => by
    simp only [List.getElem?_cons_succ] at h
    simp only [putsL]
    have hn' : (dstsL r).Nodup := by
      rw [dstsL_cons] at hn
      split at hn
      · exact hn
      · exact (List.nodup_cons.1 hn).2
    rw [putsL_in σ r (i + 1) j _ o d hn' h hd (by rw [put_size]; exact hl), show i + 1 + j = i + (j + 1) by omega]
/-- What a region must be. -/
def Region.invB (l : List Oper) : Bool :=
  Region.noSelect l.toArray && decide ((dstsL l).Nodup) && (List.range l.length).all fun i => match l[i]? with
    | some o => o.after.toList.all fun e => !Region.binds .any e || decide (e.on < i)
    | none => true
/-- The numbers that an operation waits for. -/
def Oper.waits (o : Oper) : List Nat := (o.after.toList.filter fun e => Region.binds .any e).map (·.on)
/-- One statement for each operation. -/
def EachOp (p : Nat → Oper → Prop) : Nat → List Oper → Prop
  | _, [] => True
  | i, o :: r => p i o ∧ EachOp p (i + 1) r
theorem EachOp.at_ {p : Nat → Oper → Prop} : ∀ {l : List Oper} {i j : Nat} {o : Oper}, EachOp p i l → l[j]? = some o → p (i + j) o
  | [], _, _, _, _, h => by simp at h
  | q :: r, i, 0, o, h, ho => by
    simp only [List.getElem?_cons_zero, Option.some.injEq] at ho
    subst ho
    exact h.1
  | q :: r, i, j + 1, o, h, ho => by
    simp only [List.getElem?_cons_succ] at ho
    have := EachOp.at_ h.2 ho
    rw [show i + 1 + j = i + (j + 1) by omega] at this
    exact this
section
variable {P : Program} {l : List Oper} {Q : Exit → Act → World → Prop}
theorem wpAny_inv (R : (Nat → Prop) → (Nat → Value) → World → Prop) {a0 : Act} (hB : Region.invB l = true) (hsz : ∀ d ∈ dstsL l, d < a0.tmps.size)
    (hstep : EachOp (fun i o => ∀ (D : Nat → Prop) (σ : Nat → Value) (w : World) (a : Act), ¬ D i → (∀ k, o.waits.contains k = true → D k) → R D σ w → (∀ j q d, l[j]? = some q → q.dst = some d → a.eval (.tmp d) = σ j) → (∀ d, (dstsL l).contains d = false → a.eval (.tmp d) = a0.eval (.tmp d)) →
      (Region.wanted o (yielded l.toArray a.tmps) = true → o.eff P a w fun v w' => R (fun j => j = i ∨ D j) (updV σ i v) w') ∧ (Region.wanted o (yielded l.toArray a.tmps) = false → R (fun j => j = i ∨ D j) (updV σ i undef) w)) 0 l)
    (hend : ∀ σ w, R (fun _ => True) σ w → Q .normal (putsL σ 0 l a0) w) :
    ∀ (n : Nat) (listed : Array Bool) (σ : Nat → Value) (w : World), listed.size = l.length → listed.toList.count false = n → R (fun j => listed.getD j true = true) σ w → wpAny P .any l.toArray Q n listed (putsL σ 0 l a0) w := by
  simp only [Region.invB, Bool.and_eq_true, decide_eq_true_eq, List.all_eq_true, beq_iff_eq] at hB
  obtain ⟨⟨hsel, hnd⟩, hlt⟩ := hB
  intro n
  induction n with
  | zero =>
    intro listed σ w hs hc hR
    have hall : ∀ j, listed.getD j true = true := fun j => by
      by_cases hj : j < listed.size
      · rw [List.count_eq_zero] at hc
        have hm : listed[j] ∈ listed.toList := by simp
        rcases h : listed[j] with _ | _
        · rw [h] at hm
          exact absurd hm hc
        · simp [Array.getD, hj, h]
      · simp [Array.getD, hj]
    refine ⟨List.eq_nil_iff_forall_not_mem.2 fun i hi => ?_, hend σ w ?_⟩
    · obtain ⟨h0, _⟩ := mem_ready.1 hi
      rw [hall i] at h0
      cases h0
    · have e : (fun j => listed.getD j true = true) = fun _ => True := funext fun j => propext ⟨fun _ => trivial, fun _ => hall j⟩
      rw [← e]
      exact hR
  | succ n ih =>
    intro listed σ w hs hc hR
    have un : ∀ j, j < listed.size → ¬ listed.getD j false = true → listed.getD j true = false := fun j hj h => by
      simp [Array.getD, hj] at h ⊢
      exact h
    have hrd : ∀ i, listed.getD i true = false → Region.ready .any l.toArray listed ≠ [] := by
      intro i
      induction i using Nat.strongRecOn with
      | ind i ihi =>
        intro h h0
        have hi : i < l.length := by
          rw [← hs]
          by_cases hj : i < listed.size
          · exact hj
          · simp [Array.getD, hj] at h
        by_cases hall : ∀ e ∈ l[i].after, Region.binds .any e = true → listed.getD e.on false = true
        · have : i ∈ Region.ready .any l.toArray listed := mem_ready.2 ⟨h, l[i], by simp [hi], hall⟩
          rw [h0] at this
          cases this
        · obtain ⟨e, he⟩ := Classical.not_forall.1 hall
          obtain ⟨hm, he⟩ := Classical.not_imp.1 he
          obtain ⟨hb, hx⟩ := Classical.not_imp.1 he
          have h1 := hlt i (List.mem_range.2 hi)
          rw [List.getElem?_eq_getElem hi] at h1
          simp only [List.all_eq_true, Bool.or_eq_true, Bool.not_eq_true', decide_eq_true_eq] at h1
          have hon : e.on < i := by
            rcases h1 e (by simpa using hm) with h2 | h2
            · rw [hb] at h2; cases h2
            · exact h2
          exact ihi e.on hon (un e.on (by omega) hx) h0
    refine ⟨fun h0 => ?_, fun i hi => ?_⟩
    · exfalso
      have hm : false ∈ listed.toList := by
        refine Classical.byContradiction fun h => ?_
        rw [List.count_eq_zero.2 h] at hc
        cases hc
      obtain ⟨j, hj, he⟩ := List.getElem_of_mem hm
      have hj' : j < listed.size := by simpa using hj
      refine hrd j ?_ h0
      simp [Array.getD, hj']
      simpa using he
    · obtain ⟨h0, o, ho, hd⟩ := mem_ready.1 hi
      have ho' : l[i]? = some o := by simpa using ho
      obtain ⟨hil, hio⟩ := List.getElem?_eq_some_iff.1 ho'
      have his : i < listed.size := by omega
      unfold wpOp
      simp only [ho]
      have hst := EachOp.at_ hstep ho'
      rw [Nat.zero_add] at hst
      have h1 := hst (fun j => listed.getD j true = true) σ w (putsL σ 0 l a0) (by rw [h0]; exact Bool.false_ne_true) (fun k hk => ?_) hR (fun j q d hq hqd => ?_) (fun d hdm => ?_)
      · have hgo : ∀ v w', R (fun j => j = i ∨ listed.getD j true = true) (updV σ i v) w' → wpAny P .any l.toArray Q n (listed.setIfInBounds i true) ((putsL σ 0 l a0).put o.dst v) w' := by
          intro v w' hR'
          rw [putsL_upd σ v l 0 i a0 o hnd ho', Nat.zero_add]
          refine ih _ _ _ (by simpa using hs) ?_ ?_
          · have hlf : listed[i] = false := by simpa [Array.getD, his] using h0
            rw [Array.toList_setIfInBounds, List.count_set (by simpa using his)]
            simp [hlf] at hc ⊢
            omega
          · have e : (fun j => (listed.setIfInBounds i true).getD j true = true) = fun j => j = i ∨ listed.getD j true = true := funext fun j => propext (by
              by_cases hij : i = j
              · subst hij
                simp [Array.getD, his]
              · rw [getD_set_ne true hij]
                constructor
                · exact .inr
                · rintro (h | h)
                  · exact absurd h.symm hij
                  · exact h)
            rw [e]
            exact hR'
        rcases hwd : Region.wanted o (yielded l.toArray (putsL σ 0 l a0).tmps) with _ | _
        · rw [if_neg (by simp)]
          exact hgo _ _ (h1.2 hwd)
        · rw [if_pos rfl]
          exact .inl (Oper.wp_of_eff (h1.1 hwd) hgo)
      · unfold Oper.waits at hk
        simp only [List.contains_eq_mem, decide_eq_true_eq] at hk
        obtain ⟨e, he, rfl⟩ := List.mem_map.1 hk
        obtain ⟨he1, he2⟩ := List.mem_filter.1 he
        have := hd e (by simpa using he1) he2
        by_cases hj : e.on < listed.size
        · simp [Array.getD, hj] at this ⊢
          exact this
        · simp [Array.getD, hj]
      · have := putsL_in σ l 0 j a0 q d hnd hq hqd (hsz d (dstsL_mem hq hqd))
        rw [Nat.zero_add] at this
        exact this
      · refine putsL_out σ d l 0 a0 (fun hm => ?_)
        have : (dstsL l).contains d = true := by simpa using hm
        rw [this] at hdm
        cases hdm
/-- A region that draws its order: each operation, whenever it comes up, keeps what holds. -/
theorem wp_region_invG {id : Nat} (R : (Nat → Prop) → (Nat → Value) → World → Prop) {a0 : Act} {w : World} (hm : P.follows .mixedOrders = true) (hB : Region.invB l = true) (hsz : ((dstsL l).all fun d => decide (d < a0.tmps.size)) = true)
    (h0 : ∀ σ, R (fun j => l.length ≤ j) σ w.drew)
    (hstep : EachOp (fun i o => ∀ (D : Nat → Prop) (σ : Nat → Value) (w : World) (a : Act), ¬ D i → (∀ k, o.waits.contains k = true → D k) → R D σ w → (∀ j q d, l[j]? = some q → q.dst = some d → a.eval (.tmp d) = σ j) → (∀ d, (dstsL l).contains d = false → a.eval (.tmp d) = a0.eval (.tmp d)) →
      (Region.wanted o (yielded l.toArray a.tmps) = true → o.eff P a w fun v w' => R (fun j => j = i ∨ D j) (updV σ i v) w') ∧ (Region.wanted o (yielded l.toArray a.tmps) = false → R (fun j => j = i ∨ D j) (updV σ i undef) w)) 0 l)
    (hend : ∀ σ w, R (fun _ => True) σ w → Q .normal (putsL σ 0 l a0) w) : (Code.region id l.toArray true).wp P Q a0 w := by
  have hsz' : ∀ d ∈ dstsL l, d < a0.tmps.size := fun d hd => by
    have := List.all_eq_true.1 hsz d hd
    simpa using this
  have hB' := hB
  simp only [Region.invB, Bool.and_eq_true, decide_eq_true_eq, List.all_eq_true, beq_iff_eq] at hB'
  obtain ⟨⟨_, hnd⟩, _⟩ := hB'
  have hself : ∀ (l' : List Oper) (i : Nat) (τ : Nat → Value), (∀ j o d, l'[j]? = some o → o.dst = some d → τ (i + j) = a0.eval (.tmp d)) → (∀ d ∈ dstsL l', d < a0.tmps.size) → putsL τ i l' a0 = a0 := by
    intro l'
    induction l' with
    | nil => intro i τ _ _; rfl
    | cons o r ih =>
      intro i τ hτ hs
      simp only [putsL]
      have e : a0.put o.dst (τ i) = a0 := by
        rcases hd : o.dst with _ | d
        · rfl
        · have h1 := hτ 0 o d rfl hd
          rw [Nat.add_zero] at h1
          have hdl := hs d (dstsL_mem (j := 0) rfl hd)
          rw [h1]
          rcases a0 with ⟨t, df⟩
          simp only [Act.put, Act.eval]
          congr 1
          apply Array.ext
          · simp
          · intro k hk1 hk2
            rw [Array.getElem_setIfInBounds]
            split
            · rename_i hdk
              subst hdk
              simp [hk2]
            · rfl
      rw [e]
      exact ih (i + 1) τ (fun j o' d ho hd => by
        have := hτ (j + 1) o' d (by simpa using ho) hd
        rw [show i + 1 + j = i + (j + 1) by omega]
        exact this) (fun d hd => hs d (by rw [dstsL_cons]; split; exact hd; exact List.mem_cons_of_mem _ hd))
  refine wp_region_any hm ?_
  have h1 := wpAny_inv (Q := Q) R hB hsz' hstep hend l.length (Array.replicate l.length false) (fun j => match l[j]? with | some o => (match o.dst with | some d => a0.eval (.tmp d) | none => undef) | none => undef) w.drew (by simp) (by simp) (by
    have e : (fun j => (Array.replicate l.length false).getD j true = true) = fun j => l.length ≤ j := funext fun j => propext (by
      by_cases hj : j < l.length
      · simp [hj] <;> omega
      · simp [hj] <;> omega)
    rw [e]
    exact h0 _)
  rw [hself l 0 _ (fun j o d ho hd => by rw [Nat.zero_add, ho]; simp only [hd]) hsz'] at h1
  simpa using h1
theorem EachOp.imp {p q : Nat → Oper → Prop} : ∀ {l : List Oper} {i : Nat}, (∀ j o, l[j]? = some o → p (i + j) o → q (i + j) o) → EachOp p i l → EachOp q i l
  | [], _, _, _ => trivial
  | o :: r, i, h, hp => ⟨h 0 o rfl hp.1, EachOp.imp (fun j o' ho h1 => by
      have := h (j + 1) o' (by simpa using ho)
      rw [show i + 1 + j = i + (j + 1) by omega] at h1 ⊢
      exact this h1) hp.2⟩
/-- Likewise where no operation is guarded. -/
theorem wp_region_inv {id : Nat} (R : (Nat → Prop) → (Nat → Value) → World → Prop) {a0 : Act} {w : World} (hm : P.follows .mixedOrders = true) (hB : (Region.invB l && l.all fun o => o.guard == none) = true) (hsz : ((dstsL l).all fun d => decide (d < a0.tmps.size)) = true)
    (h0 : ∀ σ, R (fun j => l.length ≤ j) σ w.drew)
    (hstep : EachOp (fun i o => ∀ (D : Nat → Prop) (σ : Nat → Value) (w : World) (a : Act), ¬ D i → (∀ k, o.waits.contains k = true → D k) → R D σ w → (∀ j q d, l[j]? = some q → q.dst = some d → a.eval (.tmp d) = σ j) → (∀ d, (dstsL l).contains d = false → a.eval (.tmp d) = a0.eval (.tmp d)) →
      o.eff P a w fun v w' => R (fun j => j = i ∨ D j) (updV σ i v) w') 0 l)
    (hend : ∀ σ w, R (fun _ => True) σ w → Q .normal (putsL σ 0 l a0) w) : (Code.region id l.toArray true).wp P Q a0 w := by
  simp only [Bool.and_eq_true, List.all_eq_true, beq_iff_eq] at hB
  refine wp_region_invG R hm hB.1 hsz h0 (EachOp.imp (fun j o ho hp => ?_) hstep) hend
  intro D σ w a h1 h2 h3 h4 h5
  have hw : Region.wanted o (yielded l.toArray a.tmps) = true := by
    unfold Region.wanted
    rw [hB.2 o (List.mem_of_getElem? ho)]
  exact ⟨fun _ => hp D σ w a h1 h2 h3 h4 h5, fun e => by rw [hw] at e; cases e⟩
end
end Go
