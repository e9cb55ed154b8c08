/- Two that make, take or give one name: what they come to. Conditions: none. A region that draws its order, walked by what holds whatever has come up: each operation once. Conditions: none. How long a state's shape is at most. Conditions: none. A region that draws its order, walked by what holds whatever has come up; an operation may leave it by a panic. Conditions: none. 'at', where the path is refused: the code is thrown. Conditions: none. A state, a call that came in, opened; their sizes by the bulk of what is read. Conditions: none. Closed parts: the plain law. Conditions: none. Keys of calls, as data; when they touch. Conditions: none. Small helpers. Conditions: none. depend.Touch, Num, SameBools, comparisons of keys. Conditions: none. Comparisons of keys. Conditions: none. slices.SortFunc and strconv.Itoa of the program, laid by the shelf. Conditions: none. slices.SortFunc at keys, in the words of the rows that a call owns. Conditions: none. slices.Compact at keys. Conditions: none. slices.Compact at keys. Conditions: none. Slices of keys, calls, ints, truths that came in, opened. Conditions: none. A call, a slice of calls that came in, opened, their data bound by the bulk. Conditions: none. -/
import Derived.Test.YtmkapobnfigedaaGreatDoorEl31
import Derived.Test.YtmkapobnfigedaaGreatDoorEl30
import Derived.Test.YtmkapobnfigedaaGreatDoorEl01
import Derived.Lib.ItoaLen
import Derived.Test.YtmkapobnfigedaaGreatDoorEl16
import Derived.ProofKit
import Derived.Deep.Slices
import Derived.Deep.Strs
import Derived.Lib.SmallJoins
import Derived.Test.YtmkapobnfigedaaGreatDoorEl08
import Derived.Test.YtmkapobnfigedaaGreatDoorEl09
import Derived.Test.YtmkapobnfigedaaGreatDoorEl13
import Derived.Deep.RegionHeld3
import Derived.Shelf.SlSortCmp.NoneTotal
import Derived.Shelf.Strconv.Itoa0
import Derived.Shelf.Strconv.Itoa1
import Derived.Shelf.Strconv.Itoa2
import Derived.Shelf.Strconv.Itoa3
import Derived.Shelf.SlGeneric
import Derived.Test.YtmkapobnfigedaaGreatDoorProg
import Derived.Test.YtmkapobnfigedaaGreatDoorEl25
import Derived.Laws.StructEq
import Derived.Test.YtmkapobnfigedaaGreatDoorEl15
set_option linter.unusedVariables false
set_option linter.unusedSimpArgs false
namespace Go.Proofs.YtmkapobnfigedaaGreatDoor
open Go.RowKit
set_option maxRecDepth 100000
def z200 : ByteArray := ⟨(List.replicate 200 (0 : UInt8)).toArray⟩
def s6 : PSt := ⟨[⟨1, true, [⟨⟨#[100]⟩, 10⟩, ⟨⟨#[101]⟩, 3⟩, ⟨⟨#[120]⟩, 2⟩], ⟨#[]⟩⟩, ⟨2, false, [], z200⟩, ⟨3, true, [], ⟨#[]⟩⟩, ⟨10, true, [], ⟨#[]⟩⟩], [⟨0, 0, 2⟩, ⟨1, 0, 2⟩], [2, 1]⟩
end Go.Proofs.YtmkapobnfigedaaGreatDoor
namespace Go
def putsL (σ : Nat → Value) : Nat → List Oper → Act → Act
 | _, [], a => a
 | i, o :: r, a => putsL σ (i + 1) r (a.put o.dst (σ i))
def dstsL (l : List Oper) : List Tmp := l.filterMap (·.dst)
def updV (σ : Nat → Value) (i : Nat) (v : Value) : Nat → Value := fun j => if j = i then v else σ j
theorem Act.put_put (a : Act) (x : Option Tmp) (v u : Value) : (a.put x v).put x u = a.put x u := by
 cases x with
 | none => rfl
 | some d => simp [Act.put, Array.setIfInBounds_setIfInBounds]
theorem putsL_comm (σ : Nat → Value) (x : Option Tmp) (v : Value) : ∀ (l : List Oper) (i : Nat) (a : Act), (∀ d, x = some d → d ∉ dstsL l) → (putsL σ i l a).put x v = putsL σ i l (a.put x v)
 | [], _, _, _ => rfl
 | o :: r, i, a, h => by
   simp only [putsL]; rw [putsL_comm σ x v r (i + 1) _ (fun d hd hm => h d hd (by
    unfold dstsL at hm ⊢; rw [List.filterMap_cons]
    split
    · exact hm
    · exact List.mem_cons_of_mem _ hm))]
   congr 1
   refine Act.put_comm a _ _ (fun d hd hx => h d hx ?_); unfold dstsL; rw [List.filterMap_cons, hd]; exact List.mem_cons_self
theorem putsL_congr {σ τ : Nat → Value} : ∀ (l : List Oper) (i : Nat) (a : Act), (∀ j, i ≤ j → σ j = τ j) → putsL σ i l a = putsL τ i l a
 | [], _, _, _ => rfl
 | o :: r, i, a, h => by
   simp only [putsL]; rw [h i (Nat.le_refl _), putsL_congr r (i + 1) _ (fun j hj => h j (by omega))]
theorem dstsL_cons (o : Oper) (r : List Oper) : dstsL (o :: r) = match o.dst with | none => dstsL r | some d => d :: dstsL r := by
 unfold dstsL
 rw [List.filterMap_cons]
 cases o.dst <;> rfl
theorem dstsL_mem {l : List Oper} {j : Nat} {o : Oper} {d : Tmp} (ho : l[j]? = some o) (hd : o.dst = some d) : d ∈ dstsL l := List.mem_filterMap.2 ⟨o, List.mem_of_getElem? ho, hd⟩
theorem putsL_upd (σ : Nat → Value) (v : Value) : ∀ (l : List Oper) (i j : Nat) (a : Act) (o : Oper), (dstsL l).Nodup → l[j]? = some o → (putsL σ i l a).put o.dst v = putsL (updV σ (i + j) v) i l a
 | [], _, _, _, _, _, h => by simp at h
 | q :: r, i, 0, a, o, hn, h => by
   simp only [List.getElem?_cons_zero, Option.some.injEq] at h; subst h; simp only [putsL]; have hnd : ∀ d, q.dst = some d → d ∉ dstsL r := fun d hd hm => by
    rw [dstsL_cons, hd] at hn; exact (List.nodup_cons.1 hn).1 hm
   rw [putsL_comm σ q.dst v r (i + 1) _ hnd, Act.put_put]; have e : updV σ (i + 0) v i = v := by simp [updV]
   rw [e]; exact putsL_congr r (i + 1) _ (fun j hj => by unfold updV; rw [if_neg (by omega)])
 | q :: r, i, j + 1, a, o, hn, h => by
   simp only [List.getElem?_cons_succ] at h; simp only [putsL]; have hn' : (dstsL r).Nodup := by
    rw [dstsL_cons] at hn
    split at hn
    · exact hn
    · exact (List.nodup_cons.1 hn).2
   rw [putsL_upd σ v r (i + 1) j _ o hn' h]; have e : updV σ (i + (j + 1)) v i = σ i := by unfold updV; rw [if_neg (by omega)]
   rw [e, show i + 1 + j = i + (j + 1) by omega]
theorem putsL_out (σ : Nat → Value) (x : Tmp) : ∀ (l : List Oper) (i : Nat) (a : Act), x ∉ dstsL l → (putsL σ i l a).eval (.tmp x) = a.eval (.tmp x)
 | [], _, _, _ => rfl
 | o :: r, i, a, h => by
   simp only [putsL]; rw [putsL_out σ x r (i + 1) _ (fun hm => h (by rw [dstsL_cons]; split; exact hm; exact List.mem_cons_of_mem _ hm))]; exact Act.eval_put fun d hd hx => h (by
    cases hx; rw [dstsL_cons, hd]; exact List.mem_cons_self)
theorem put_size (a : Act) (x : Option Tmp) (v : Value) : (a.put x v).tmps.size = a.tmps.size := by
 cases x <;> simp [Act.put]
theorem eval_put_self (a : Act) (d : Tmp) (v : Value) (h : d < a.tmps.size) : (a.put (some d) v).eval (.tmp d) = v := by
 simp [Act.put, Act.eval, h]
theorem putsL_in (σ : Nat → Value) : ∀ (l : List Oper) (i j : Nat) (a : Act) (o : Oper) (d : Tmp), (dstsL l).Nodup → l[j]? = some o → o.dst = some d → d < a.tmps.size → (putsL σ i l a).eval (.tmp d) = σ (i + j)
 | [], _, _, _, _, _, _, h, _, _ => by simp at h
 | q :: r, i, 0, a, o, d, hn, h, hd, hl => by
   simp only [List.getElem?_cons_zero, Option.some.injEq] at h; subst h; simp only [putsL]; rw [putsL_out σ d r (i + 1) _ (fun hm => by
    rw [dstsL_cons, hd] at hn; exact (List.nodup_cons.1 hn).1 hm), hd]
   exact eval_put_self a d _ hl
 | q :: r, i, j + 1, a, o, d, hn, h, hd, hl => by
   simp only [List.getElem?_cons_succ] at h; simp only [putsL]; have hn' : (dstsL r).Nodup := by
    rw [dstsL_cons] at hn
    split at hn
    · exact hn
    · exact (List.nodup_cons.1 hn).2
   rw [putsL_in σ r (i + 1) j _ o d hn' h hd (by rw [put_size]; exact hl), show i + 1 + j = i + (j + 1) by omega]
def Region.invB (l : List Oper) : Bool :=
 Region.noSelect l.toArray && decide ((dstsL l).Nodup) && (List.range l.length).all fun i => match l[i]? with
  | some o => o.after.toList.all fun e => !Region.binds .any e || decide (e.on < i)
  | none => true
def Oper.waits (o : Oper) : List Nat := (o.after.toList.filter fun e => Region.binds .any e).map (·.on)
def EachOp (p : Nat → Oper → Prop) : Nat → List Oper → Prop
 | _, [] => True
 | i, o :: r => p i o ∧ EachOp p (i + 1) r
theorem EachOp.at_ {p : Nat → Oper → Prop} : ∀ {l : List Oper} {i j : Nat} {o : Oper}, EachOp p i l → l[j]? = some o → p (i + j) o
 | [], _, _, _, _, h => by simp at h
 | q :: r, i, 0, o, h, ho => by
   simp only [List.getElem?_cons_zero, Option.some.injEq] at ho; subst ho; exact h.1
 | q :: r, i, j + 1, o, h, ho => by
   simp only [List.getElem?_cons_succ] at ho; have := EachOp.at_ h.2 ho; rw [show i + 1 + j = i + (j + 1) by omega] at this; exact this
section
variable {P : Program} {l : List Oper} {Q : Exit → Act → World → Prop}
theorem EachOp.imp {p q : Nat → Oper → Prop} : ∀ {l : List Oper} {i : Nat}, (∀ j o, l[j]? = some o → p (i + j) o → q (i + j) o) → EachOp p i l → EachOp q i l
 | [], _, _, _ => trivial
 | o :: r, i, h, hp => ⟨h 0 o rfl hp.1, EachOp.imp (fun j o' ho h1 => by
  have := h (j + 1) o' (by simpa using ho); rw [show i + 1 + j = i + (j + 1) by omega] at h1 ⊢; exact this h1) hp.2⟩
end
end Go
namespace Go.Proofs.YtmkapobnfigedaaGreatDoor
open Go.RowKit
def wLen (S : PSt) : Nat → Int → Nat → Nat
 | 0, _, _ => 0
 | f + 1, n, p => match S.ins[(idxM (isNum n) S.ins).toNat]? with
   | none => 0
   | some x => if x.dir = true then p + 40 + (x.ents.map fun e => wLen S f e.num (p + 1 + e.name.size)).sum else p + 2 * x.data.size + 40
theorem sum_le {α : Type} (f g : α → Nat) : ∀ (l : List α), (∀ x ∈ l, f x ≤ g x) → (l.map f).sum ≤ (l.map g).sum
 | [], _ => Nat.le_refl _
 | x :: r, h => by
   have h1 := h x (List.mem_cons_self); have h2 := sum_le f g r (fun y hy => h y (List.mem_cons_of_mem _ hy)); simp only [List.map_cons, List.sum_cons]; omega
end Go.Proofs.YtmkapobnfigedaaGreatDoor
namespace Go
theorem putsL_defers (σ : Nat → Value) : ∀ (l : List Oper) (i : Nat) (a : Act), (putsL σ i l a).defers = a.defers
 | [], _, _ => rfl
 | o :: r, i, a => by
   simp only [putsL]; rw [putsL_defers σ r (i + 1)]; cases o.dst <;> rfl
section
variable {P : Program} {l : List Oper} {Q : Exit → Act → World → Prop}
theorem wpAny_invW (R : (Nat → Prop) → (Nat → Value) → World → Prop) {a0 : Act} (hB : Region.invB l = true) (hsz : ∀ d ∈ dstsL l, d < a0.tmps.size)
 (hstep : EachOp (fun i o => ∀ (D : Nat → Prop) (σ : Nat → Value) (w : World) (a : Act), ¬ D i → (∀ k, o.waits.contains k = true → D k) → R D σ w → (∀ j q d, l[j]? = some q → q.dst = some d → a.eval (.tmp d) = σ j) → (∀ d, (dstsL l).contains d = false → a.eval (.tmp d) = a0.eval (.tmp d)) → a.defers = a0.defers →
  (Region.wanted o (yielded l.toArray a.tmps) = true → ∀ nx : Act → World → Prop, (∀ v w', R (fun j => j = i ∨ D j) (updV σ i v) w' → nx (a.put o.dst v) w') → o.wp P a w nx Q) ∧ (Region.wanted o (yielded l.toArray a.tmps) = false → R (fun j => j = i ∨ D j) (updV σ i undef) w)) 0 l)
 (hend : ∀ σ w, R (fun _ => True) σ w → Q .normal (putsL σ 0 l a0) w) :
 ∀ (n : Nat) (listed : Array Bool) (σ : Nat → Value) (w : World), listed.size = l.length → listed.toList.count false = n → R (fun j => listed.getD j true = true) σ w → wpAny P .any l.toArray Q n listed (putsL σ 0 l a0) w := by
 simp only [Region.invB, Bool.and_eq_true, decide_eq_true_eq, List.all_eq_true, beq_iff_eq] at hB
 obtain ⟨⟨hsel, hnd⟩, hlt⟩ := hB
 intro n
 induction n with
 | zero =>
   intro listed σ w hs hc hR; have hall : ∀ j, listed.getD j true = true := fun j => by
    by_cases hj : j < listed.size
    · rw [List.count_eq_zero] at hc; have hm : listed[j] ∈ listed.toList := by simp
      rcases h : listed[j] with _ | _
      · rw [h] at hm; exact absurd hm hc
      · simp [Array.getD, hj, h]
    · simp [Array.getD, hj]
   refine ⟨List.eq_nil_iff_forall_not_mem.2 fun i hi => ?_, hend σ w ?_⟩
   · obtain ⟨h0, _⟩ := mem_ready.1 hi; rw [hall i] at h0; cases h0
   · have e : (fun j => listed.getD j true = true) = fun _ => True := funext fun j => propext ⟨fun _ => trivial, fun _ => hall j⟩
     rw [← e]; exact hR
 | succ n ih =>
   intro listed σ w hs hc hR; have un : ∀ j, j < listed.size → ¬ listed.getD j false = true → listed.getD j true = false := fun j hj h => by
    simp [Array.getD, hj] at h ⊢; exact h
   have hrd : ∀ i, listed.getD i true = false → Region.ready .any l.toArray listed ≠ [] := by
    intro i
    induction i using Nat.strongRecOn with
    | ind i ihi =>
      intro h h0; have hi : i < l.length := by
       rw [← hs]; by_cases hj : i < listed.size
       · exact hj
       · simp [Array.getD, hj] at h
      by_cases hall : ∀ e ∈ l[i].after, Region.binds .any e = true → listed.getD e.on false = true
      · have : i ∈ Region.ready .any l.toArray listed := mem_ready.2 ⟨h, l[i], by simp [hi], hall⟩; rw [h0] at this; cases this
      · obtain ⟨e, he⟩ := Classical.not_forall.1 hall; obtain ⟨hm, he⟩ := Classical.not_imp.1 he; obtain ⟨hb, hx⟩ := Classical.not_imp.1 he; have h1 := hlt i (List.mem_range.2 hi); rw [List.getElem?_eq_getElem hi] at h1; simp only [List.all_eq_true, Bool.or_eq_true, Bool.not_eq_true', decide_eq_true_eq] at h1; have hon : e.on < i := by
         rcases h1 e (by simpa using hm) with h2 | h2
         · rw [hb] at h2; cases h2
         · exact h2
        exact ihi e.on hon (un e.on (by omega) hx) h0
   refine ⟨fun h0 => ?_, fun i hi => ?_⟩
   · exfalso; have hm : false ∈ listed.toList := by
      refine Classical.byContradiction fun h => ?_
      rw [List.count_eq_zero.2 h] at hc; cases hc
     obtain ⟨j, hj, he⟩ := List.getElem_of_mem hm; have hj' : j < listed.size := by simpa using hj
     refine hrd j ?_ h0; simp [Array.getD, hj']; simpa using he
   · obtain ⟨h0, o, ho, hd⟩ := mem_ready.1 hi; have ho' : l[i]? = some o := by simpa using ho
     obtain ⟨hil, hio⟩ := List.getElem?_eq_some_iff.1 ho'; have his : i < listed.size := by omega
     unfold wpOp; simp only [ho]; have hst := EachOp.at_ hstep ho'; rw [Nat.zero_add] at hst; have h1 := hst (fun j => listed.getD j true = true) σ w (putsL σ 0 l a0) (by rw [h0]; exact Bool.false_ne_true) (fun k hk => ?_) hR (fun j q d hq hqd => ?_) (fun d hdm => ?_) (putsL_defers σ l 0 a0)
     · have hgo : ∀ v w', R (fun j => j = i ∨ listed.getD j true = true) (updV σ i v) w' → wpAny P .any l.toArray Q n (listed.setIfInBounds i true) ((putsL σ 0 l a0).put o.dst v) w' := by
        intro v w' hR'; rw [putsL_upd σ v l 0 i a0 o hnd ho', Nat.zero_add]; refine ih _ _ _ (by simpa using hs) ?_ ?_
        · have hlf : listed[i] = false := by simpa [Array.getD, his] using h0
          rw [Array.toList_setIfInBounds, List.count_set (by simpa using his)]; simp [hlf] at hc ⊢; omega
        · have e : (fun j => (listed.setIfInBounds i true).getD j true = true) = fun j => j = i ∨ listed.getD j true = true := funext fun j => propext (by
           by_cases hij : i = j
           · subst hij; simp [Array.getD, his]
           · rw [getD_set_ne true hij]; constructor
             · exact .inr
             · rintro (h | h)
               · exact absurd h.symm hij
               · exact h)
          rw [e]; exact hR'
       rcases hwd : Region.wanted o (yielded l.toArray (putsL σ 0 l a0).tmps) with _ | _
       · rw [if_neg (by simp)]; exact hgo _ _ (h1.2 hwd)
       · rw [if_pos rfl]; exact .inl (h1.1 hwd _ hgo)
     · unfold Oper.waits at hk; simp only [List.contains_eq_mem, decide_eq_true_eq] at hk; obtain ⟨e, he, rfl⟩ := List.mem_map.1 hk; obtain ⟨he1, he2⟩ := List.mem_filter.1 he; have := hd e (by simpa using he1) he2; by_cases hj : e.on < listed.size
       · simp [Array.getD, hj] at this ⊢; exact this
       · simp [Array.getD, hj]
     · have := putsL_in σ l 0 j a0 q d hnd hq hqd (hsz d (dstsL_mem hq hqd)); rw [Nat.zero_add] at this; exact this
     · refine putsL_out σ d l 0 a0 (fun hm => ?_); have : (dstsL l).contains d = true := by simpa using hm
       rw [this] at hdm; cases hdm
theorem wp_region_invW {id : Nat} (R : (Nat → Prop) → (Nat → Value) → World → Prop) {a0 : Act} {w : World} (hm : P.follows .mixedOrders = true) (hB : Region.invB l = true) (hsz : ((dstsL l).all fun d => decide (d < a0.tmps.size)) = true)
 (h0 : ∀ σ, R (fun j => l.length ≤ j) σ w.drew)
 (hstep : EachOp (fun i o => ∀ (D : Nat → Prop) (σ : Nat → Value) (w : World) (a : Act), ¬ D i → (∀ k, o.waits.contains k = true → D k) → R D σ w → (∀ j q d, l[j]? = some q → q.dst = some d → a.eval (.tmp d) = σ j) → (∀ d, (dstsL l).contains d = false → a.eval (.tmp d) = a0.eval (.tmp d)) → a.defers = a0.defers →
  (Region.wanted o (yielded l.toArray a.tmps) = true → ∀ nx : Act → World → Prop, (∀ v w', R (fun j => j = i ∨ D j) (updV σ i v) w' → nx (a.put o.dst v) w') → o.wp P a w nx Q) ∧ (Region.wanted o (yielded l.toArray a.tmps) = false → R (fun j => j = i ∨ D j) (updV σ i undef) w)) 0 l)
 (hend : ∀ σ w, R (fun _ => True) σ w → Q .normal (putsL σ 0 l a0) w) : (Code.region id l.toArray true).wp P Q a0 w := by
 have hsz' : ∀ d ∈ dstsL l, d < a0.tmps.size := fun d hd => by
  have := List.all_eq_true.1 hsz d hd; simpa using this
 have hB' := hB
 simp only [Region.invB, Bool.and_eq_true, decide_eq_true_eq, List.all_eq_true, beq_iff_eq] at hB'
 obtain ⟨⟨_, hnd⟩, _⟩ := hB'
 have hself : ∀ (l' : List Oper) (i : Nat) (τ : Nat → Value), (∀ j o d, l'[j]? = some o → o.dst = some d → τ (i + j) = a0.eval (.tmp d)) → (∀ d ∈ dstsL l', d < a0.tmps.size) → putsL τ i l' a0 = a0 := by
  intro l'
  induction l' with
  | nil => intro i τ _ _; rfl
  | cons o r ih =>
    intro i τ hτ hs; simp only [putsL]; have e : a0.put o.dst (τ i) = a0 := by
     rcases hd : o.dst with _ | d
     · rfl
     · have h1 := hτ 0 o d rfl hd; rw [Nat.add_zero] at h1; have hdl := hs d (dstsL_mem (j := 0) rfl hd); rw [h1]; rcases a0 with ⟨t, df⟩
       simp only [Act.put, Act.eval]
       congr 1
       apply Array.ext
       · simp
       · intro k hk1 hk2; rw [Array.getElem_setIfInBounds]
         split
         · rename_i hdk
           subst hdk; simp [hk2]
         · rfl
    rw [e]; exact ih (i + 1) τ (fun j o' d ho hd => by
     have := hτ (j + 1) o' d (by simpa using ho) hd; rw [show i + 1 + j = i + (j + 1) by omega]; exact this) (fun d hd => hs d (by rw [dstsL_cons]; split; exact hd; exact List.mem_cons_of_mem _ hd))
 refine wp_region_any hm ?_
 have h1 := wpAny_invW (Q := Q) R hB hsz' hstep hend l.length (Array.replicate l.length false) (fun j => match l[j]? with | some o => (match o.dst with | some d => a0.eval (.tmp d) | none => undef) | none => undef) w.drew (by simp) (by simp) (by
  have e : (fun j => (Array.replicate l.length false).getD j true = true) = fun j => l.length ≤ j := funext fun j => propext (by
   by_cases hj : j < l.length
   · simp [hj] <;> omega
   · simp [hj] <;> omega)
  rw [e]; exact h0 _)
 rw [hself l 0 _ (fun j o d ho hd => by rw [Nat.zero_add, ho]; simp only [hd]) hsz'] at h1
 simpa using h1
end
theorem Oper.wpW {P : Program} {Q : Exit → Act → World → Prop} {o : Oper} {a : Act} {w : World} {K : Value → World → Prop} (h : o.eff P a w K) : ∀ nx : Act → World → Prop, (∀ v w', K v w' → nx (a.put o.dst v) w') → o.wp P a w nx Q := fun _ hn => Oper.wp_of_eff h hn
theorem Oper.wpX {P : Program} {Q : Exit → Act → World → Prop} {o : Oper} {a : Act} {w : World} (f : FuncId) (args : Array Value) {nx : Act → World → Prop} (hr : (execOp a.eval o).run P w = .ok (.enter f args) w) (h : Calls P f args w fun e w' => ∃ ch, e = .panicked ch ∧ Q (.panic ch) a w') : o.wp P a w nx Q := by
 unfold Oper.wp
 rw [hr, Oper.upon_enter]
 exact h.mono fun e w' ⟨ch, he, hq⟩ => by subst he; exact hq
end Go
namespace Go.Proofs.YtmkapobnfigedaaGreatDoor
open Go.RowKit
theorem evT (a : Act) (k : Tmp) : a.eval (.tmp k) = (a.tmps[k]?).getD undef := by simp [Act.eval, go_sem]
theorem eff_v {P : Program} {o : Oper} {a : Act} {w w' : World} {K : Value → World → Prop} {v : Value} (h : (execOp a.eval o).run P w = .ok (.value v) w') (hk : K v w') : o.eff P a w K := by
 unfold Oper.eff
 rw [h]
 exact hk
set_option maxRecDepth 100000 in
set_option maxHeartbeats 4000000 in
theorem at122x (d b : Nat) (S : PSt) (c : PCall) (s : ByteArray) (w : World) (h : DR w d b S c) (hp : (parseM s).1 ≠ 0) :
 Calls Tryz.prog 178 #[.pointer (some ⟨d, 0, none⟩), .string s] w fun e w' => e = thrown (codeM (parseM s).1) ∧ Below w.heap.size w w' := by
 have hpar : ∀ ww, Calls Tryz.prog 198 #[.string s] ww fun e w' => e = thrown (codeM (parseM s).1) ∧ Below ww.heap.size ww w' := fun ww => by
  refine (parse150 s ww).mono ?_; intro e w' h; rcases h with ⟨h, _⟩ | ⟨_, h1, h2⟩
  · exact absurd h hp
  · exact ⟨h1, h2⟩
 have hd0 := h.d0
 have iD : BlockLt d w := ⟨h.lt⟩
 generalize codeM (parseM s).1 = C at hpar ⊢
 clear h hp
 go_enter Tryz.func178, Tryz.ntmps178
 go_upto_region 1 with fail
 refine wp_region_invW (fun D σ w1 => (∀ k, 5 ≤ k → k < 12 → ¬ D k) ∧ (D 0 → σ 0 = .pointer (some ⟨d, 0, none⟩)) ∧ (D 1 → σ 1 = .pointer (some ⟨d, 0, none⟩)) ∧ (D 2 → σ 2 = .pointer (some ⟨d, 0, none⟩)) ∧ (D 3 → σ 3 = .pointer (some ⟨b, 0, none⟩)) ∧ (D 4 → σ 4 = .string s) ∧ Below w.heap.size w w1) (by kernel_rfl) (by kernel_rfl) (by kernel_rfl) ?_ ?_ ?_
 · intro σ; exact ⟨fun k h1 h2 h3 => absurd h3 (by show ¬ 12 ≤ k; omega), fun h => absurd h (by decide), fun h => absurd h (by decide), fun h => absurd h (by decide), fun h => absurd h (by decide), fun h => absurd h (by decide), bel w _⟩
 · have nl : ∀ {a b : Nat} {p : Prop}, (a = b ∨ p) → a ≠ b → p := fun h hn => h.resolve_left hn
   refine ⟨?_, ?_, ?_, ?_, ?_, ?_, ?_, ?_, ?_, ?_, ?_, ?_, trivial⟩
   all_goals
    intro D σ w1 a hnd hw hR hin hout hdf; obtain ⟨r5, r0, r1, r2, r3, r4, hb⟩ := hR; refine ⟨fun _ => ?_, fun h => absurd h (by simp [Region.wanted])⟩
   · have e0 : (a.tmps[0]?).getD undef = .pointer (some ⟨d, 0, none⟩) := (evT a 0).symm.trans ((hout 0 (by kernel_rfl)).trans (by kernel_rfl)); refine Oper.wpW (eff_v (v := .pointer (some ⟨d, 0, none⟩)) ?_ ⟨fun k h1 h2 h3 => r5 k h1 h2 (nl h3 (by omega)), fun _ => rfl, fun h => r1 (nl h (by decide)), fun h => r2 (nl h (by decide)), fun h => r3 (nl h (by decide)), fun h => r4 (nl h (by decide)), hb⟩); clear hin hout hw; go_simp
     first | done | rfl
   · have e0 : (a.tmps[8]?).getD undef = .pointer (some ⟨d, 0, none⟩) := (evT a 8).symm.trans ((hin 0 _ 8 rfl rfl).trans (r0 (hw 0 (by kernel_rfl)))); refine Oper.wpW (eff_v (v := .pointer (some ⟨d, 0, none⟩)) ?_ ⟨fun k h1 h2 h3 => r5 k h1 h2 (nl h3 (by omega)), fun h => r0 (nl h (by decide)), fun _ => rfl, fun h => r2 (nl h (by decide)), fun h => r3 (nl h (by decide)), fun h => r4 (nl h (by decide)), hb⟩); clear hin hout hw; go_simp
     first | done | rfl
   · have e0 : (a.tmps[9]?).getD undef = .pointer (some ⟨d, 0, none⟩) := (evT a 9).symm.trans ((hin 1 _ 9 rfl rfl).trans (r1 (hw 1 (by kernel_rfl)))); refine Oper.wpW (eff_v (v := .pointer (some ⟨d, 0, none⟩)) ?_ ⟨fun k h1 h2 h3 => r5 k h1 h2 (nl h3 (by omega)), fun h => r0 (nl h (by decide)), fun h => r1 (nl h (by decide)), fun _ => rfl, fun h => r3 (nl h (by decide)), fun h => r4 (nl h (by decide)), hb⟩); clear hin hout hw; go_simp
     first | done | rfl
   · have e0 : (a.tmps[10]?).getD undef = .pointer (some ⟨d, 0, none⟩) := (evT a 10).symm.trans ((hin 2 _ 10 rfl rfl).trans (r2 (hw 2 (by kernel_rfl)))); have hd1 : w1.cell? ⟨d, 0, none⟩ = some (.pointer (some ⟨b, 0, none⟩)) := (hb.cell (by exact iD.lt)).trans hd0; have iD1 : BlockLt d w1 := ⟨Nat.lt_of_lt_of_le iD.lt hb.size⟩
     refine Oper.wpW (eff_v (v := .pointer (some ⟨b, 0, none⟩)) ?_ ⟨fun k h1 h2 h3 => r5 k h1 h2 (nl h3 (by omega)), fun h => r0 (nl h (by decide)), fun h => r1 (nl h (by decide)), fun h => r2 (nl h (by decide)), fun _ => rfl, fun h => r4 (nl h (by decide)), hb⟩); clear hin hout hw; go_simp
     first | done | rfl
   · have e0 : (a.tmps[1]?).getD undef = .string s := (evT a 1).symm.trans ((hout 1 (by kernel_rfl)).trans (by kernel_rfl)); refine Oper.wpW (eff_v (v := .string s) ?_ ⟨fun k h1 h2 h3 => r5 k h1 h2 (nl h3 (by omega)), fun h => r0 (nl h (by decide)), fun h => r1 (nl h (by decide)), fun h => r2 (nl h (by decide)), fun h => r3 (nl h (by decide)), fun _ => rfl, hb⟩); clear hin hout hw; go_simp
     first | done | rfl
   · have e0 : (a.tmps[12]?).getD undef = .string s := (evT a 12).symm.trans ((hin 4 _ 12 rfl rfl).trans (r4 (hw 4 (by kernel_rfl)))); intro nx _; refine Oper.wpX 198 #[.string s] ?_ ((hpar w1).mono fun e w' ⟨he, hb2⟩ => ⟨_, he, hdf, rfl, hb.trans (hb2.mono hb.size)⟩); clear hin hout hw; go_simp
     first | done | rfl
   · exact absurd (hw 5 (by kernel_rfl)) (r5 5 (by decide) (by decide))
   · exact absurd (hw 6 (by kernel_rfl)) (r5 6 (by decide) (by decide))
   · exact absurd (hw 7 (by kernel_rfl)) (r5 7 (by decide) (by decide))
   · exact absurd (hw 7 (by kernel_rfl)) (r5 7 (by decide) (by decide))
   · exact absurd (hw 8 (by kernel_rfl)) (r5 8 (by decide) (by decide))
   · exact absurd (hw 9 (by kernel_rfl)) (r5 9 (by decide) (by decide))
 · intro σ w1 hR; exact absurd trivial (hR.1 5 (by decide) (by decide))
end Go.Proofs.YtmkapobnfigedaaGreatDoor
namespace Go.Proofs.YtmkapobnfigedaaGreatDoor
set_option maxRecDepth 100000
open Go.RowKit Go.ChangeShapes Go.WideShapes Go.Deep Go.Joins
theorem cellsOf_3 : Tryz.prog.cellsOf 3 = 1 := by kernel_rfl
theorem cellsOf_4 : Tryz.prog.cellsOf 4 = 1 := by kernel_rfl
theorem cellsOf_9 : Tryz.prog.cellsOf 9 = 1 := by kernel_rfl
theorem cellsOf_23 : Tryz.prog.cellsOf 22 = 1 := by kernel_rfl
theorem cellsOf_24 : Tryz.prog.cellsOf 23 = 1 := by kernel_rfl
theorem cellsOf_25 : Tryz.prog.cellsOf 24 = 1 := by kernel_rfl
theorem cellsOf_63 : Tryz.prog.cellsOf 66 = 1 := by kernel_rfl
theorem cellsOf_27 : Tryz.prog.cellsOf 26 = 3 := by kernel_rfl
theorem cellsOf_29 : Tryz.prog.cellsOf 28 = 8 := by kernel_rfl
theorem cellsOf_65 : Tryz.prog.cellsOf 68 = 4 := by kernel_rfl
theorem cellsOf_88 : Tryz.prog.cellsOf 95 = 3 := by kernel_rfl
theorem cellsOf_99 : Tryz.prog.cellsOf 97 = 2 := by kernel_rfl
theorem i64_wf {n : Int} (h : (Lit.int .i64 n).wf = true) : I64 n := by
 simp [Lit.wf, IntKind.min, IntKind.max, IntKind.signed, IntKind.bits] at h
 unfold I64
 omega
theorem bulk_one {H : Type} (d : DataW H) : 1 ≤ Rows.uptoBulk d := by
 cases d with
 | lit l => cases l <;> simp [Rows.uptoBulk]
 | nil => simp [Rows.uptoBulk]
 | ptr d => simp [Rows.uptoBulk]
 | slice elems spare => simp [Rows.uptoBulk]
 | agg parts => simp [Rows.uptoBulk]
 | iface t d => simp [Rows.uptoBulk]
 | map entries => simp [Rows.uptoBulk]
 | held h => simp [Rows.uptoBulk]
theorem bulk_part {H : Type} {d : DataW H} : ∀ {l : List (DataW H)}, d ∈ l → Rows.uptoBulk d ≤ Rows.uptoBulkAll l
 | [], h => by cases h
 | x :: r, h => by
   simp only [Rows.uptoBulkAll]; rcases List.mem_cons.1 h with rfl | h
   · omega
   · have := bulk_part h; omega
theorem bulk_len {H : Type} : ∀ (l : List (DataW H)), l.length ≤ Rows.uptoBulkAll l
 | [] => by simp
 | x :: r => by
   simp only [Rows.uptoBulkAll, List.length_cons]; have h1 := bulk_one x; have h2 := bulk_len r; omega
theorem bulk_agg {H : Type} {d : DataW H} {l : List (DataW H)} (h : d ∈ l) : Rows.uptoBulk d ≤ Rows.uptoBulk (.agg l) := by
 have := bulk_part h
 simp only [Rows.uptoBulk]
 omega
section
variable {H : Type} {enc : TypeId × Value → H} {W : World} {base : Nat} {sp : Nat → Bool} {hd : Bool}
theorem open_row {t e k : Nat} (hsl : Tryz.prog.underlying t = some (.slice e)) (hk : Tryz.prog.cellsOf e = k) (hk0 : 0 < k) {α : Type} (cells : α → List Value) (Good : Nat → α → Prop) (hmono : ∀ m n x, m ≤ n → Good m x → Good n x) (hlen : ∀ x, (cells x).length = k)
 (hel : ∀ fuel cs y, DataW.trod enc Tryz.prog W base sp hd fuel e cs = some y → ∃ x, cs = cells x ∧ Good (Rows.uptoBulk y.1) x)
 {fuel : Nat} {cs : List Value} {y : DataW H × List MemPlace} (h : DataW.trod enc Tryz.prog W base sp hd fuel t cs = some y) : ∃ (v : Value) (zs : List α), cs = [v] ∧ RowAt W k v (zs.map cells) ∧ (∀ z ∈ zs, Good (Rows.uptoBulk y.1) z) ∧ zs.length ≤ Rows.uptoBulk y.1 := by
 rcases open_slice hsl h with ⟨e1, _⟩ | ⟨a, len, cap, m, n, D, Pl, e1, _, hl, hm, hmm, ey, hall⟩
 · exact ⟨_, [], e1, ⟨none, 0, rfl, Nat.zero_le _, fun h => absurd h (by simp)⟩, fun z hz => (by cases hz), Nat.zero_le _⟩
 · have hbl : Rows.uptoBulkAll ((List.range len).map D) + Rows.uptoBulkAll ((List.range (m - len)).map fun j => D (len + j)) + 1 = Rows.uptoBulk y.1 := by rw [ey]; simp only [Rows.uptoBulk]
   have hx : ∀ i : Fin len, ∃ x, W.cells? base (a.add (i.1 * k)) k = some (cells x) ∧ Good (Rows.uptoBulk y.1) x := fun i => by
    have him : i.1 < m := by rw [hmm]; have := i.2; split <;> omega
    obtain ⟨cs', h1, h2⟩ := hall i.1 him; obtain ⟨x, rfl, hg⟩ := hel _ _ _ h2; rw [hk] at h1; have hp := bulk_part (d := D i.1) (l := (List.range len).map D) (List.mem_map.2 ⟨i.1, List.mem_range.2 i.2, rfl⟩); exact ⟨x, h1, hmono _ _ x (by simp only; omega) hg⟩
   obtain ⟨g, hg⟩ := Classical.axiomOfChoice hx; refine ⟨_, List.ofFn g, e1, ⟨some a, cap, by rw [List.length_map, List.length_ofFn], by rw [List.length_map, List.length_ofFn]; omega, fun h0 => ?_⟩, fun z hz => ?_, ?_⟩
   · rw [List.length_map, List.length_ofFn] at h0; obtain ⟨b, off, spot⟩ := a; have c0 := (World.cells?_some (hg ⟨0, h0⟩).1).2.2 0 hk0; obtain ⟨u, hu⟩ : ∃ u, (cells (g ⟨0, h0⟩))[0]? = some u := ⟨_, List.getElem?_eq_getElem (by rw [hlen]; exact hk0)⟩
     rw [hu] at c0; have hsp : spot = none := by
      cases spot with
      | none => rfl
      | some s =>
        simp only [Nat.zero_mul, Addr.add, if_true] at c0; unfold World.cell? at c0
        split at c0 <;> simp at c0
     subst hsp; refine ⟨b, off, rfl, ?_, fun q cs hq t u hu => ?_⟩
     · simp only [Nat.zero_mul, Addr.add, if_true] at c0; exact World.block_lt_of_cell? _ _ c0
     · rw [List.getElem?_map, List.getElem?_ofFn] at hq
       split at hq
       · rename_i hql
         simp only [Option.map_some, Option.some.injEq] at hq; subst hq; have ht : t < k := by
          obtain ⟨h, _⟩ := List.getElem?_eq_some_iff.1 hu; rw [hlen] at h; exact h
         have c1 := (World.cells?_some (hg ⟨q, hql⟩).1).2.2 t ht; rw [hu] at c1; have ea : ((⟨b, off, none⟩ : Addr).add (q * k)).add t = ⟨b, off + q * k + t, none⟩ := by
          rw [Addr.add_add, Addr.add_lit, Nat.add_assoc]
         rw [ea] at c1; exact c1
       · simp at hq
   · obtain ⟨i, rfl⟩ := List.mem_ofFn.1 hz; exact (hg i).2
   · rw [List.length_ofFn]; have := bulk_len ((List.range len).map D); rw [List.length_map, List.length_range] at this; omega
theorem open_ent {fuel : Nat} {cs : List Value} {y : DataW H × List MemPlace} (h : DataW.trod enc Tryz.prog W base sp hd fuel 97 cs = some y) : ∃ x : PEnt, cs = x.cells ∧ I64 x.num := by
 obtain ⟨xs, n, _, _, hl, hxs, hf⟩ := DataW.trod_struct Tryz.underlying97 h
 rw [cellsOf_99] at hl
 have h0 : DataW.trod enc Tryz.prog W base sp hd n 9 ((cs.drop 0).take (Tryz.prog.cellsOf 9)) = xs[0]? := hf 0 _ rfl
 have h1 : DataW.trod enc Tryz.prog W base sp hd n 3 ((cs.drop 1).take (Tryz.prog.cellsOf 3)) = xs[1]? := hf 1 _ rfl
 match cs, hl with
 | [c0, c1], _ =>
   match xs, hxs with
   | [y0, y1], _ =>
     simp only [cellsOf_3, cellsOf_9, List.drop, List.take, List.getElem?_cons_zero, List.getElem?_cons_succ] at h0 h1; obtain ⟨a, e0, _, _⟩ := DataW.trod_string Tryz.underlying9 h0; obtain ⟨b, e1, _, wf⟩ := DataW.trod_int Tryz.underlying3 h1; simp only [List.cons.injEq, and_true] at e0 e1; exact ⟨⟨a, b⟩, by rw [e0, e1]; rfl, i64_wf wf⟩
theorem open_desc {fuel : Nat} {cs : List Value} {y : DataW H × List MemPlace} (h : DataW.trod enc Tryz.prog W base sp hd fuel 95 cs = some y) : ∃ x : PDesc, cs = x.cells ∧ I64 x.core ∧ I64 x.fd ∧ I64 x.num := by
 obtain ⟨xs, n, _, _, hl, hxs, hf⟩ := DataW.trod_struct Tryz.underlying95 h
 rw [cellsOf_88] at hl
 have h0 : DataW.trod enc Tryz.prog W base sp hd n 3 ((cs.drop 0).take (Tryz.prog.cellsOf 3)) = xs[0]? := hf 0 _ rfl
 have h1 : DataW.trod enc Tryz.prog W base sp hd n 3 ((cs.drop 1).take (Tryz.prog.cellsOf 3)) = xs[1]? := hf 1 _ rfl
 have h2 : DataW.trod enc Tryz.prog W base sp hd n 3 ((cs.drop 2).take (Tryz.prog.cellsOf 3)) = xs[2]? := hf 2 _ rfl
 match cs, hl with
 | [c0, c1, c2], _ =>
   match xs, hxs with
   | [y0, y1, y2], _ =>
     simp only [cellsOf_3, List.drop, List.take, List.getElem?_cons_zero, List.getElem?_cons_succ] at h0 h1 h2; obtain ⟨a, e0, _, w0⟩ := DataW.trod_int Tryz.underlying3 h0; obtain ⟨b, e1, _, w1⟩ := DataW.trod_int Tryz.underlying3 h1; obtain ⟨c, e2, _, w2⟩ := DataW.trod_int Tryz.underlying3 h2; simp only [List.cons.injEq, and_true] at e0 e1 e2; exact ⟨⟨a, b, c⟩, by rw [e0, e1, e2]; rfl, i64_wf w0, i64_wf w1, i64_wf w2⟩
structure RIn (W : World) where
 r : IRec
 x : PIn
 is : r.is W x
theorem open_in {fuel : Nat} {cs : List Value} {y : DataW H × List MemPlace} (h : DataW.trod enc Tryz.prog W base sp hd fuel 68 cs = some y) : ∃ z : RIn W, cs = z.r.cells ∧ I64 z.x.num ∧ (∀ e ∈ z.x.ents, I64 e.num) ∧ z.x.ents.length ≤ Rows.uptoBulk y.1 := by
 obtain ⟨xs, n, _, ey, hl, hxs, hf⟩ := DataW.trod_struct Tryz.underlying68 h
 rw [cellsOf_65] at hl
 have h0 : DataW.trod enc Tryz.prog W base sp hd n 3 ((cs.drop 0).take (Tryz.prog.cellsOf 3)) = xs[0]? := hf 0 _ rfl
 have h1 : DataW.trod enc Tryz.prog W base sp hd n 4 ((cs.drop 1).take (Tryz.prog.cellsOf 4)) = xs[1]? := hf 1 _ rfl
 have h2 : DataW.trod enc Tryz.prog W base sp hd n 66 ((cs.drop 2).take (Tryz.prog.cellsOf 66)) = xs[2]? := hf 2 _ rfl
 have h3 : DataW.trod enc Tryz.prog W base sp hd n 9 ((cs.drop 3).take (Tryz.prog.cellsOf 9)) = xs[3]? := hf 3 _ rfl
 match cs, hl with
 | [c0, c1, c2, c3], _ =>
   match xs, hxs with
   | [y0, y1, y2, y3], _ =>
     simp only [cellsOf_3, cellsOf_4, cellsOf_9, cellsOf_63, List.drop, List.take, List.getElem?_cons_zero, List.getElem?_cons_succ] at h0 h1 h2 h3; obtain ⟨a, e0, _, w0⟩ := DataW.trod_int Tryz.underlying3 h0; obtain ⟨b, e1, _⟩ := DataW.trod_bool Tryz.underlying4 h1; obtain ⟨v, es, e2, hrow, hes, hel⟩ := open_row Tryz.underlying66 cellsOf_99 (by decide) PEnt.cells (fun _ x => I64 x.num) (fun _ _ _ _ h => h) (fun _ => rfl) (fun _ _ _ h => open_ent h) h2; obtain ⟨s, e3, _, w3⟩ := DataW.trod_string Tryz.underlying9 h3; simp only [List.cons.injEq, and_true] at e0 e1 e2 e3; have hp : Rows.uptoBulk y2.1 ≤ Rows.uptoBulk y.1 := by
      rw [ey]; exact bulk_agg (by simp)
     exact ⟨⟨⟨a, b, v, s, hrow.one⟩, ⟨a, b, es, s⟩, ⟨rfl, rfl, rfl, hrow⟩⟩, by rw [e0, e1, e2, e3]; rfl, i64_wf w0, hes, Nat.le_trans hel hp⟩
def PSt.nums64 (S : PSt) : Prop := (∀ x ∈ S.ins, I64 x.num ∧ ∀ e ∈ x.ents, I64 e.num) ∧ (∀ d ∈ S.op, I64 d.core ∧ I64 d.fd ∧ I64 d.num) ∧ ∀ m ∈ S.made, I64 m
def PSt.lens (S : PSt) (n : Nat) : Prop := S.ins.length ≤ n ∧ S.op.length ≤ n ∧ S.made.length ≤ n ∧ ∀ x ∈ S.ins, x.ents.length ≤ n
theorem open_state {fuel : Nat} {cs : List Value} {y : DataW H × List MemPlace} (h : DataW.trod enc Tryz.prog W base sp hd fuel 26 cs = some y) : ∃ (iv ov mv : Value) (S : PSt), cs = [iv, ov, mv] ∧ StRead W iv ov mv S ∧ S.nums64 ∧ S.lens (Rows.uptoBulk y.1) := by
 obtain ⟨xs, n, _, ey, hl, hxs, hf⟩ := DataW.trod_struct Tryz.underlying26 h
 rw [cellsOf_27] at hl
 have h0 : DataW.trod enc Tryz.prog W base sp hd n 22 ((cs.drop 0).take (Tryz.prog.cellsOf 22)) = xs[0]? := hf 0 _ rfl
 have h1 : DataW.trod enc Tryz.prog W base sp hd n 23 ((cs.drop 1).take (Tryz.prog.cellsOf 23)) = xs[1]? := hf 1 _ rfl
 have h2 : DataW.trod enc Tryz.prog W base sp hd n 24 ((cs.drop 2).take (Tryz.prog.cellsOf 24)) = xs[2]? := hf 2 _ rfl
 match cs, hl with
 | [c0, c1, c2], _ =>
   match xs, hxs with
   | [y0, y1, y2], _ =>
     simp only [cellsOf_23, cellsOf_24, cellsOf_25, List.drop, List.take, List.getElem?_cons_zero, List.getElem?_cons_succ] at h0 h1 h2; obtain ⟨iv, zs, e0, hr0, hg0, hl0⟩ := open_row (α := RIn W) Tryz.underlying22 cellsOf_65 (by decide) (fun z => z.r.cells) (fun n z => I64 z.x.num ∧ (∀ e ∈ z.x.ents, I64 e.num) ∧ z.x.ents.length ≤ n) (fun _ _ _ h g => ⟨g.1, g.2.1, Nat.le_trans g.2.2 h⟩) (fun _ => rfl) (fun _ _ _ h => open_in h) h0; obtain ⟨ov, ds, e1, hr1, hg1, hl1⟩ := open_row Tryz.underlying23 cellsOf_88 (by decide) PDesc.cells (fun _ x => I64 x.core ∧ I64 x.fd ∧ I64 x.num) (fun _ _ _ _ h => h) (fun _ => rfl) (fun _ _ _ h => open_desc h) h1; obtain ⟨mv, ms, e2, hr2, hg2, hl2⟩ := open_row Tryz.underlying24 cellsOf_3 (by decide) intCells (fun _ => I64) (fun _ _ _ _ h => h) (fun _ => rfl) (fun _ _ _ h => by
      obtain ⟨a, e0, _, w0⟩ := DataW.trod_int Tryz.underlying3 h; exact ⟨a, e0, i64_wf w0⟩) h2
     simp only [List.cons.injEq, and_true] at e0 e1 e2; have p0 : Rows.uptoBulk y0.1 ≤ Rows.uptoBulk y.1 := by rw [ey]; exact bulk_agg (by simp)
     have p1 : Rows.uptoBulk y1.1 ≤ Rows.uptoBulk y.1 := by rw [ey]; exact bulk_agg (by simp)
     have p2 : Rows.uptoBulk y2.1 ≤ Rows.uptoBulk y.1 := by rw [ey]; exact bulk_agg (by simp)
     refine ⟨iv, ov, mv, ⟨zs.map RIn.x, ds, ms⟩, by rw [e0, e1, e2], ⟨hr1, hr2, zs.map RIn.r, by rw [List.map_map]; exact hr0, by simp, fun q r x hq hx => ?_⟩, ⟨fun x hx => ?_, hg1, hg2⟩, ⟨by rw [List.length_map]; exact Nat.le_trans hl0 p0, Nat.le_trans hl1 p1, Nat.le_trans hl2 p2, fun x hx => ?_⟩⟩
     · simp only [List.getElem?_map] at hq hx; rcases e : zs[q]? with _ | z
       · rw [e] at hq; cases hq
       · rw [e] at hq hx; cases hq; cases hx; exact z.is
     · obtain ⟨z, hz, rfl⟩ := List.mem_map.1 hx; exact ⟨(hg0 z hz).1, (hg0 z hz).2.1⟩
     · obtain ⟨z, hz, rfl⟩ := List.mem_map.1 hx; exact Nat.le_trans (hg0 z hz).2.2 p0
theorem open_call {fuel : Nat} {cs : List Value} {y : DataW H × List MemPlace} (h : DataW.trod enc Tryz.prog W base sp hd fuel 28 cs = some y) :
 ∃ (k c f o n : Int) (p q d : ByteArray), cs = [.int .i64 k, .int .i64 c, .int .i64 f, .int .i64 o, .int .i64 n, .string p, .string q, .string d] ∧ (I64 k ∧ I64 c ∧ I64 f ∧ I64 o ∧ I64 n) ∧ p.size ≤ maxLen ∧ q.size ≤ maxLen ∧ d.size ≤ maxLen := by
 obtain ⟨xs, n, _, _, hl, hxs, hf⟩ := DataW.trod_struct Tryz.underlying28 h
 rw [cellsOf_29] at hl
 have h0 : DataW.trod enc Tryz.prog W base sp hd n 3 ((cs.drop 0).take (Tryz.prog.cellsOf 3)) = xs[0]? := hf 0 _ rfl
 have h1 : DataW.trod enc Tryz.prog W base sp hd n 3 ((cs.drop 1).take (Tryz.prog.cellsOf 3)) = xs[1]? := hf 1 _ rfl
 have h2 : DataW.trod enc Tryz.prog W base sp hd n 3 ((cs.drop 2).take (Tryz.prog.cellsOf 3)) = xs[2]? := hf 2 _ rfl
 have h3 : DataW.trod enc Tryz.prog W base sp hd n 3 ((cs.drop 3).take (Tryz.prog.cellsOf 3)) = xs[3]? := hf 3 _ rfl
 have h4 : DataW.trod enc Tryz.prog W base sp hd n 3 ((cs.drop 4).take (Tryz.prog.cellsOf 3)) = xs[4]? := hf 4 _ rfl
 have h5 : DataW.trod enc Tryz.prog W base sp hd n 9 ((cs.drop 5).take (Tryz.prog.cellsOf 9)) = xs[5]? := hf 5 _ rfl
 have h6 : DataW.trod enc Tryz.prog W base sp hd n 9 ((cs.drop 6).take (Tryz.prog.cellsOf 9)) = xs[6]? := hf 6 _ rfl
 have h7 : DataW.trod enc Tryz.prog W base sp hd n 9 ((cs.drop 7).take (Tryz.prog.cellsOf 9)) = xs[7]? := hf 7 _ rfl
 match cs, hl with
 | [c0, c1, c2, c3, c4, c5, c6, c7], _ =>
   match xs, hxs with
   | [y0, y1, y2, y3, y4, y5, y6, y7], _ =>
     simp only [cellsOf_3, cellsOf_9, List.drop, List.take, List.getElem?_cons_zero, List.getElem?_cons_succ] at h0 h1 h2 h3 h4 h5 h6 h7; obtain ⟨a0, e0, _, w0⟩ := DataW.trod_int Tryz.underlying3 h0; obtain ⟨a1, e1, _, w1⟩ := DataW.trod_int Tryz.underlying3 h1; obtain ⟨a2, e2, _, w2⟩ := DataW.trod_int Tryz.underlying3 h2; obtain ⟨a3, e3, _, w3⟩ := DataW.trod_int Tryz.underlying3 h3; obtain ⟨a4, e4, _, w4⟩ := DataW.trod_int Tryz.underlying3 h4; obtain ⟨a5, e5, _, w5⟩ := DataW.trod_string Tryz.underlying9 h5; obtain ⟨a6, e6, _, w6⟩ := DataW.trod_string Tryz.underlying9 h6; obtain ⟨a7, e7, _, w7⟩ := DataW.trod_string Tryz.underlying9 h7; simp only [List.cons.injEq, and_true] at e0 e1 e2 e3 e4 e5 e6 e7; exact ⟨a0, a1, a2, a3, a4, a5, a6, a7, by rw [e0, e1, e2, e3, e4, e5, e6, e7], ⟨i64_wf w0, i64_wf w1, i64_wf w2, i64_wf w3, i64_wf w4⟩, w5, w6, w7⟩
end
end Go.Proofs.YtmkapobnfigedaaGreatDoor
namespace Go.Proofs.YtmkapobnfigedaaGreatDoor
open Go.RowKit
def stepE (T : Nat → Nat → Bool) (l e : Nat) (inn : List Bool) : List Bool := inn.set e (inn.getD e false || (inn.getD l false && T e l))
def stepsE (T : Nat → Nat → Bool) (l : Nat) : Nat → Nat → List Bool → List Bool
 | 0, _, inn => inn
 | n + 1, e, inn => stepsE T l n (e + 1) (stepE T l e inn)
def closeE (T : Nat → Nat → Bool) : Nat → List Bool → List Bool
 | 0, inn => inn
 | l + 1, inn => closeE T l (stepsE T l l 0 inn)
def closedE (T : Nat → Nat → Bool) (inn : List Bool) : Bool := (List.range inn.length).all fun l => (List.range l).all fun e => !(inn.getD l false && !inn.getD e false && T e l)
theorem stepE_len (T : Nat → Nat → Bool) (l e : Nat) (inn : List Bool) : (stepE T l e inn).length = inn.length := by unfold stepE; rw [List.length_set]
theorem stepsE_len (T : Nat → Nat → Bool) (l : Nat) : ∀ (n e : Nat) (inn : List Bool), (stepsE T l n e inn).length = inn.length
 | 0, _, _ => rfl
 | n + 1, e, inn => by unfold stepsE; rw [stepsE_len T l n, stepE_len]
theorem closeE_len (T : Nat → Nat → Bool) : ∀ (l : Nat) (inn : List Bool), (closeE T l inn).length = inn.length
 | 0, _ => rfl
 | l + 1, inn => by unfold closeE; rw [closeE_len T l, stepsE_len]
theorem stepE_get (T : Nat → Nat → Bool) (l e : Nat) (inn : List Bool) (he : e < inn.length) (i : Nat) : (stepE T l e inn).getD i false = if i = e then (inn.getD e false || (inn.getD l false && T e l)) else inn.getD i false := by
 unfold stepE
 rw [List.getD_eq_getElem?_getD, List.getElem?_set]
 by_cases h : e = i
 · subst h; rw [if_pos rfl, if_pos rfl, if_pos he]; rfl
 · rw [if_neg h, if_neg (fun h' => h h'.symm), ← List.getD_eq_getElem?_getD]
theorem stepsE_get (T : Nat → Nat → Bool) (l : Nat) : ∀ (n e : Nat) (inn : List Bool), e + n ≤ l → l < inn.length → ∀ i, (stepsE T l n e inn).getD i false = if e ≤ i ∧ i < e + n then (inn.getD i false || (inn.getD l false && T i l)) else inn.getD i false
 | 0, e, inn, _, _, i => by unfold stepsE; rw [if_neg (by omega)]
 | n + 1, e, inn, h1, h2, i => by
   unfold stepsE; rw [stepsE_get T l n (e + 1) _ (by omega) (by rw [stepE_len]; exact h2) i]; have hg := stepE_get T l e inn (by omega); have hl : (stepE T l e inn).getD l false = inn.getD l false := by rw [hg, if_neg (by omega)]
   rw [hl, hg i]; by_cases e1 : i = e
   · subst e1; rw [if_neg (by omega), if_pos rfl, if_pos (by omega)]
   · rw [if_neg e1]; by_cases e2 : e + 1 ≤ i ∧ i < e + 1 + n
     · rw [if_pos e2, if_pos (by omega)]
     · rw [if_neg e2, if_neg (by omega)]
theorem closeE_keep (T : Nat → Nat → Bool) : ∀ (l : Nat) (inn : List Bool), l ≤ inn.length → ∀ i, (inn.getD i false = true → (closeE T l inn).getD i false = true) ∧ (l ≤ i + 1 → (closeE T l inn).getD i false = inn.getD i false)
 | 0, inn, _, i => by unfold closeE; exact ⟨id, fun _ => rfl⟩
 | l + 1, inn, h, i => by
   unfold closeE; obtain ⟨h1, h2⟩ := closeE_keep T l (stepsE T l l 0 inn) (by rw [stepsE_len]; omega) i; have hg := stepsE_get T l l 0 inn (by omega) (by omega) i; refine ⟨fun hi => h1 ?_, fun hi => ?_⟩
   · rw [hg]
     split
     · rw [hi]; rfl
     · exact hi
   · rw [h2 (by omega), hg, if_neg (by omega)]
theorem closeE_at (T : Nat → Nat → Bool) : ∀ (n : Nat) (inn : List Bool), n ≤ inn.length → ∀ l e, e < l → l < n → (closeE T n inn).getD l false = true → T e l = true → (closeE T n inn).getD e false = true
 | 0, _, _, l, e, _, h, _, _ => by omega
 | n + 1, inn, hn, l, e, hel, hl, hin, hT => by
   unfold closeE at hin ⊢; have hlen : (stepsE T n n 0 inn).length = inn.length := stepsE_len T n n 0 inn; by_cases c : l = n
   · subst c; have h2 := (closeE_keep T l (stepsE T l l 0 inn) (by rw [hlen]; omega) l).2 (by omega); rw [h2, stepsE_get T l l 0 inn (by omega) (by omega) l, if_neg (by omega)] at hin; refine (closeE_keep T l _ (by rw [hlen]; omega) e).1 ?_; rw [stepsE_get T l l 0 inn (by omega) (by omega) e, if_pos (by omega), hin, hT]; simp
   · exact closeE_at T n _ (by rw [hlen]; omega) l e hel (by omega) hin hT
theorem closeE_closed (T : Nat → Nat → Bool) (inn : List Bool) : closedE T (closeE T inn.length inn) = true := by
 unfold closedE
 rw [List.all_eq_true]
 intro l hl
 rw [List.all_eq_true]
 intro e he
 rw [List.mem_range] at hl he
 rw [closeE_len] at hl
 have h := closeE_at T inn.length inn (Nat.le_refl _) l e he hl
 revert h
 generalize (closeE T inn.length inn).getD l false = x
 generalize (closeE T inn.length inn).getD e false = y
 generalize T e l = z
 intro h
 rcases x with _ | _
 · rfl
 rcases z with _ | _
 · simp
 have := h rfl rfl
 rw [this]
 rfl
theorem closedE_at {T : Nat → Nat → Bool} {inn : List Bool} (h : closedE T inn = true) {l e : Nat} (hl : l < inn.length) (he : e < l) (h1 : inn.getD l false = true) (h2 : T e l = true) : inn.getD e false = true := by
 unfold closedE at h
 have := List.all_eq_true.1 (List.all_eq_true.1 h l (List.mem_range.2 hl)) e (List.mem_range.2 he)
 rw [h1, h2] at this
 simpa using this
theorem getD_ext {a b : List Bool} (hl : a.length = b.length) (h : ∀ i, a.getD i false = b.getD i false) : a = b := by
 apply List.ext_getElem hl
 intro i h1 h2
 have := h i
 rw [List.getD_eq_getElem?_getD, List.getD_eq_getElem?_getD, List.getElem?_eq_getElem h1, List.getElem?_eq_getElem h2] at this
 exact this
theorem stepsE_closed {T : Nat → Nat → Bool} {inn : List Bool} (h : closedE T inn = true) (l : Nat) (hl : l < inn.length) : stepsE T l l 0 inn = inn := by
 refine getD_ext (stepsE_len T l l 0 inn) fun i => ?_
 rw [stepsE_get T l l 0 inn (by omega) hl i]
 split
 · rename_i hi
   rcases h1 : inn.getD l false with _ | _
   · simp
   rcases h2 : T i l with _ | _
   · simp
   rw [closedE_at h hl (by omega) h1 h2]; rfl
 · rfl
theorem closeE_same {T : Nat → Nat → Bool} {inn : List Bool} (h : closedE T inn = true) : ∀ l, l ≤ inn.length → closeE T l inn = inn
 | 0, _ => rfl
 | l + 1, hl => by
   unfold closeE; rw [stepsE_closed h l (by omega)]; exact closeE_same h l (by omega)
theorem closedE_all (T : Nat → Nat → Bool) (n : Nat) : closedE T (List.replicate n true) = true := by
 unfold closedE
 rw [List.all_eq_true]
 intro l hl
 rw [List.all_eq_true]
 intro e he
 rw [List.mem_range] at hl he
 rw [List.length_replicate] at hl
 rw [List.getD_eq_getElem?_getD, List.getD_eq_getElem?_getD, List.getElem?_replicate, List.getElem?_replicate, if_pos hl, if_pos (by omega)]
 rfl
theorem closedE_none (T : Nat → Nat → Bool) (n : Nat) : closedE T (List.replicate n false) = true := by
 unfold closedE
 rw [List.all_eq_true]
 intro l hl
 rw [List.all_eq_true]
 intro e he
 rw [List.mem_range] at hl
 rw [List.length_replicate] at hl
 rw [List.getD_eq_getElem?_getD, List.getElem?_replicate, if_pos hl]
 rfl
def againE (inn : List Bool) : List Int := ((List.range inn.length).filter fun i => inn.getD i false).map Int.ofNat
def markE (n : Nat) : List Int → List Bool → List Bool
 | [], inn => inn
 | k :: r, inn => markE n r (if 0 ≤ k ∧ k < n then inn.set k.toNat true else inn)
theorem markE_len (n : Nat) : ∀ (l : List Int) (inn : List Bool), (markE n l inn).length = inn.length
 | [], _ => rfl
 | k :: r, inn => by
   unfold markE; rw [markE_len n r]
   split
   · rw [List.length_set]
   · rfl
theorem markE_get (n : Nat) : ∀ (l : List Int) (inn : List Bool), inn.length = n → ∀ i : Nat, i < n → (markE n l inn).getD i false = (inn.getD i false || l.any fun k => k == (i : Int))
 | [], inn, _, i, _ => by unfold markE; simp
 | k :: r, inn, hn, i, hi => by
   unfold markE; rw [List.any_cons]; by_cases hk : 0 ≤ k ∧ k < n
   · rw [if_pos hk, markE_get n r _ (by rw [List.length_set]; exact hn) i hi]; rw [List.getD_eq_getElem?_getD, List.getElem?_set]; by_cases e : k.toNat = i
     · rw [if_pos e, if_pos (by omega), show (k == (i : Int)) = true by simp; omega]; simp
     · rw [if_neg e, ← List.getD_eq_getElem?_getD, show (k == (i : Int)) = false by simp; omega]; simp
   · rw [if_neg hk, markE_get n r _ hn i hi, show (k == (i : Int)) = false by simp; omega]; simp
theorem markE_again (inn : List Bool) : markE inn.length (againE inn) (List.replicate inn.length false) = inn := by
 refine getD_ext (by rw [markE_len, List.length_replicate]) fun i => ?_
 by_cases hi : i < inn.length
 · rw [markE_get _ _ _ List.length_replicate i hi]; have h0 : (List.replicate inn.length false).getD i false = false := by rw [List.getD_eq_getElem?_getD, List.getElem?_replicate, if_pos hi]; rfl
   rw [h0, Bool.false_or]; rcases h : inn.getD i false with _ | _
   · rw [List.any_eq_false]; intro k hk hki; unfold againE at hk; obtain ⟨j, hj, rfl⟩ := List.mem_map.1 hk; have h2 : ((j : Nat) : Int) = (i : Int) := by simpa using hki
     have e : j = i := by omega
     subst e; rw [(List.mem_filter.1 hj).2] at h; cases h
   · rw [List.any_eq_true]; exact ⟨(i : Int), List.mem_map.2 ⟨i, List.mem_filter.2 ⟨List.mem_range.2 hi, h⟩, rfl⟩, by simp⟩
 · rw [List.getD_eq_getElem?_getD, List.getD_eq_getElem?_getD, List.getElem?_eq_none (by rw [markE_len, List.length_replicate]; omega), List.getElem?_eq_none (by omega)]
end Go.Proofs.YtmkapobnfigedaaGreatDoor
namespace Go.Proofs.YtmkapobnfigedaaGreatDoor
open Go.RowKit
structure PKey where
 num : Int
 name : ByteArray
deriving DecidableEq
def PKey.cells (k : PKey) : List Value := [.int .i64 k.num, .string k.name]
theorem pkey_len : ∀ (es : List PKey), ∀ cs ∈ es.map PKey.cells, cs.length = 2 := by
 intro es cs h
 obtain ⟨r, _, rfl⟩ := List.mem_map.1 h
 rfl
theorem pkey_one : ∀ (is : List PKey), ∀ cs ∈ is.map PKey.cells, ∀ u ∈ cs, u.oneCell' = true := by
 intro is cs h u hu
 obtain ⟨r, _, rfl⟩ := List.mem_map.1 h
 simp only [PKey.cells, List.mem_cons, List.not_mem_nil, or_false] at hu
 rcases hu with rfl | rfl <;> rfl
def meetK (x y : PKey) : Bool := (x.num == y.num) && (decide (x.name.size = 0) || decide (y.name.size = 0) || (decide (x.name = y.name) && !decide (x.name = ⟨#[46]⟩)))
def touchM (a b : List PKey) : Bool := a.any fun x => b.any fun y => meetK x y
end Go.Proofs.YtmkapobnfigedaaGreatDoor
namespace Go.Proofs.YtmkapobnfigedaaGreatDoor
theorem ret_bool {a b : Bool} (h : a = b) : Ending.returned (.bool a) = Ending.returned (.bool b) := by rw [h]
theorem ret_int {k : IntKind} {a b : Int} (h : a = b) : Ending.returned (.int k a) = Ending.returned (.int k b) := by rw [h]
end Go.Proofs.YtmkapobnfigedaaGreatDoor
namespace Go.Proofs.YtmkapobnfigedaaGreatDoor
open Go.RowKit
theorem num35 (e : Int) (w : World) : Calls Tryz.prog 35 #[.int .i64 e] w fun r w' => r = .returned (.int .i64 e) ∧ Below w.heap.size w w' := by
 go_enter Tryz.func35, Tryz.ntmps35
 go_wp2_with fail
 go_ret
 exact ⟨rfl, bel _ _⟩
theorem any_drop {α : Type} (p : α → Bool) (l : List α) (q : Nat) {x : α} (h : l[q]? = some x) : (l.drop q).any p = (p x || (l.drop (q + 1)).any p) := by
 obtain ⟨hl, rfl⟩ := List.getElem?_eq_some_iff.1 h
 rw [List.drop_eq_getElem_cons hl, List.any_cons]
theorem any_end {α : Type} (p : α → Bool) (l : List α) (q : Nat) (h : ¬ q < l.length) : (l.drop q).any p = false := by
 rw [List.drop_eq_nil_of_le (by omega)]
 rfl
theorem toList_data (a : ByteArray) : a.toList = a.data.toList := by
 exact ByteArray.toList_eq a
theorem meetK_eq (x y : PKey) : meetK x y = ((x.num == y.num) && (x.name.toList.isEmpty || y.name.toList.isEmpty || ((x.name.toList == y.name.toList) && !(x.name.toList == [46])))) := by
 have h1 : ∀ a : ByteArray, decide (a.size = 0) = a.toList.isEmpty := fun a => by
  rw [toList_data, Bool.eq_iff_iff, decide_eq_true_iff, List.isEmpty_iff]; rcases a with ⟨⟨l⟩⟩
  show l.length = 0 ↔ l = []
  exact List.length_eq_zero_iff
 have h2 : ∀ a b : ByteArray, decide (a = b) = (a.toList == b.toList) := fun a b => by
  rw [toList_data, toList_data, Bool.eq_iff_iff, decide_eq_true_iff, beq_iff_eq]; exact ⟨fun h => by rw [h], fun h => by
   rcases a with ⟨⟨l⟩⟩
   rcases b with ⟨⟨m⟩⟩
   cases h; rfl⟩
 unfold meetK
 rw [h1, h1, h2, h2, toList_data ⟨#[46]⟩]
set_option maxRecDepth 100000 in
set_option maxHeartbeats 4000000 in
theorem touch17 (ks bs : List PKey) (va vb : Value) (w : World) (ha : RowAt w 2 va (ks.map PKey.cells)) (hb : RowAt w 2 vb (bs.map PKey.cells)) :
 Calls Tryz.prog 17 #[va, vb] w fun e w' => e = .returned (.bool (touchM ks bs)) ∧ Below w.heap.size w w' := by
 have hal : ks.length ≤ 9223372036854775807 := by obtain ⟨_, _, _, h, _⟩ := ha; rw [List.length_map] at h; exact h
 have hbl : bs.length ≤ 9223372036854775807 := by obtain ⟨_, _, _, h, _⟩ := hb; rw [List.length_map] at h; exact h
 obtain ⟨aa, ca, rfl, hata⟩ := ha.at_
 obtain ⟨ab, cb, rfl, hatb⟩ := hb.at_
 rw [List.length_map, List.length_map]
 have HA := Lib.hid (And.intro hata hatb)
 clear hata hatb ha hb
 unfold touchM
 generalize hR : (ks.any fun x => bs.any fun y => meetK x y) = R
 have HR := Lib.hid hR
 clear hR
 go_enter Tryz.func17, Tryz.ntmps17
 go_wp2_with fail
 go_loopw [11] (fun vi wr => ∃ q : Nat, vi = .int .i64 q ∧ q ≤ ks.length ∧ ((ks.drop q).any fun x => bs.any fun y => meetK x y) = R ∧ Below w.heap.size w wr) (fun vi _ => (ks.length - intOf vi).toNat)
 case atStart => exact ⟨0, rfl, by omega, by simpa using HR.out, bel _ _⟩
 case round =>
  obtain ⟨q, rfl, hq, hre, hbr⟩ := hrel
  rename World => wo
  have iB : Bel w wo := ⟨hbr⟩
  by_cases hlt : q < ks.length
  · obtain ⟨x, hx⟩ : ∃ x, ks[q]? = some x := ⟨_, List.getElem?_eq_getElem hlt⟩
    rw [any_drop _ _ _ hx] at hre; obtain ⟨be, offe, rfl, iE0, iE, hce⟩ := HA.out.1 wo hbr q x.cells (by rw [List.getElem?_map, hx]; rfl); have e0 := hce 0 _ rfl; have e1 := hce 1 _ rfl; rw [Nat.add_zero] at e0; have HR2 := Lib.hid hre; clear hre hce hx; go_wp2_with fail
    go_loopw [17] (fun vi w2 => ∃ k : Nat, vi = .int .i64 k ∧ k ≤ bs.length ∧ ((bs.drop k).any fun y => meetK x y) = (bs.any fun y => meetK x y) ∧ Below wo.heap.size wo w2 ∧ Blk w2 wo.heap.size #[.int .i64 x.num, .string x.name] 61) (fun vi _ => (bs.length - intOf vi).toNat)
    case atStart => exact ⟨0, rfl, by omega, rfl, bel _ _, Blk.new _ _ _⟩
    case round =>
     obtain ⟨k, rfl, hk, hre2, hb2, hblk⟩ := hrel; have iB2 : Bel w wr := ⟨hbr.trans (hb2.mono hbr.size)⟩
     have iB3 : Bel wo wr := ⟨hb2⟩
     have z0 : wr.cell? ⟨wo.heap.size, 0, none⟩ = some (.int .i64 x.num) := hblk.cell 0; have z1 : wr.cell? ⟨wo.heap.size, 1, none⟩ = some (.string x.name) := hblk.cell 1; have iK := hblk.lt; have HK := Lib.hid hblk; by_cases hlk : k < bs.length
     · obtain ⟨y, hy⟩ : ∃ y, bs[k]? = some y := ⟨_, List.getElem?_eq_getElem hlk⟩
       rw [any_drop _ _ _ hy] at hre2; obtain ⟨bf, offf, rfl, iF0, iF, hcf⟩ := HA.out.2 wr iB2.below k y.cells (by rw [List.getElem?_map, hy]; rfl); have f0 := hcf 0 _ rfl; have f1 := hcf 1 _ rfl; rw [Nat.add_zero] at f0; have HR3 := Lib.hid hre2; clear hre2 hcf hy hblk; rcases g1 : (x.num == y.num) with _ | _
       · have hm : meetK x y = false := by rw [meetK_eq, g1]; rfl
         go_wp2_with fail
         go_roundw
         case rel => exact ⟨k + 1, by go_num, by omega, by have := HR3.out; rw [hm, Bool.false_or] at this; exact this, bel _ _, HK.out.alloc _⟩
         case measure => simp [intOf]; omega
       rcases g2 : x.name.toList.isEmpty with _ | _
       rotate_left
       · have hm : meetK x y = true := by rw [meetK_eq, g1, g2]; rfl
         go_wp2_with fail; go_ret; exact ⟨ret_bool (by have h1 := HR3.out; rw [hm, Bool.true_or] at h1; have h2 := HR2.out; rw [← h1, Bool.true_or] at h2; exact h2), bel _ _⟩
       rcases g3 : y.name.toList.isEmpty with _ | _
       rotate_left
       · have hm : meetK x y = true := by rw [meetK_eq, g1, g2, g3]; rfl
         go_wp2_with fail; go_ret; exact ⟨ret_bool (by have h1 := HR3.out; rw [hm, Bool.true_or] at h1; have h2 := HR2.out; rw [← h1, Bool.true_or] at h2; exact h2), bel _ _⟩
       rcases g5 : (x.name.toList == y.name.toList) with _ | _
       · have hm : meetK x y = false := by rw [meetK_eq, g1, g2, g3, g5]; rfl
         go_wp2_with fail
         go_roundw
         case rel => exact ⟨k + 1, by go_num, by omega, by have := HR3.out; rw [hm, Bool.false_or] at this; exact this, bel _ _, HK.out.alloc _⟩
         case measure => simp [intOf]; omega
       rcases g4 : (x.name.toList == [46]) with _ | _
       · have hm : meetK x y = true := by rw [meetK_eq, g1, g2, g3, g5, g4]; rfl
         go_wp2_with fail; go_ret; exact ⟨ret_bool (by have h1 := HR3.out; rw [hm, Bool.true_or] at h1; have h2 := HR2.out; rw [← h1, Bool.true_or] at h2; exact h2), bel _ _⟩
       · have hm : meetK x y = false := by rw [meetK_eq, g1, g2, g3, g5, g4]; rfl
         go_wp2_with fail
         go_roundw
         case rel => exact ⟨k + 1, by go_num, by omega, by have := HR3.out; rw [hm, Bool.false_or] at this; exact this, bel _ _, HK.out.alloc _⟩
         case measure => simp [intOf]; omega
     · rw [any_end _ _ _ hlk] at hre2; have HR3 := Lib.hid hre2; clear hblk hre2; go_wp2_with fail
       go_roundw
       case rel => exact ⟨q + 1, by go_num, by omega, by have := HR2.out; rw [← HR3.out] at this; simpa using this, iB2.below⟩
       case measure => simp [intOf]; omega
  · rw [any_end _ _ _ hlt] at hre; subst hre; go_wp2_with fail; go_ret; exact ⟨rfl, bel _ _⟩
end Go.Proofs.YtmkapobnfigedaaGreatDoor
namespace Go.Proofs.YtmkapobnfigedaaGreatDoor
open Go.RowKit
theorem nan116 (a : Int) (w : World) : Calls Tryz.prog 116 #[.int .i64 a] w fun e w' => e = .returned (.bool false) ∧ w' = w := by
 go_enter Tryz.func116, Tryz.ntmps116
 go_wp2_with fail
 go_ret
 exact ⟨rfl, rfl⟩
theorem nan117 (a : ByteArray) (w : World) : Calls Tryz.prog 117 #[.string a] w fun e w' => e = .returned (.bool false) ∧ w' = w := by
 go_enter Tryz.func117, Tryz.ntmps117
 go_wp2_with fail
 go_ret
 exact ⟨rfl, rfl⟩
theorem cmp78 (a b : Int) (w : World) : Calls Tryz.prog 78 #[.int .i64 a, .int .i64 b] w fun e w' => e = .returned (.int .i64 (cmpM a b)) ∧ w' = w := by
 unfold cmpM
 by_cases h1 : a < b
 · rw [if_pos h1]
   go_enter Tryz.func78, Tryz.ntmps78
   go_wp2_with (go_at_call 116; refine (nan116 _ _).mono ?_; rintro e w' ⟨rfl, rfl⟩)
   go_ret; exact ⟨rfl, rfl⟩
 · rw [if_neg h1]; by_cases h2 : b < a
   · rw [if_pos h2]
     go_enter Tryz.func78, Tryz.ntmps78
     go_wp2_with (go_at_call 116; refine (nan116 _ _).mono ?_; rintro e w' ⟨rfl, rfl⟩)
     go_ret; exact ⟨rfl, rfl⟩
   · rw [if_neg h2]
     go_enter Tryz.func78, Tryz.ntmps78
     go_wp2_with (go_at_call 116; refine (nan116 _ _).mono ?_; rintro e w' ⟨rfl, rfl⟩)
     go_ret; exact ⟨rfl, rfl⟩
theorem less_cmp (a b : ByteArray) : Op.bytesLess a.toList b.toList = decide (cmpS a b < 0) := by
 unfold cmpS
 rw [ByteArray.toList_eq, ByteArray.toList_eq]
 generalize a.data.toList = x
 generalize b.data.toList = y
 induction x generalizing y with
 | nil =>
   cases y with
   | nil => simp [Op.bytesLess, Lib.compareBytes]
   | cons d y => simp [Op.bytesLess, Lib.compareBytes]
 | cons c x ih =>
   cases y with
   | nil => simp [Op.bytesLess, Lib.compareBytes]
   | cons d y =>
     simp only [Op.bytesLess, Lib.compareBytes]; by_cases h1 : c < d
     · simp [h1]
     · by_cases h2 : d < c
       · simp [h1, h2]; intro e; subst e; exact absurd h2 (UInt8.lt_irrefl _)
       · have : c = d := UInt8.le_antisymm (UInt8.not_lt.1 h2) (UInt8.not_lt.1 h1); subst this; simp [ih]
theorem cmpS_cases (a b : ByteArray) : cmpS a b = -1 ∨ cmpS a b = 0 ∨ cmpS a b = 1 := by
 unfold cmpS
 generalize a.data.toList = x
 generalize b.data.toList = y
 induction x generalizing y with
 | nil => cases y <;> simp [Lib.compareBytes]
 | cons c x ih =>
   cases y with
   | nil => simp [Lib.compareBytes]
   | cons d y =>
     simp only [Lib.compareBytes]
     split
     · simp
     split
     · simp
     · exact ih y
theorem cmpS_eq (a b : ByteArray) : cmpS a b = 0 ↔ a = b := by
 have key : ∀ x y : List UInt8, Lib.compareBytes x y = 0 ↔ x = y := by
  intro x
  induction x with
  | nil => intro y; cases y <;> simp [Lib.compareBytes]
  | cons c x ih =>
    intro y; cases y with
    | nil => simp [Lib.compareBytes]
    | cons d y =>
      simp only [Lib.compareBytes]; by_cases h1 : c < d
      · rw [if_pos h1]; constructor
        · intro h; cases h
        · intro h; injection h with h _; subst h; exact absurd h1 (UInt8.lt_irrefl c)
      · rw [if_neg h1]; by_cases h2 : d < c
        · rw [if_pos h2]; constructor
          · intro h; cases h
          · intro h; injection h with h _; subst h; exact absurd h2 (UInt8.lt_irrefl c)
        · rw [if_neg h2, ih]; have : c = d := UInt8.le_antisymm (UInt8.not_lt.1 h2) (UInt8.not_lt.1 h1); simp [this]
 unfold cmpS
 rw [key]
 constructor
 · intro h; rcases a with ⟨⟨l⟩⟩
   rcases b with ⟨⟨m⟩⟩
   cases h; rfl
 · intro h; rw [h]
theorem cmp79 (a b : ByteArray) (w : World) : Calls Tryz.prog 79 #[.string a, .string b] w fun e w' => e = .returned (.int .i64 (cmpS a b)) ∧ w' = w := by
 have hl := less_cmp a b
 have he : (a.toList == b.toList) = decide (cmpS a b = 0) := by
  rw [Bool.eq_iff_iff, beq_iff_eq, decide_eq_true_iff, cmpS_eq, ByteArray.toList_eq, ByteArray.toList_eq]; constructor
  · intro h; rcases a with ⟨⟨l⟩⟩
    rcases b with ⟨⟨m⟩⟩
    cases h; rfl
  · intro h; rw [h]
 rcases cmpS_cases a b with h | h | h
 · have hl1 : Op.bytesLess a.toList b.toList = true := by rw [hl, h]; rfl
   have he1 : (a.toList == b.toList) = false := by rw [he, h]; rfl
   rw [h]; clear h hl he
   go_enter Tryz.func79, Tryz.ntmps79
   go_wp2_with (go_at_call 117; refine (nan117 _ _).mono ?_; rintro e w' ⟨rfl, rfl⟩)
   go_ret; exact ⟨rfl, rfl⟩
 · have hl1 : Op.bytesLess a.toList b.toList = false := by rw [hl, h]; rfl
   have he1 : (a.toList == b.toList) = true := by rw [he, h]; rfl
   rw [h]; clear h hl he
   go_enter Tryz.func79, Tryz.ntmps79
   go_wp2_with (go_at_call 117; refine (nan117 _ _).mono ?_; rintro e w' ⟨rfl, rfl⟩)
   go_ret; exact ⟨rfl, rfl⟩
 · have hl1 : Op.bytesLess a.toList b.toList = false := by rw [hl, h]; rfl
   have he1 : (a.toList == b.toList) = false := by rw [he, h]; rfl
   rw [h]; clear h hl he
   go_enter Tryz.func79, Tryz.ntmps79
   go_wp2_with (go_at_call 117; refine (nan117 _ _).mono ?_; rintro e w' ⟨rfl, rfl⟩)
   go_ret; exact ⟨rfl, rfl⟩
set_option maxHeartbeats 1000000 in
theorem or77 (b : Nat) (x y : Int) (w : World) (hb : Blk w b #[.int .i64 x, .int .i64 y] 3) : Calls Tryz.prog 77 #[.slice (some ⟨b, 0, none⟩) 2 2] w fun e w' => e = .returned (.int .i64 (if x ≠ 0 then x else y)) ∧ w' = w := by
 have ib := hb.lt
 have c0 : w.cell? ⟨b, 0, none⟩ = some (.int .i64 x) := hb.cell 0
 have c1 : w.cell? ⟨b, 1, none⟩ = some (.int .i64 y) := hb.cell 1
 clear hb
 obtain ⟨R, hR⟩ : ∃ R, (if x ≠ 0 then x else y) = R := ⟨_, rfl⟩
 rw [hR]
 have HR := Lib.hid hR
 clear hR
 go_enter Tryz.func77, Tryz.ntmps77
 go_wp2_with fail
 go_loopw [5, 8] (fun _ vi wr => wr = w ∧ ∃ q : Nat, vi = .int .i64 q ∧ q ≤ 2 ∧ (1 ≤ q → x = 0) ∧ (2 ≤ q → y = 0)) (fun _ vi _ => (2 - intOf vi).toNat)
 case atStart => exact ⟨rfl, 0, rfl, by omega, fun h => absurd h (by omega), fun h => absurd h (by omega)⟩
 case round =>
  obtain ⟨rfl, q, rfl, hq, h1, h2⟩ := hrel; rcases q with _ | _ | _ | q
  · rcases hx : (x != 0) with _ | _
    · have HX := Lib.hid hx; go_wp2_with fail
      go_roundw
      case rel => exact ⟨trivial, 1, rfl, by omega, fun _ => by simpa using HX.out, fun h => absurd h (by omega)⟩
      case measure => simp [intOf]
    · have e : R = x := by rw [← HR.out, if_pos (by simpa using hx)]
      go_wp2_with fail; go_ret; exact ⟨ret_int e.symm, rfl⟩
  · have HX := Lib.hid (h1 (by omega)); have e : R = y := by rw [← HR.out, if_neg (by rw [HX.out]; simp)]
    rcases hy : (y != 0) with _ | _
    · have HY := Lib.hid hy; clear h1 h2; go_wp2_with fail
      go_roundw
      case rel => exact ⟨trivial, 2, rfl, by omega, fun _ => HX.out, fun _ => by simpa using HY.out⟩
      case measure => simp [intOf]
    · clear h1 h2; go_wp2_with fail; go_ret; exact ⟨ret_int e.symm, rfl⟩
  · have HX := Lib.hid (And.intro (h1 (by omega)) (h2 (by omega))); have e : R = 0 := by rw [← HR.out, if_neg (by rw [HX.out.1]; simp), HX.out.2]
    clear h1 h2; go_wp2_with fail; go_ret; exact ⟨ret_int e.symm, rfl⟩
  · omega
def cmpK (x y : PKey) : Int := if cmpM x.num y.num ≠ 0 then cmpM x.num y.num else cmpS x.name y.name
set_option maxRecDepth 100000 in
set_option maxHeartbeats 8000000 in
theorem closure76 (x y : PKey) (w : World) : Calls Tryz.prog 76 #[.agg #[.int .i64 x.num, .string x.name], .agg #[.int .i64 y.num, .string y.name]] w fun e w' => e = .returned (.int .i64 (cmpK x y)) ∧ ∃ q os, w' = Sort.grow (w.drewN q) os := by
 unfold cmpK
 have h78 := fun ww => cmp78 x.num y.num ww
 have h79 := fun ww => cmp79 x.name y.name ww
 generalize cmpM x.num y.num = c1 at h78 ⊢
 generalize cmpS x.name y.name = c2 at h79 ⊢
 obtain ⟨R, hR⟩ : ∃ R, (if c1 ≠ 0 then c1 else c2) = R := ⟨_, rfl⟩
 have h77 : ∀ b ww, Blk ww b #[.int .i64 c1, .int .i64 c2] 3 → Calls Tryz.prog 77 #[.slice (some ⟨b, 0, none⟩) 2 2] ww fun e w' => e = .returned (.int .i64 R) ∧ w' = ww := fun b ww hb => by rw [← hR]; exact or77 b c1 c2 ww hb
 rw [hR]
 clear hR
 go_enter Tryz.func76, Tryz.ntmps76
 go_upto_region 1 with fail
 go_region_held3 (fun w' => w'.cell? ⟨w.heap.size, 0, none⟩ = some (.int .i64 x.num) ∧ w'.cell? ⟨w.heap.size, 1, none⟩ = some (.string x.name) ∧ w'.cell? ⟨w.heap.size + 1, 0, none⟩ = some (.int .i64 y.num) ∧ w'.cell? ⟨w.heap.size + 1, 1, none⟩ = some (.string y.name))
  (first | (try dsimp only) <;> (repeat' apply And.intro) <;> go_simp)
  (first | (go_at_call 78; refine (h78 _).mono ?_; rintro e w' ⟨rfl, rfl⟩) | (go_at_call 79; refine (h79 _).mono ?_; rintro e w' ⟨rfl, rfl⟩) | (go_at_call 77; refine (h77 _ _ (by exact Blk.new_i _ _ _ _)).mono ?_; rintro e w' ⟨rfl, rfl⟩))
 all_goals go_wp2_with fail
 all_goals (go_ret; refine ⟨rfl, 1, #[.cells #[.int .i64 x.num, .string x.name] 61, .cells #[.int .i64 y.num, .string y.name] 61, .cells #[.int .i64 c1, .int .i64 c2] 3], ?_⟩; rfl)
end Go.Proofs.YtmkapobnfigedaaGreatDoor
namespace Go.Proofs
open Go.Shelf
def Tryz.sort75_ren : Go.Shelf.Ren := ⟨fun | 6 => 75 | 15 => 115 | 14 => 114 | 28 => 164 | 29 => 165 | 20 => 156 | 21 => 157 | 22 => 158 | 23 => 159 | 24 => 160 | 25 => 161 | 26 => 162 | 27 => 163 | 46 => 192 | 47 => 193 | 48 => 194 | 49 => 195 | 50 => 196 | 57 => 209 | n => n, fun | 22 => 29 | 24 => 61 | 25 => 111 | 3 => 3 | 39 => 57 | 0 => 0 | 53 => 180 | 55 => 146 | 4 => 4 | 46 => 174 | 45 => 173 | 50 => 159 | 5 => 5 | 9 => 9 | 66 => 201 | 70 => 205 | 76 => 216 | 77 => 77 | n => n, fun | n => n⟩
theorem Tryz.sort75 : Go.Proofs.SlLaysF0.n6 Tryz.prog Tryz.sort75_ren := {
 mixed := by kernel_rfl
 f6 := ⟨Tryz.f75.name, by decide, Tryz.func75.trans (congrArg some (by kernel_rfl))⟩
 f14 := ⟨Tryz.f114.name, by decide, Tryz.func114.trans (congrArg some (by kernel_rfl))⟩
 f15 := Tryz.func115.trans (congrArg some (by kernel_rfl))
 f20 := ⟨Tryz.f156.name, by decide, Tryz.func156.trans (congrArg some (by kernel_rfl))⟩
 f21 := ⟨Tryz.f157.name, by decide, Tryz.func157.trans (congrArg some (by kernel_rfl))⟩
 f22 := ⟨Tryz.f158.name, by decide, Tryz.func158.trans (congrArg some (by kernel_rfl))⟩
 f23 := ⟨Tryz.f159.name, by decide, Tryz.func159.trans (congrArg some (by kernel_rfl))⟩
 f24 := ⟨Tryz.f160.name, by decide, Tryz.func160.trans (congrArg some (by kernel_rfl))⟩
 f25 := ⟨Tryz.f161.name, by decide, Tryz.func161.trans (congrArg some (by kernel_rfl))⟩
 f26 := ⟨Tryz.f162.name, by decide, Tryz.func162.trans (congrArg some (by kernel_rfl))⟩
 f27 := ⟨Tryz.f163.name, by decide, Tryz.func163.trans (congrArg some (by kernel_rfl))⟩
 f28 := Tryz.func164.trans (congrArg some (by kernel_rfl))
 f29 := Tryz.func165.trans (congrArg some (by kernel_rfl))
 f46 := ⟨Tryz.f192.name, by decide, Tryz.func192.trans (congrArg some (by kernel_rfl))⟩
 f47 := Tryz.func193.trans (congrArg some (by kernel_rfl))
 f48 := Tryz.func194.trans (congrArg some (by kernel_rfl))
 f49 := ⟨Tryz.f195.name, by decide, Tryz.func195.trans (congrArg some (by kernel_rfl))⟩
 f50 := ⟨Tryz.f196.name, by decide, Tryz.func196.trans (congrArg some (by kernel_rfl))⟩
 f57 := ⟨Tryz.f209.name, by decide, Tryz.func209.trans (congrArg some (by kernel_rfl))⟩
 t0 := Tryz.underlying0
 a0 := Tryz.isAgg0
 z0 := Tryz.sizeOf0
 v0 := Tryz.zeroValue0
 t3 := Tryz.underlying3
 a3 := Tryz.isAgg3
 z3 := Tryz.sizeOf3
 v3 := Tryz.zeroValue3
 t4 := Tryz.underlying4
 a4 := Tryz.isAgg4
 z4 := Tryz.sizeOf4
 v4 := Tryz.zeroValue4
 t5 := Tryz.underlying5
 a5 := Tryz.isAgg5
 z5 := Tryz.sizeOf5
 v5 := Tryz.zeroValue5
 t9 := Tryz.underlying9
 a9 := Tryz.isAgg9
 z9 := Tryz.sizeOf9
 v9 := Tryz.zeroValue9
 t22 := Tryz.underlying29
 a22 := Tryz.isAgg29
 z22 := Tryz.sizeOf29
 v22 := Tryz.zeroValue29
 t25 := Tryz.underlying111
 a25 := Tryz.isAgg111
 z25 := Tryz.sizeOf111
 v25 := Tryz.zeroValue111
 t39 := Tryz.underlying57
 a39 := Tryz.isAgg57
 z39 := Tryz.sizeOf57
 v39 := Tryz.zeroValue57
 t45 := Tryz.underlying173
 a45 := Tryz.isAgg173
 z45 := Tryz.sizeOf173
 v45 := Tryz.zeroValue173
 t46 := Tryz.underlying174
 a46 := Tryz.isAgg174
 z46 := Tryz.sizeOf174
 v46 := Tryz.zeroValue174
 t50 := Tryz.underlying159
 a50 := Tryz.isAgg159
 z50 := Tryz.sizeOf159
 v50 := Tryz.zeroValue159
 t53 := Tryz.underlying180
 a53 := Tryz.isAgg180
 z53 := Tryz.sizeOf180
 v53 := Tryz.zeroValue180
 t55 := Tryz.underlying146
 a55 := Tryz.isAgg146
 z55 := Tryz.sizeOf146
 v55 := Tryz.zeroValue146
 t66 := Tryz.underlying201
 a66 := Tryz.isAgg201
 z66 := Tryz.sizeOf201
 v66 := Tryz.zeroValue201
 t70 := Tryz.underlying205
 a70 := Tryz.isAgg205
 z70 := Tryz.sizeOf205
 v70 := Tryz.zeroValue205
 t76 := Tryz.underlying216
 a76 := Tryz.isAgg216
 z76 := Tryz.sizeOf216
 v76 := Tryz.zeroValue216
 t77 := Tryz.underlying77
 a77 := Tryz.isAgg77
 z77 := Tryz.sizeOf77
 v77 := Tryz.zeroValue77 }
def Tryz.lays171_ren : Go.Shelf.Ren := ⟨fun | 171 => 151 | 243 => 189 | 246 => 208 | 283 => 216 | 284 => 217 | 285 => 218 | 286 => 219 | 129 => 165 | 317 => 224 | 318 => 225 | 319 => 226 | 320 => 227 | 337 => 229 | 338 => 230 | n => n, fun | 3 => 3 | 9 => 9 | 2 => 2 | 4 => 4 | 171 => 219 | 0 => 0 | 53 => 146 | 37 => 147 | 5 => 5 | 173 => 221 | 212 => 226 | 51 => 180 | 20 => 20 | 213 => 227 | 46 => 57 | 232 => 229 | 233 => 230 | n => n, fun | 17 => 1 | 18 => 2 | 19 => 3 | n => n⟩
theorem Tryz.lays171 : Go.Proofs.Lays.n171 Tryz.prog Tryz.lays171_ren := {
 mixed := by kernel_rfl
 f129 := Tryz.func165.trans (congrArg some (by kernel_rfl))
 f171 := Tryz.func151.trans (congrArg some (by kernel_rfl))
 f243 := Tryz.func189.trans (congrArg some (by kernel_rfl))
 f246 := Tryz.func208.trans (congrArg some (by kernel_rfl))
 f283 := Tryz.func216.trans (congrArg some (by kernel_rfl))
 f284 := Tryz.func217.trans (congrArg some (by kernel_rfl))
 f285 := Tryz.func218.trans (congrArg some (by kernel_rfl))
 f286 := Tryz.func219.trans (congrArg some (by kernel_rfl))
 f317 := Tryz.func224.trans (congrArg some (by kernel_rfl))
 f318 := Tryz.func225.trans (congrArg some (by kernel_rfl))
 f319 := Tryz.func226.trans (congrArg some (by kernel_rfl))
 f320 := Tryz.func227.trans (congrArg some (by kernel_rfl))
 f337 := Tryz.func229.trans (congrArg some (by kernel_rfl))
 f338 := Tryz.func230.trans (congrArg some (by kernel_rfl))
 t0 := Tryz.underlying0
 a0 := Tryz.isAgg0
 z0 := Tryz.sizeOf0
 v0 := Tryz.zeroValue0
 t2 := Tryz.underlying2
 a2 := Tryz.isAgg2
 z2 := Tryz.sizeOf2
 v2 := Tryz.zeroValue2
 t3 := Tryz.underlying3
 a3 := Tryz.isAgg3
 z3 := Tryz.sizeOf3
 v3 := Tryz.zeroValue3
 t4 := Tryz.underlying4
 a4 := Tryz.isAgg4
 z4 := Tryz.sizeOf4
 v4 := Tryz.zeroValue4
 t5 := Tryz.underlying5
 a5 := Tryz.isAgg5
 z5 := Tryz.sizeOf5
 v5 := Tryz.zeroValue5
 t9 := Tryz.underlying9
 a9 := Tryz.isAgg9
 z9 := Tryz.sizeOf9
 v9 := Tryz.zeroValue9
 t20 := Tryz.underlying20
 a20 := Tryz.isAgg20
 z20 := Tryz.sizeOf20
 v20 := Tryz.zeroValue20
 t37 := Tryz.underlying147
 a37 := Tryz.isAgg147
 z37 := Tryz.sizeOf147
 v37 := Tryz.zeroValue147
 t46 := Tryz.underlying57
 a46 := Tryz.isAgg57
 z46 := Tryz.sizeOf57
 v46 := Tryz.zeroValue57
 t51 := Tryz.underlying180
 a51 := Tryz.isAgg180
 z51 := Tryz.sizeOf180
 v51 := Tryz.zeroValue180
 t53 := Tryz.underlying146
 a53 := Tryz.isAgg146
 z53 := Tryz.sizeOf146
 v53 := Tryz.zeroValue146
 t171 := Tryz.underlying219
 a171 := Tryz.isAgg219
 z171 := Tryz.sizeOf219
 v171 := Tryz.zeroValue219
 t173 := Tryz.underlying221
 a173 := Tryz.isAgg221
 z173 := Tryz.sizeOf221
 v173 := Tryz.zeroValue221
 t212 := Tryz.underlying226
 a212 := Tryz.isAgg226
 z212 := Tryz.sizeOf226
 v212 := Tryz.zeroValue226
 t213 := Tryz.underlying227
 a213 := Tryz.isAgg227
 z213 := Tryz.sizeOf227
 t232 := Tryz.underlying229
 a232 := Tryz.isAgg229
 z232 := Tryz.sizeOf229
 v232 := Tryz.zeroValue229
 t233 := Tryz.underlying230
 a233 := Tryz.isAgg230
 z233 := Tryz.sizeOf230
 v233 := Tryz.zeroValue230
 g17 := by kernel_rfl
 g18 := by kernel_rfl
 g19 := by kernel_rfl }
open Go.RowKit Go.Sort Go.Lib in
theorem Tryz.strconv_Itoa_small (i : Nat) (hi : i < 100) (w : World) :
 Calls Tryz.prog 151 #[.int .i64 i] w fun e w' => e = .returned (.string ⟨(Lib.decDigits i).toArray⟩) ∧ w' = w := Any.strconv_Itoa_small Tryz.lays171 i hi w
end Go.Proofs
namespace Go.Proofs.YtmkapobnfigedaaGreatDoor
open Go.RowKit Go.Shelf Go.Sort
instance : Inhabited PKey := ⟨⟨0, ⟨#[]⟩⟩⟩
theorem cb_trans : ∀ x y z : List UInt8, Lib.compareBytes x y < 0 → Lib.compareBytes y z < 0 → Lib.compareBytes x z < 0
 | [], [], z, h, _ => by simp [Lib.compareBytes] at h
 | [], _ :: _, [], _, h => by simp [Lib.compareBytes] at h
 | [], _ :: _, _ :: _, _, _ => by simp [Lib.compareBytes]
 | _ :: _, [], _, h, _ => by simp [Lib.compareBytes] at h
 | _ :: _, _ :: _, [], _, h => by simp [Lib.compareBytes] at h
 | a :: x, b :: y, c :: z, h1, h2 => by
   simp only [Lib.compareBytes] at h1 h2 ⊢; by_cases ab : a < b
   · by_cases bc : b < c
     · rw [if_pos (UInt8.lt_trans ab bc)]; decide
     · rw [if_neg bc] at h2; by_cases cb : c < b
       · rw [if_pos cb] at h2; exact absurd h2 (by decide)
       · have e : b = c := UInt8.le_antisymm (UInt8.not_lt.1 cb) (UInt8.not_lt.1 bc); subst e; rw [if_pos ab]; decide
   · rw [if_neg ab] at h1; by_cases ba : b < a
     · rw [if_pos ba] at h1; exact absurd h1 (by decide)
     · rw [if_neg ba] at h1; have e : a = b := UInt8.le_antisymm (UInt8.not_lt.1 ba) (UInt8.not_lt.1 ab); subst e; by_cases bc : a < c
       · rw [if_pos bc]; decide
       · rw [if_neg bc] at h2 ⊢; by_cases cb : c < a
         · rw [if_pos cb] at h2; exact absurd h2 (by decide)
         · rw [if_neg cb] at h2 ⊢; exact cb_trans x y z h1 h2
theorem cb_total : ∀ x y : List UInt8, Lib.compareBytes x y < 0 ∨ x = y ∨ Lib.compareBytes y x < 0
 | [], [] => .inr (.inl rfl)
 | [], _ :: _ => .inl (by simp [Lib.compareBytes])
 | _ :: _, [] => .inr (.inr (by simp [Lib.compareBytes]))
 | a :: x, b :: y => by
   simp only [Lib.compareBytes]; by_cases ab : a < b
   · refine .inl ?_; rw [if_pos ab]; decide
   by_cases ba : b < a
   · refine .inr (.inr ?_); rw [if_pos ba]; decide
   have e : a = b := UInt8.le_antisymm (UInt8.not_lt.1 ba) (UInt8.not_lt.1 ab); subst e; simp only [if_neg ab]; rcases cb_total x y with h | h | h
   · exact .inl h
   · exact .inr (.inl (by rw [h]))
   · exact .inr (.inr h)
theorem cb_irrefl : ∀ x : List UInt8, ¬ Lib.compareBytes x x < 0
 | [] => by simp [Lib.compareBytes]
 | a :: x => by
   simp only [Lib.compareBytes]; rw [if_neg (UInt8.lt_irrefl a), if_neg (UInt8.lt_irrefl a)]; exact cb_irrefl x
theorem cmpS_total (a b : ByteArray) : cmpS a b < 0 ∨ a = b ∨ cmpS b a < 0 := by
 rcases cb_total a.data.toList b.data.toList with h | h | h
 · exact .inl h
 · refine .inr (.inl ?_); rcases a with ⟨⟨l⟩⟩
   rcases b with ⟨⟨m⟩⟩
   cases h; rfl
 · exact .inr (.inr h)
def ltK (x y : PKey) : Bool := decide (x.num < y.num) || ((x.num == y.num) && decide (cmpS x.name y.name < 0))
theorem ltK_iff {x y : PKey} : ltK x y = true ↔ x.num < y.num ∨ (x.num = y.num ∧ cmpS x.name y.name < 0) := by
 unfold ltK
 simp
theorem ltOf_cmpK (x y : PKey) : ltOf cmpK x y = ltK x y := by
 unfold ltOf cmpK ltK cmpM
 by_cases h1 : x.num < y.num
 · simp [h1]
 · by_cases h2 : y.num < x.num
   · have h3 : ¬ x.num = y.num := by omega
     simp [h1, h2, h3]
   · have h3 : x.num = y.num := by omega
     simp [h3]
theorem ltK_irrefl (x : PKey) : ltK x x = false := by
 rw [Bool.eq_false_iff]
 intro h
 rcases ltK_iff.1 h with h | ⟨_, h⟩
 · omega
 · exact cb_irrefl _ h
theorem ltK_trans {x y z : PKey} (h1 : ltK x y = true) (h2 : ltK y z = true) : ltK x z = true := by
 rw [ltK_iff] at *
 rcases h1 with h1 | ⟨h1, g1⟩ <;> rcases h2 with h2 | ⟨h2, g2⟩
 · exact .inl (by omega)
 · exact .inl (by omega)
 · exact .inl (by omega)
 · exact .inr ⟨by omega, cb_trans _ _ _ g1 g2⟩
theorem ltK_total (x y : PKey) : ltK x y = true ∨ x = y ∨ ltK y x = true := by
 rw [ltK_iff, ltK_iff]
 by_cases h1 : x.num < y.num
 · exact .inl (.inl h1)
 by_cases h2 : y.num < x.num
 · exact .inr (.inr (.inl h2))
 have h3 : x.num = y.num := by omega
 rcases cmpS_total x.name y.name with h | h | h
 · exact .inl (.inr ⟨h3, h⟩)
 · refine .inr (.inl ?_); cases x; cases y; simp only at h h3; rw [h, h3]
 · exact .inr (.inr (.inr ⟨h3.symm, h⟩))
theorem swoK : SWO (ltOf cmpK) where
 irrefl x := by rw [ltOf_cmpK]; exact ltK_irrefl x
 trans x y z h1 h2 := by
  rw [ltOf_cmpK] at *; exact ltK_trans h1 h2
 ntrans x y z h1 h2 := by
  rw [ltOf_cmpK] at *; rw [Bool.eq_false_iff]; intro h; rcases ltK_total x y with h3 | h3 | h3
  · rw [h3] at h1; cases h1
  · subst h3; rw [h] at h2; cases h2
  · rw [ltK_trans h3 h] at h2; cases h2
theorem totK (x y : PKey) (h1 : ltOf cmpK x y = false) (h2 : ltOf cmpK y x = false) : x = y := by
 rw [ltOf_cmpK] at *
 rcases ltK_total x y with h | h | h
 · rw [h] at h1; cases h1
 · exact h
 · rw [h] at h2; cases h2
def sortK (ks : List PKey) : List PKey := ks.mergeSort fun x y => !ltK y x
theorem sortK_len (ks : List PKey) : (sortK ks).length = ks.length := by unfold sortK; exact List.length_mergeSort _
theorem isAgg61 (w : World) : (isAgg 61).run Tryz.prog w = .ok true w := by
 have h := Tryz.isAgg61
 first | exact h w | simp [isAgg, h]
theorem size61 (w : World) : (Go.sizeOf 61).run Tryz.prog w = .ok 2 w := by
 have h := Tryz.sizeOf61
 first | exact h w | simp [Go.sizeOf, h]
theorem flat_pk (ks : List PKey) (j : Nat) (hj : j < ks.length * 2) : (flatK PKey.cells 2 ks.toArray)[j]! = (match ks[j / 2]? with | some x => if j % 2 = 0 then Value.int .i64 x.num else .string x.name | none => undef) := by
 rw [get_flatK _ _ _ _ (by simpa using hj)]
 have hq : j / 2 < ks.length := by omega
 have e1 : ks.toArray[j / 2]! = ks[j / 2] := by simp [hq]
 rw [e1, List.getElem?_eq_getElem hq]
 simp only
 rcases Nat.mod_two_eq_zero_or_one j with h | h <;> rw [h] <;> rfl
theorem rowsIn_pk {arr : Array Value} {ks : List PKey} (h : RowsIn arr 2 (ks.map PKey.cells)) (j : Nat) (hj : j < ks.length * 2) : arr[j]? = some ((flatK PKey.cells 2 ks.toArray)[j]!) := by
 have hq : j / 2 < ks.length := by omega
 have e : j = j / 2 * 2 + j % 2 := by omega
 have h1 := h (j / 2) (ks[j / 2]).cells (by rw [List.getElem?_map, List.getElem?_eq_getElem hq]; rfl) (j % 2)
 rw [flat_pk ks j hj, List.getElem?_eq_getElem hq]
 simp only
 rcases Nat.mod_two_eq_zero_or_one j with hm | hm
 · rw [if_pos hm]; rw [hm] at h1; rw [← h1 _ rfl]
   congr 1
   omega
 · rw [if_neg (by omega)]; rw [hm] at h1; rw [← h1 _ rfl]
   congr 1
   omega
set_option maxRecDepth 100000 in
set_option maxHeartbeats 4000000 in
theorem sort75 (B g cap : Nat) (ks : List PKey) (w : World) (h : OwnP B w 61 2 (.slice (some ⟨g, 0, none⟩) ks.length cap) (ks.map PKey.cells)) (hlen : ks.length ≤ 1000000) :
 Calls Tryz.prog 75 #[.slice (some ⟨g, 0, none⟩) ks.length cap, .func (.func 76) #[] #[]] w fun e w' => e = .returned (.tuple #[]) ∧ OwnP B w' 61 2 (.slice (some ⟨g, 0, none⟩) ks.length cap) ((sortK ks).map PKey.cells) ∧ Keep (fun b => b = g) w w' := by
 rcases h with ⟨h1, h2⟩ | ⟨g', cap', arr, he, hB, hbk, hn, hcm, hsz, hrows⟩
 · simp at h1
 rw [List.length_map] at hn
 simp only [Value.slice.injEq, Option.some.injEq, Addr.mk.injEq, and_true, List.length_map] at he
 obtain ⟨rfl, -, rfl⟩ := he
 have hlt := hbk.lt.lt
 have hH : HoldsK PKey.cells 2 w g 0 ks.toArray := by
  intro j hj; rw [size_flatK] at hj; have hj2 : j < ks.length * 2 := by simpa using hj
  rw [Nat.zero_add, hbk.cell, hbk.frozen]; exact ⟨rowsIn_pk hrows j hj2, rfl⟩
 have hcon := AnyQ.slices_SortFunc_total Tryz.sort75 2 isAgg61 size61 PKey.cells (fun _ => rfl) (fun x v hv => pkey_one [x] x.cells (by simp) v hv) cmpK swoK 76 #[] g 0 cap ks.toArray w
  (enters_of Tryz.func76 (by kernel_rfl) rfl) (fun _ _ _ _ x y => closure76 x y _) hH hlt (by simp; omega) totK
 change Calls Tryz.prog 75 _ _ _ at hcon
 have e1 : (fun x y => !(ltOf cmpK) y x) = (fun x y => !ltK y x) := by funext x y; rw [ltOf_cmpK]
 rw [e1] at hcon
 refine hcon.mono ?_
 rintro e w' ⟨he, n, os, rfl⟩
 refine ⟨he, ?_, ?_⟩
 · refine .inr ⟨g, cap, putCells id 0 (flatK PKey.cells 2 (sortK ks).toArray) arr, by rw [List.length_map, sortK_len], hB, ?_, by rw [List.length_map, sortK_len]; exact hn, hcm, by simp [putCells, hsz], ?_⟩
   · unfold Blk at hbk ⊢; unfold sortWorldK putRowK putRow mapBlock Sort.ahead grow; simp only; rw [Array.getElem?_append_left (by simp; exact hlt), Array.getElem?_modify, if_pos rfl, hbk]; rfl
   · intro q cs hq t u hc; rw [List.getElem?_map] at hq; obtain ⟨x, hx, rfl⟩ := Option.map_eq_some_iff.1 hq; obtain ⟨hql, _⟩ := List.getElem?_eq_some_iff.1 hx; have ht : t < 2 := by
      obtain ⟨h, _⟩ := List.getElem?_eq_some_iff.1 hc; exact h
     have hsl := sortK_len ks; have hj : q * 2 + t < (sortK ks).length * 2 := by omega
     have hja : q * 2 + t < arr.size := by omega
     unfold putCells; rw [Array.getElem?_mapIdx, Array.getElem?_eq_getElem hja, Option.map_some]; rw [if_pos (by rw [size_flatK]; simp; omega), Nat.sub_zero, flat_pk _ _ hj, show (q * 2 + t) / 2 = q by omega, show (q * 2 + t) % 2 = t by omega, hx]; rcases t with _ | _ | t
     · cases hc; rfl
     · cases hc; rfl
     · omega
 · refine ⟨rfl, rfl, rfl, ?_, fun i hi hn => ?_⟩
   · unfold sortWorldK putRowK putRow mapBlock Sort.ahead grow; simp
   · unfold sortWorldK putRowK putRow mapBlock Sort.ahead grow; simp only; rw [Array.getElem?_append_left (by simp; exact hi), Array.getElem?_modify, if_neg (fun h => hn h.symm)]
end Go.Proofs.YtmkapobnfigedaaGreatDoor
namespace Go.Proofs.YtmkapobnfigedaaGreatDoor
open Go.RowKit
theorem fields61 : (Tryz.prog.fieldsOf 61).toList.map (fun f => (f.name, f.type, f.offset)) = [("Num", 3, 0), ("Name", 9, 1)] := by kernel_rfl
theorem held61 : Tryz.prog.stoodInHeld 61 = false := by kernel_rfl
theorem guard61 : Tryz.prog.eqGuardType Tryz.prog.depth 61 = false := by kernel_rfl
theorem under61 : Tryz.prog.underlying 61 = some (.struct (Tryz.prog.fieldsOf 61)) := by kernel_rfl
theorem key_eq (x y : PKey) : decide (x = y) = ((x.num == y.num) && (x.name.toList == y.name.toList)) := by
 rw [Bool.eq_iff_iff, decide_eq_true_iff, Bool.and_eq_true, beq_iff_eq, beq_iff_eq, ByteArray.toList_eq, ByteArray.toList_eq]
 constructor
 · intro h; subst h; exact ⟨rfl, rfl⟩
 · intro ⟨h1, h2⟩; rcases x with ⟨xn, ⟨⟨xs⟩⟩⟩
   rcases y with ⟨yn, ⟨⟨ys⟩⟩⟩
   simp only at h1 h2; subst h1; have h3 : xs = ys := h2; rw [h3]
theorem equal61 (x y : PKey) (w : World) : (Op.equalIn 10000 61 (.agg #[.int .i64 x.num, .string x.name]) (.agg #[.int .i64 y.num, .string y.name])).run Tryz.prog w = .ok (decide (x = y)) w := by
 rw [run_equalIn_agg w 9999 61 _ _ under61 held61, key_eq]
 have hf := fields61
 rcases hl : (Tryz.prog.fieldsOf 61).toList with _ | ⟨f1, _ | ⟨f2, _ | ⟨f3, r⟩⟩⟩
 · rw [hl] at hf; simp at hf
 · rw [hl] at hf; simp at hf
 · rw [hl] at hf; simp only [List.map_cons, List.map_nil, List.cons.injEq, Prod.mk.injEq, and_true] at hf; obtain ⟨⟨n1, t1, o1⟩, n2, t2, o2⟩ := hf; simp only [Op.eqFields]; rw [if_pos (by rw [n1]; decide), if_pos (by rw [n2]; decide), t1, t2, o1, o2]; have p1 : ∀ (k : PKey) w, (part 3 #[.int .i64 k.num, .string k.name] 0).run Tryz.prog w = .ok (.int .i64 k.num) w := fun k w => by
    have h3 := Tryz.sizeOf3 w; have h4 := Tryz.isAgg3 w; simp [part, go_sem, h3, h4]
   have p2 : ∀ (k : PKey) w, (part 9 #[.int .i64 k.num, .string k.name] 1).run Tryz.prog w = .ok (.string k.name) w := fun k w => by
    have h3 := Tryz.sizeOf9 w; have h4 := Tryz.isAgg9 w; simp [part, go_sem, h3, h4]
   simp only [Sem.run_bind, p1, p2, Result.andThen_ok, run_equalIn_int w 9998 3 .i64 .i64 _ _ Tryz.underlying3]; rcases h1 : (x.num == y.num) with _ | _
   · simp
   · simp only [Bool.not_true, Bool.false_eq_true, if_false, Sem.run_bind, p1, p2, Result.andThen_ok, run_equalIn_string w 9998 9 _ _ Tryz.underlying9]; rcases h2 : (x.name.toList == y.name.toList) with _ | _
     · simp
     · simp
 · rw [hl] at hf; simp at hf
theorem eql61 (x y : PKey) (w : World) : (binOp .eql 61 (.agg #[.int .i64 x.num, .string x.name]) (.agg #[.int .i64 y.num, .string y.name])).run Tryz.prog w = .ok (.bool (decide (x = y))) w := by
 rw [run_eql_struct, equal61]
 rfl
theorem neq61 (x y : PKey) (w : World) : (binOp .neq 61 (.agg #[.int .i64 x.num, .string x.name]) (.agg #[.int .i64 y.num, .string y.name])).run Tryz.prog w = .ok (.bool (!decide (x = y))) w := by
 rw [run_neq_struct, equal61]
 rfl
def ddFrom (p : PKey) : List PKey → List PKey
 | [] => []
 | y :: r => if y = p then ddFrom p r else y :: ddFrom y r
def dedupK : List PKey → List PKey
 | [] => []
 | x :: r => x :: ddFrom x r
theorem ddFrom_snoc : ∀ (r : List PKey) (p z : PKey), ddFrom p (r ++ [z]) = ddFrom p r ++ (if z = (p :: r).getLast (by simp) then [] else [z])
 | [], p, z => by
   simp only [List.nil_append, ddFrom, List.getLast_singleton]; rfl
 | y :: r, p, z => by
   simp only [List.cons_append, ddFrom]; rw [ddFrom_snoc r p z, ddFrom_snoc r y z]; have e1 : (p :: y :: r).getLast (by simp) = (y :: r).getLast (by simp) := List.getLast_cons _; by_cases h : y = p
   · subst h; rw [if_pos rfl, if_pos rfl, e1]
   · rw [if_neg h, if_neg h, e1]; rfl
theorem dedupK_snoc (l : List PKey) (m : Nat) (x y : PKey) (hx : l[m]? = some x) (hy : l[m + 1]? = some y) : dedupK (l.take (m + 2)) = dedupK (l.take (m + 1)) ++ (if y = x then [] else [y]) := by
 obtain ⟨hl, rfl⟩ := List.getElem?_eq_some_iff.1 hy
 obtain ⟨hl2, rfl⟩ := List.getElem?_eq_some_iff.1 hx
 rw [List.take_succ_eq_append_getElem (by omega)]
 rcases l with _ | ⟨a, r⟩
 · simp at hl
 rw [List.take_succ_cons, List.cons_append]
 simp only [dedupK]
 rw [ddFrom_snoc, List.cons_append]
 congr 3
 have : (a :: r.take m).getLast (by simp) = (a :: r)[m] := by
  rw [List.getLast_eq_getElem]; simp only [List.length_cons, List.length_take]; have e : min m r.length = m := by simp at hl; omega
  rcases m with _ | m
  · simp
  · simp [e]
 rw [this]
end Go.Proofs.YtmkapobnfigedaaGreatDoor
namespace Go.Proofs.YtmkapobnfigedaaGreatDoor
open Go.RowKit
theorem zeroV61 (w : World) : (zeroValue 61).run Tryz.prog w = .ok (.agg #[.int .i64 0, .string { data := #[] }]) w := by kernel_rfl
set_option maxRecDepth 100000 in
set_option maxHeartbeats 8000000 in
theorem compact80 (B g cap : Nat) (ks : List PKey) (w : World) (h : OwnP B w 61 2 (.slice (some ⟨g, 0, none⟩) ks.length cap) (ks.map PKey.cells)) (hlen : ks.length ≤ 1000000) :
 Calls Tryz.prog 80 #[.slice (some ⟨g, 0, none⟩) ks.length cap] w fun e w' => e = .returned (.slice (some ⟨g, 0, none⟩) (dedupK ks).length cap) ∧ OwnP B w' 61 2 (.slice (some ⟨g, 0, none⟩) (dedupK ks).length cap) ((dedupK ks).map PKey.cells) ∧ Keep (fun b => b = g) w w' := by
 have HO := Lib.hid h
 rcases h with ⟨h1, h2⟩ | ⟨g', cap', arr, he, hB, hbk, hn, hcm, hsz, hrows⟩
 · simp at h1
 rw [List.length_map] at hn
 simp only [Value.slice.injEq, Option.some.injEq, Addr.mk.injEq, and_true, List.length_map] at he
 obtain ⟨rfl, -, rfl⟩ := he
 have iG := hbk.lt
 have hat : ∀ (wr : World) (q : Nat) (x : PKey), Below w.heap.size w wr → ks[q]? = some x → wr.cell? ⟨g, q * 2, none⟩ = some (.int .i64 x.num) ∧ wr.cell? ⟨g, q * 2 + 1, none⟩ = some (.string x.name) := fun wr q x hb hx => by
  have hbk := hbk.below hb hbk.lt.lt; rw [hbk.cell, hbk.cell]; have h1 := hrows q x.cells (by rw [List.getElem?_map, hx]; rfl); exact ⟨h1 0 _ rfl, h1 1 _ rfl⟩
 have HA := Lib.hid hat
 have HB := Lib.hid (And.intro hbk (And.intro hsz hrows))
 have ncI : (ks.length : Int) ≤ cap := by omega
 have HC := Lib.hid hcm
 clear hat hbk hsz hrows hcm
 by_cases h2 : ks.length < 2
 · have e : dedupK ks = ks := by
    rcases ks with _ | ⟨a, _ | ⟨b, r⟩⟩
    · rfl
    · rfl
    · simp at h2; omega
   rw [e]; have h2I : (ks.length : Int) < 2 := by omega
   go_enter Tryz.func80, Tryz.ntmps80
   go_wp2_with fail; go_ret; exact ⟨rfl, HO.out, Keep.refl _ _⟩
 have h2I : ¬ (ks.length : Int) < 2 := by omega
 go_enter Tryz.func80, Tryz.ntmps80
 go_wp2_with fail
 go_loopw [3] (fun vi wr => Below w.heap.size w wr ∧ ∃ k : Nat, vi = .int .i64 k ∧ 1 ≤ k ∧ k ≤ ks.length ∧ dedupK (ks.take k) = ks.take k) (fun vi _ => (ks.length - intOf vi).toNat)
 case atStart => exact ⟨bel _ _, 1, rfl, by omega, by omega, by
  rcases ks with _ | ⟨a, r⟩
  · rfl
  · rfl⟩
 case round =>
  obtain ⟨hbr, k, rfl, hk1, hkn, hdd⟩ := hrel; have iB : Bel w wr := ⟨hbr⟩
  have iGr : BlockLt g wr := ⟨by have := iG.lt; have := hbr.size; omega⟩
  obtain ⟨m, rfl⟩ : ∃ m, k = m + 1 := ⟨k - 1, by omega⟩
  have HD := Lib.hid hdd; clear hdd; by_cases hlt : m + 1 < ks.length
  · obtain ⟨y, hy⟩ : ∃ y, ks[m + 1]? = some y := ⟨_, List.getElem?_eq_getElem hlt⟩
    obtain ⟨x, hx⟩ : ∃ x, ks[m]? = some x := ⟨_, List.getElem?_eq_getElem (by omega)⟩
    obtain ⟨y0, y1⟩ := HA.out wr _ _ hbr hy; obtain ⟨x0, x1⟩ := HA.out wr _ _ hbr hx; have HS := Lib.hid (dedupK_snoc ks m x y hx hy); have eI : ((m + 1 : Nat) : Int) = (m : Int) + 1 := by omega
    have hltI : (m : Int) + 1 < ks.length := by omega
    have eb : (m : Int) + 1 - 1 = m := by omega
    have g0 : (0 : Int) ≤ (m : Int) + 1 := by omega
    have g1 : (m : Int) < ks.length := by omega
    have ew : IntKind.i64.wrap (m : Int) = m := I64.wrap (by unfold I64; omega); have HY := Lib.hid hy; clear hx hy; rw [eI]; have q0 := guard61; have q1 := fun w => eql61 y x w
    rcases hyx : decide (y = x) with _ | _
    · rw [hyx] at q1; have hne : ¬ y = x := of_decide_eq_false hyx; have HN := Lib.hid hne; clear hyx hne; go_wp2_with fail; refine wp_region_quiet_rest (by kernel_rfl) (by kernel_rfl) (WQ.out ?_)
      repeat
       refine WQ_step (fun K hK => ?_); go_simp
       first
        | (refine hK _ ?_; clear hK K)
        | (apply Exists.intro
           refine ⟨fun _ => ?_, hK _ ?_⟩
           focus (fail)
           clear hK K)
      refine WQ_nil ?_; intro w1 hw1; obtain ⟨p, hw1⟩ := hw1; subst hw1; go_wp2_with fail
      go_roundw
      case rel => exact ⟨(bel w wr).trans (bel wr _ |>.mono hbr.size), m + 2, by go_num, by omega, by omega, by
       have h1 := HS.out; rw [if_neg HN.out, HD.out] at h1; rw [h1, show m + 1 + 1 = m + 2 by omega, List.take_succ_eq_append_getElem (show m + 1 < ks.length by omega)]
       congr 2
       have := HY.out; rw [List.getElem?_eq_getElem (show m + 1 < ks.length by omega)] at this; exact (Option.some.inj this).symm⟩
      case measure => simp [intOf]; omega
    · rw [hyx] at q1; have hne : y = x := of_decide_eq_true hyx; have HN := Lib.hid hne; clear hyx hne; go_wp2_with fail; refine wp_region_quiet_rest (by kernel_rfl) (by kernel_rfl) (WQ.out ?_)
      repeat
       refine WQ_step (fun K hK => ?_); go_simp
       first
        | (refine hK _ ?_; clear hK K)
        | (apply Exists.intro
           refine ⟨fun _ => ?_, hK _ ?_⟩
           focus (fail)
           clear hK K)
      refine WQ_nil ?_; intro w1 hw1; obtain ⟨p, hw1⟩ := hw1; subst hw1; have bcap : ¬ cap = m + 1 := by omega
      have b3 : m + 1 ≤ ks.length := by omega
      have b4 : (m : Int) + 1 ≤ ks.length := by omega
      have b5 : (m : Int) + 1 ≤ cap := by omega
      have b6 : m + 1 ≤ cap := by omega
      have hk0 : Keep (fun b => b = g) w (wr.junk p) := Keep.of_below ((bel w (wr.junk p))) _; have hb0 : Blk (wr.junk p) g arr 61 := (HB.out.1.below hbr iG.lt).junk p; have hd0 : dedupK (ks.take (m + 2)) = ks.take (m + 1) := by
       have h1 := HS.out; rw [if_pos HN.out, HD.out, List.append_nil] at h1; exact h1
      have H0 := Lib.hid (And.intro hk0 (And.intro hb0 hd0)); clear hk0 hb0 hd0
      go_upto_region 8 with fail
      refine abs_world (F := fun wA => Keep (fun b => b = g) w wA ∧ Blk wA g arr 61) ⟨H0.out.1, H0.out.2.1⟩ ?_; rintro wA ⟨hkA, hbA⟩; have HA2 := Lib.hid (And.intro hkA hbA); clear hkA hbA y0 y1 x0 x1; go_wp2_with fail
      go_loopw [3, 5] (fun vk vj wr => Keep (fun b => b = g) w wr ∧ ∃ (i kk : Nat) (arr' : Array Value), vk = .int .i64 kk ∧ vj = .int .i64 ((i + 1 : Nat) : Int) ∧ m + 1 + (i + 1) ≤ ks.length ∧ kk ≤ m + (i + 1) ∧ (dedupK (ks.take (m + 1 + (i + 1)))).length = kk ∧ Blk wr g arr' 61 ∧ arr'.size = cap * 2 ∧ RowsIn arr' 2 ((dedupK (ks.take (m + 1 + (i + 1)))).map PKey.cells) ∧ ∀ (q : Nat) (x : PKey), m + 1 + i ≤ q → ks[q]? = some x → arr'[q * 2]? = some (.int .i64 x.num) ∧ arr'[q * 2 + 1]? = some (.string x.name)) (fun _ vj _ => (ks.length - intOf vj).toNat)
      case atStart =>
       have hrw : ∀ (q : Nat) (x : PKey), ks[q]? = some x → arr[q * 2]? = some (.int .i64 x.num) ∧ arr[q * 2 + 1]? = some (.string x.name) := fun q x hx => by
        have h1 := HB.out.2.2 q x.cells (by rw [List.getElem?_map, hx]; rfl); exact ⟨h1 0 _ rfl, h1 1 _ rfl⟩
       refine ⟨HA2.out.1, 0, m + 1, arr, by rfl, rfl, by omega, by omega, ?_, HA2.out.2, HB.out.2.1, ?_, fun q x _ hx => hrw q x hx⟩
       · rw [H0.out.2.2, List.length_take]; omega
       · rw [H0.out.2.2]; intro q cs hq t u hc; refine HB.out.2.2 q cs ?_ t u hc; rw [List.getElem?_map, List.getElem?_take] at hq
         split at hq
         · rw [List.getElem?_map]; exact hq
         · cases hq
      case round =>
       obtain ⟨hkr, i, kk, arr', rfl, rfl, hin, hkk, hdl, hbr', hsr, hrr, hfr⟩ := hrel; have iGr := hbr'.lt; obtain ⟨D, hD⟩ : ∃ D, dedupK (ks.take (m + 1 + (i + 1))) = D := ⟨_, rfl⟩
       rw [hD] at hdl hrr; have nk1 : kk ≤ ks.length := by omega
       have nk2 : kk ≤ cap := by omega
       have nk3 : (kk : Int) ≤ ks.length := by omega
       have nk4 : (kk : Int) ≤ cap := by omega
       have nk5 : ¬ cap = kk := by omega
       have nk6 : (kk : Int) < ks.length := by omega
       have nk7 : kk < ks.length := by omega
       have ew2 : IntKind.i64.wrap (i : Int) = i := I64.wrap (by unfold I64; omega); have ew3 : IntKind.i64.wrap ((kk : Int) + 1) = (kk : Int) + 1 := I64.wrap (by unfold I64; omega); have ew4 : IntKind.i64.wrap ((i : Int) + 1 + 1) = (i : Int) + 1 + 1 := I64.wrap (by unfold I64; omega); have HK := Lib.hid (And.intro hkr (And.intro hbr' (And.intro hsr (And.intro hrr (And.intro hfr (And.intro hdl hD)))))); by_cases hlj : m + 1 + (i + 1) < ks.length
       · obtain ⟨y2, hy2⟩ : ∃ y, ks[m + 1 + (i + 1)]? = some y := ⟨_, List.getElem?_eq_getElem hlj⟩
         obtain ⟨x2, hx2⟩ : ∃ x, ks[m + 1 + i]? = some x := ⟨_, List.getElem?_eq_getElem (by omega)⟩
         have c0 : wr.cell? ⟨g, (m + 1) * 2 + (i + 1) * 2, none⟩ = some (.int .i64 y2.num) := by
          rw [hbr'.cell, ← (hfr _ _ (by omega) hy2).1]; congr 1; omega
         have c1 : wr.cell? ⟨g, (m + 1) * 2 + (i + 1) * 2 + 1, none⟩ = some (.string y2.name) := by
          rw [hbr'.cell, ← (hfr _ _ (by omega) hy2).2]; congr 1; omega
         have d0 : wr.cell? ⟨g, (m + 1) * 2 + i * 2, none⟩ = some (.int .i64 x2.num) := by
          rw [hbr'.cell, ← (hfr _ _ (by omega) hx2).1]; congr 1; omega
         have d1 : wr.cell? ⟨g, (m + 1) * 2 + i * 2 + 1, none⟩ = some (.string x2.name) := by
          rw [hbr'.cell, ← (hfr _ _ (by omega) hx2).2]; congr 1; omega
         obtain ⟨u0, e0⟩ : ∃ u, wr.cell? ⟨g, kk * 2, none⟩ = some u := ⟨_, by rw [hbr'.cell]; exact Array.getElem?_eq_getElem (by omega)⟩
         obtain ⟨u1, e1⟩ : ∃ u, wr.cell? ⟨g, kk * 2 + 1, none⟩ = some u := ⟨_, by rw [hbr'.cell]; exact Array.getElem?_eq_getElem (by omega)⟩
         have HS2 := Lib.hid (dedupK_snoc ks (m + 1 + i) x2 y2 hx2 (by rw [← hy2]; rfl)); have hljI : (i : Int) + 1 < ((ks.length - (m + 1) : Nat) : Int) := by omega
         have hljI2 : (i : Int) < ((ks.length - (m + 1) : Nat) : Int) := by omega
         have g3 : (0 : Int) ≤ (i : Int) + 1 := by omega
         have q2 := fun w => neq61 y2 x2 w
         have fz : wr.frozen? ⟨g, kk * 2, none⟩ = false := hbr'.frozen _; have fz1 : wr.frozen? ⟨g, kk * 2 + 1, none⟩ = false := hbr'.frozen _; have HY2 := Lib.hid (And.intro hy2 hx2); clear hkr hbr' hsr hrr hfr hdl hD hy2 hx2; rcases hyx2 : decide (y2 = x2) with _ | _
         · rw [hyx2] at q2; have HN2 := Lib.hid (of_decide_eq_false hyx2); clear hyx2; go_wp2_with fail; refine wp_region_quiet_rest (by kernel_rfl) (by kernel_rfl) (WQ.out ?_)
           repeat
            refine WQ_step (fun K hK => ?_); go_simp
            first
             | (refine hK _ ?_; clear hK K)
             | (apply Exists.intro
                refine ⟨fun _ => ?_, hK _ ?_⟩
                focus (fail)
                clear hK K)
           refine WQ_nil ?_; intro w1 hw1; obtain ⟨p, hw1⟩ := hw1; subst hw1; go_wp2_with fail; have hke := ((HK.out.1.setCell (p := ⟨g, kk * 2, none⟩) (.inl rfl) (.int .i64 y2.num)).setCell (p := ⟨g, kk * 2 + 1, none⟩) (.inl rfl) (.string y2.name)).junk p; have hbe := ((HK.out.2.1.set_ (kk * 2) (.int .i64 y2.num)).set_ (kk * 2 + 1) (.string y2.name)).junk p; have HE := Lib.hid (And.intro hke hbe); clear hke hbe
           go_roundw
           case rel =>
            obtain ⟨-, -, hsr, hrr, hfr, hdl, hD⟩ := HK.out; have hD2 : dedupK (ks.take (m + 1 + (i + 1 + 1))) = D ++ [y2] := by
             have h1 := HS2.out; rw [if_neg HN2.out, show m + 1 + i + 1 = m + 1 + (i + 1) by omega, hD] at h1; exact h1
            refine ⟨HE.out.1, i + 1, kk + 1, _, by go_num, by go_num, by omega, by omega, ?_, HE.out.2, by rw [Array.size_setIfInBounds, Array.size_setIfInBounds]; exact hsr, ?_, ?_⟩
            · rw [hD2, List.length_append, hdl]; rfl
            · rw [hD2]; intro q cs hq t u hc; have ht : t < 2 := by
               rw [List.getElem?_map] at hq; obtain ⟨z, _, rfl⟩ := Option.map_eq_some_iff.1 hq; obtain ⟨h, _⟩ := List.getElem?_eq_some_iff.1 hc; exact h
              rw [List.map_append] at hq; by_cases hql : q < kk
              · rw [List.getElem?_append_left (by rw [List.length_map]; omega)] at hq; rw [Array.getElem?_setIfInBounds, if_neg (by omega), Array.getElem?_setIfInBounds, if_neg (by omega)]; exact hrr q cs hq t u hc
              · have hqe : q = kk := by
                 obtain ⟨h, _⟩ := List.getElem?_eq_some_iff.1 hq; simp at h; omega
                subst hqe; rw [List.getElem?_append_right (by rw [List.length_map]; omega), List.length_map, hdl, Nat.sub_self] at hq; cases hq; rcases t with _ | _ | t
                · cases hc; rw [Array.getElem?_setIfInBounds, if_neg (by omega), Array.getElem?_setIfInBounds, if_pos (by omega), if_pos (by omega)]
                · cases hc; rw [Array.getElem?_setIfInBounds, if_pos rfl, if_pos (by simp; omega)]
                · omega
            · intro q z hq hz; rw [Array.getElem?_setIfInBounds, if_neg (by omega), Array.getElem?_setIfInBounds, if_neg (by omega), Array.getElem?_setIfInBounds, if_neg (by omega), Array.getElem?_setIfInBounds, if_neg (by omega)]; exact hfr q z (by omega) hz
           case measure => simp [intOf]; omega
         · rw [hyx2] at q2; have HN2 := Lib.hid (of_decide_eq_true hyx2); clear hyx2; go_wp2_with fail; refine wp_region_quiet_rest (by kernel_rfl) (by kernel_rfl) (WQ.out ?_)
           repeat
            refine WQ_step (fun K hK => ?_); go_simp
            first
             | (refine hK _ ?_; clear hK K)
             | (apply Exists.intro
                refine ⟨fun _ => ?_, hK _ ?_⟩
                focus (fail)
                clear hK K)
           refine WQ_nil ?_; intro w1 hw1; obtain ⟨p, hw1⟩ := hw1; subst hw1; go_wp2_with fail; have hke := HK.out.1.junk p; have hbe := HK.out.2.1.junk p; have HE := Lib.hid (And.intro hke hbe); clear hke hbe
           go_roundw
           case rel =>
            obtain ⟨-, -, hsr, hrr, hfr, hdl, hD⟩ := HK.out; have hD2 : dedupK (ks.take (m + 1 + (i + 1 + 1))) = D := by
             have h1 := HS2.out; rw [if_pos HN2.out, show m + 1 + i + 1 = m + 1 + (i + 1) by omega, hD, List.append_nil] at h1; exact h1
            exact ⟨HE.out.1, i + 1, kk, arr', by go_num, by go_num, by omega, by omega, by rw [hD2]; exact hdl, HE.out.2, hsr, by rw [hD2]; exact hrr, fun q z hq hz => hfr q z (by omega) hz⟩
           case measure => simp [intOf]; omega
       · have hie : m + 1 + (i + 1) = ks.length := by omega
         have hDD : D = dedupK ks := by
          rw [← hD, List.take_of_length_le (by omega)]
         have hljI : ¬ (i : Int) + 1 < ((ks.length - (m + 1) : Nat) : Int) := by omega
         obtain ⟨zs, hzs⟩ : ∃ zs, (Builtin.zeroCells (.agg #[.int .i64 0, .string { data := #[] }] : Value).cells (ks.length - kk)).toList = zs := ⟨_, rfl⟩
         have hzl : zs.length = (ks.length - kk) * 2 := by
          rw [← hzs]; simp [Builtin.zeroCells]; rfl
         have hclr : ∀ c2 ty, (Builtin.clear_ #[29] ty #[.slice (some ⟨g, kk * 2, none⟩) (ks.length - kk) c2]).run Tryz.prog wr = .ok (.tuple #[]) (wr.setCells g (kk * 2) zs) := fun c2 ty => by
          rw [← hzs]; refine run_clear_wide wr 29 61 ty (.agg #[.int .i64 0, .string { data := #[] }]) Tryz.underlying29 zeroV61 (by decide) g (kk * 2) (ks.length - kk) c2 (by omega) (fun j hj => ?_) (fun j hj => hbr'.frozen _); rw [hzs, hzl] at hj; rw [hbr'.cell]; simp; omega
         obtain ⟨arr3, hb3, hs3, hout3, -⟩ := Blk.setCells_at g 61 zs (kk * 2) wr arr' hbr' (by omega); have hk3 : Keep (fun k => k = g) w (wr.setCells g (kk * 2) zs) := Keep.setCells (S := fun k => k = g) rfl zs _ hkr; obtain ⟨w3, hw3⟩ : ∃ w3, wr.setCells g (kk * 2) zs = w3 := ⟨_, rfl⟩
         simp only [hw3] at hclr hb3 hk3; have hfin : OwnP B w3 61 2 (.slice (some ⟨g, 0, none⟩) (dedupK ks).length cap) ((dedupK ks).map PKey.cells) := by
          refine .inr ⟨g, cap, arr3, by rw [List.length_map], hB, hb3, by rw [List.length_map, ← hDD, hdl]; omega, HC.out, by omega, ?_⟩; rw [← hDD]; intro q cs hq t u hc; have hq2 := hq; rw [List.getElem?_map] at hq; obtain ⟨z, hz, rfl⟩ := Option.map_eq_some_iff.1 hq; obtain ⟨hql, _⟩ := List.getElem?_eq_some_iff.1 hz; have ht : t < 2 := by
           obtain ⟨h, _⟩ := List.getElem?_eq_some_iff.1 hc; exact h
          rw [hout3 _ (.inl (by omega))]; exact hrr q _ hq2 t u hc
         have hkl : kk = (dedupK ks).length := by rw [← hDD, hdl]
         have HF := Lib.hid (And.intro hfin (And.intro hk3 hkl)); clear hkr hbr' hsr hrr hfr hdl hD hfin hk3 hout3 hb3 hs3 hw3 hzl hzs hkl hDD; go_wp2_with fail; go_ret; refine ⟨?_, HF.out.1, HF.out.2.1⟩; rw [HF.out.2.2]; rfl
  · have hR : dedupK ks = ks := by
     have := HD.out; rw [List.take_of_length_le (by omega)] at this; exact this
    have hltI : ¬ (m : Int) + 1 < ks.length := by omega
    have eI : ((m + 1 : Nat) : Int) = (m : Int) + 1 := by omega
    rw [eI]; have HRR := Lib.hid hR; clear hR; go_wp2_with fail; go_ret; rw [HRR.out]; exact ⟨rfl, OwnP.keep HO.out (Keep.of_below hbr (fun b => False)) (fun _ _ h => h), Keep.of_below hbr _⟩
end Go.Proofs.YtmkapobnfigedaaGreatDoor
namespace Go.Proofs.YtmkapobnfigedaaGreatDoor
set_option maxRecDepth 100000
open Go.RowKit Go.ChangeShapes Go.WideShapes Go.Deep Go.Joins
section
variable {H : Type} {enc : TypeId × Value → H} {W : World} {base : Nat} {sp : Nat → Bool} {hd : Bool}
theorem open_introw {fuel : Nat} {cs : List Value} {y : DataW H × List MemPlace} (h : DataW.trod enc Tryz.prog W base sp hd fuel 24 cs = some y) : ∃ (v : Value) (zs : List Int), cs = [v] ∧ RowAt W 1 v (zs.map intCells) ∧ (∀ z ∈ zs, I64 z) ∧ zs.length ≤ Rows.uptoBulk y.1 := by
 exact open_row Tryz.underlying24 cellsOf_3 (by decide) intCells (fun _ => I64) (fun _ _ _ _ h => h) (fun _ => rfl) (fun _ _ _ h => by
  obtain ⟨a, e0, _, w0⟩ := DataW.trod_int Tryz.underlying3 h; exact ⟨a, e0, i64_wf w0⟩) h
end
end Go.Proofs.YtmkapobnfigedaaGreatDoor
namespace Go.Proofs.YtmkapobnfigedaaGreatDoor
set_option maxRecDepth 100000
open Go.RowKit Go.ChangeShapes Go.WideShapes Go.Deep Go.Joins
section
variable {H : Type} {enc : TypeId × Value → H} {W : World} {base : Nat} {sp : Nat → Bool} {hd : Bool}
theorem open_callb {fuel : Nat} {cs : List Value} {y : DataW H × List MemPlace} (h : DataW.trod enc Tryz.prog W base sp hd fuel 28 cs = some y) : ∃ x : PCall, cs = x.cells ∧ x.wf ∧ x.path.size ≤ maxLen ∧ x.path2.size ≤ maxLen ∧ x.data.size ≤ maxLen ∧ x.data.size ≤ Rows.uptoBulk y.1 := by
 obtain ⟨k, c, f, o, n, p, q, d, e, ⟨g0, g1, g2, g3, g4⟩, g5, g6, g7⟩ := open_call h
 refine ⟨⟨k, c, f, o, n, p, q, d⟩, e, ⟨g0, g1, g2, g3, g4⟩, g5, g6, g7, ?_⟩
 obtain ⟨xs, m, _, ey, hl, hxs, hf⟩ := DataW.trod_struct Tryz.underlying28 h
 have h7 : DataW.trod enc Tryz.prog W base sp hd m 9 ((cs.drop 7).take (Tryz.prog.cellsOf 9)) = xs[7]? := hf 7 _ rfl
 subst e
 rw [cellsOf_9] at h7
 match xs, hxs with
 | [y0, y1, y2, y3, y4, y5, y6, y7], _ =>
   simp only [List.drop, List.take, List.getElem?_cons_zero, List.getElem?_cons_succ] at h7; obtain ⟨s, e7, ey7, _⟩ := DataW.trod_string Tryz.underlying9 h7; simp only [List.cons.injEq, and_true, Value.string.injEq] at e7; subst e7; have hb : Rows.uptoBulk y7.1 ≤ Rows.uptoBulk y.1 := by rw [ey]; exact bulk_agg (by simp)
   have h1 : d.size + 1 = Rows.uptoBulk y7.1 := by rw [ey7]; simp only [Rows.uptoBulk]; rfl
   show d.size ≤ _; omega
theorem open_callsb {fuel : Nat} {cs : List Value} {y : DataW H × List MemPlace} (h : DataW.trod enc Tryz.prog W base sp hd fuel 38 cs = some y) : ∃ (v : Value) (zs : List PCall), cs = [v] ∧ RowAt W 8 v (zs.map PCall.cells) ∧ (∀ z ∈ zs, z.wf ∧ z.path.size ≤ maxLen ∧ z.path2.size ≤ maxLen ∧ z.data.size ≤ maxLen ∧ z.data.size ≤ Rows.uptoBulk y.1) ∧ zs.length ≤ Rows.uptoBulk y.1 := by
 exact open_row Tryz.underlying38 cellsOf_29 (by decide) PCall.cells (fun n z => z.wf ∧ z.path.size ≤ maxLen ∧ z.path2.size ≤ maxLen ∧ z.data.size ≤ maxLen ∧ z.data.size ≤ n) (fun m n x hmn h => ⟨h.1, h.2.1, h.2.2.1, h.2.2.2.1, Nat.le_trans h.2.2.2.2 hmn⟩) (fun _ => rfl) (fun _ _ _ h => by
  obtain ⟨x, e, h0, h1, h2, h3, h4⟩ := open_callb h; exact ⟨x, e, h0, h1, h2, h3, h4⟩) h
end
end Go.Proofs.YtmkapobnfigedaaGreatDoor
