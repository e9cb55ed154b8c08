/- Part of the proof of a law of chapter 15. Conditions: none. -/
import Derived.Test.YtmkapobnfigedaaGreatDoorDp16
import Derived.Lib.ItoaLen
import Derived.Shelf.SlSortCmp.NoneTotal
import Derived.Shelf.SlGeneric
import Derived.Laws.StructEq
set_option linter.unusedVariables false
set_option linter.unusedSimpArgs false
set_option maxRecDepth 100000
set_option maxHeartbeats 8000000
namespace Go.Proofs.YtmkapobnfigedaaGreatDoor
open Go.RowKit
def dirAt (S : PSt) (k : Int) : Bool := match S.ins[k.toNat]? with | some x => x.dir | none => false
def badD (S : PSt) (d : PDesc) : Bool := decide (d.core < 0) || (decide ((S.made.length : Int) ≤ d.core) || (decide (d.fd < 0) || (decide (4 ≤ d.fd) || (decide (atR S d.num < 0) || dirAt S (atR S d.num)))))
def prevDR (o : Option PDesc) (d : PDesc) : Bool := match o with | some o => decide (d.core < o.core) || ((o.core == d.core) && decide (d.fd ≤ o.fd)) | none => false
def openL (S : PSt) : Option PDesc → List PDesc → Bool
 | _, [] => true
 | o, d :: r => if badD S d = true then false else if prevDR o d = true then false else openL S (some d) r
def openR (S : PSt) : Bool := openL S none S.op
def prevDOf (es : List PDesc) (q : Nat) : Option PDesc := if q = 0 then none else es[q - 1]?
theorem open27 (S : PSt) (iv ov mv : Value) (w : World) (h : StRead w iv ov mv S) (hwf : S.wf) :
 Calls Tryz.prog 58 #[.agg #[iv, ov, mv]] w fun e w' => e = .returned (.bool (openR S)) ∧ Below w.heap.size w w' := by
 have hA0 : ∀ n ww, Below w.heap.size w ww → Calls Tryz.prog 85 #[.agg #[iv, ov, mv], .int .i64 n] ww fun e w' => e = .returned (.int .i64 (atR S n)) ∧ Below ww.heap.size ww w' := fun n ww hb => at51 S iv ov mv n ww (h.below hb (Nat.le_refl _)) hwf.1
 obtain ⟨ai, ni, ci, ao, no, co, am, nm, cm, rfl, rfl, rfl⟩ := h.slices
 obtain ⟨a, cap, e1, hat⟩ := h.1.at_
 rw [lM] at e1
 cases e1
 obtain ⟨a, cap, e1, hai⟩ := h.ins_at2
 cases e1
 obtain ⟨a, cap, e1, -⟩ := h.2.1.at_
 rw [lM] at e1
 cases e1
 have HA := Lib.hid hat
 have HI := Lib.hid hai
 have HWF := Lib.hid hwf
 have hol := hwf.2.1
 have hml := hwf.2.2.1
 clear hat h hai hwf
 obtain ⟨R, hR⟩ : ∃ R, openR S = R := ⟨_, rfl⟩
 rw [hR]
 unfold openR at hR
 have HR := Lib.hid hR
 clear hR
 go_enter Tryz.func58, Tryz.ntmps58
 go_wp2_with fail
 go_loopw [3] (fun i wr => ∃ (q : Nat), i = .int .i64 q ∧ q ≤ S.op.length ∧ openL S (prevDOf S.op q) (S.op.drop q) = R ∧ Below w.heap.size w wr ∧ Blk wr w.heap.size #[.slice ai S.ins.length ci, .slice ao S.op.length co, .slice am S.made.length cm] 26) (fun i _ => (S.op.length - intOf i).toNat)
 case atStart => exact ⟨0, rfl, by omega, HR.out, bel _ _, Blk.new w _ 26⟩
 case round =>
  obtain ⟨q, rfl, hq, hre, hb, hblk⟩ := hrel; have iB : Bel w wr := ⟨hb⟩
  have iL := hblk.lt; have s0 := hblk.cell 0; have s1 := hblk.cell 1; have s2 := hblk.cell 2; simp at s0 s1 s2; have HB := Lib.hid hblk; clear hblk; by_cases hlt : q < S.op.length
  · obtain ⟨z, hz⟩ : ∃ z, S.op[q]? = some z := ⟨_, gE hlt⟩
    obtain ⟨b, off, rfl, iG0, iG, hc⟩ := HA.out wr hb q z.cells (by rw [gM, hz]; rfl); have c0 := hc 0 _ rfl; have c1 := hc 1 _ rfl; have c2 := hc 2 _ rfl; rw [Nat.add_zero] at c0; rw [drop_at hz, openL] at hre; have hprev : (q = 0 ∧ prevDOf S.op q = none) ∨ ∃ (k : Nat) (y : PDesc), q = k + 1 ∧ S.op[k]? = some y ∧ prevDOf S.op q = some y ∧ wr.cell? ⟨b, off + k * 3, none⟩ = some (.int .i64 y.core) ∧ wr.cell? ⟨b, off + k * 3 + 1, none⟩ = some (.int .i64 y.fd) ∧ wr.cell? ⟨b, off + k * 3 + 2, none⟩ = some (.int .i64 y.num) := by
     by_cases hq0 : q = 0
     · exact .inl ⟨hq0, by simp [prevDOf, hq0]⟩
     · obtain ⟨k, rfl⟩ : ∃ k, q = k + 1 := ⟨q - 1, by omega⟩
       obtain ⟨y, hy⟩ : ∃ y, S.op[k]? = some y := ⟨_, gE (by omega)⟩
       obtain ⟨b2, off2, he2, _, _, hc2⟩ := HA.out wr hb k y.cells (by rw [gM, hy]; rfl); cases he2; exact .inr ⟨k, y, rfl, hy, by simp [prevDOf, hy], hc2 0 _ rfl, hc2 1 _ rfl, hc2 2 _ rfl⟩
    have hnext : prevDOf S.op (q + 1) = some z := by simp [prevDOf, hz]
    have HN := Lib.hid (And.intro hnext hprev); have hA := fun ww hb => hA0 z.num ww hb
    have hab := atR_bounds S z.num; clear hc hnext hprev hA0; unfold badD at hre; generalize atR S z.num = K at hre hA hab; have HRE := Lib.hid hre; clear hre hz; by_cases k1 : z.core < 0
    · obtain rfl : R = false := by have := HRE.out; simpa [k1] using this.symm
      clear HN; go_wp2_with (go_at_call 85; refine aT (hA _ (bel _ _)) fun pj => ?_)
      exact bodyPost_ret (v := .bool false) (by simp [results, Tryz.results58, go_sem]) rfl ⟨rfl, bel _ _⟩
    by_cases k2 : (S.made.length : Int) ≤ z.core
    · obtain rfl : R = false := by have := HRE.out; simpa [k2] using this.symm
      clear HN; go_wp2_with (go_at_call 85; refine aT (hA _ (bel _ _)) fun pj => ?_)
      exact bodyPost_ret (v := .bool false) (by simp [results, Tryz.results58, go_sem]) rfl ⟨rfl, bel _ _⟩
    by_cases k3 : z.fd < 0
    · obtain rfl : R = false := by have := HRE.out; simpa [k3] using this.symm
      clear HN; go_wp2_with (go_at_call 85; refine aT (hA _ (bel _ _)) fun pj => ?_)
      exact bodyPost_ret (v := .bool false) (by simp [results, Tryz.results58, go_sem]) rfl ⟨rfl, bel _ _⟩
    by_cases k4 : 4 ≤ z.fd
    · obtain rfl : R = false := by have := HRE.out; simpa [k4] using this.symm
      clear HN; go_wp2_with (go_at_call 85; refine aT (hA _ (bel _ _)) fun pj => ?_)
      exact bodyPost_ret (v := .bool false) (by simp [results, Tryz.results58, go_sem]) rfl ⟨rfl, bel _ _⟩
    by_cases k5 : K < 0
    · obtain rfl : R = false := by have := HRE.out; simpa [k5] using this.symm
      clear HN; go_wp2_with (go_at_call 85; refine aT (hA _ (bel _ _)) fun pj => ?_)
      exact bodyPost_ret (v := .bool false) (by simp [results, Tryz.results58, go_sem]) rfl ⟨rfl, bel _ _⟩
    obtain ⟨k, rfl⟩ : ∃ k : Nat, K = k := ⟨K.toNat, by omega⟩
    have hk : k < S.ins.length := by omega
    obtain ⟨x, hx⟩ : ∃ x, S.ins[k]? = some x := ⟨_, gE hk⟩
    obtain ⟨bi, oi, ev, rfl, iI0, hoi, -, hci⟩ := HI.out k x hx; obtain ⟨iI, x0, x1, x2, x3⟩ := hci wr hb; have hre : (if (dirAt S (k : Int)) = true then false else if prevDR (prevDOf S.op q) z = true then false else openL S (some z) (S.op.drop (q + 1))) = R := by have := HRE.out; simpa [k1, k2, k3, k4, k5] using this
    have hd : dirAt S (k : Int) = x.dir := by simp [dirAt, hx]
    rw [hd] at hre; clear hd hci hoi x0 x2 x3 HRE hx; obtain ⟨xn, xd, xe, xs⟩ := x
    (try simp only at x1)
    (try simp only at hre)
    rcases xd with _ | _
    · rw [if_neg (by decide)] at hre; obtain ⟨hn, hprev⟩ := HN.out; rcases hprev with ⟨rfl, hp⟩ | ⟨j, y, rfl, hy, hp, y0, y1, y2⟩
      · rw [hp] at hre; have HRE := Lib.hid (And.intro hre hn); clear hre hn hp; simp only [Nat.zero_mul, Nat.add_zero] at c0 c1 c2; go_wp2_with (go_at_call 85; refine aT (hA _ (bel _ _)) fun pj => ?_)
        go_roundw
        case rel => exact ⟨1, by rfl, by omega, by have := HRE.out; rw [this.2]; simpa [prevDR] using this.1, bel _ _, by first | exact (HB.out.alloc _).junk _ | exact HB.out⟩
        case measure => simp [intOf]; omega
      · rw [hp, prevDR] at hre
        (try simp only at hre)
        have HRE := Lib.hid (And.intro hre hn); have hjI : ((j : Int) + 1) - 1 = j := by omega
        have w2 : IntKind.i64.wrap (j : Int) = j := I64.wrap ⟨by omega, by omega⟩; have hj1 : (0 : Int) < (j : Int) + 1 := by omega
        have hjl : (j : Int) < S.op.length := by omega
        have hjl2 : j < S.op.length := by omega
        clear hre hn hp hy HN; by_cases p1 : z.core < y.core
        · obtain rfl : R = false := by have := HRE.out.1; simpa [p1] using this.symm
          go_wp2_with (go_at_call 85; refine aT (hA _ (bel _ _)) fun pj => ?_)
          exact bodyPost_ret (v := .bool false) (by simp [results, Tryz.results58, go_sem]) rfl ⟨rfl, bel _ _⟩
        rcases p2 : (y.core == z.core) with _ | _
        · have hre : openL S (some z) (S.op.drop (j + 1 + 1)) = R := by have := HRE.out.1; simpa [p1, p2] using this
          have hn := HRE.out.2; have HRE := Lib.hid (And.intro hre hn); clear hre hn; go_wp2_with (go_at_call 85; refine aT (hA _ (bel _ _)) fun pj => ?_)
          go_roundw
          case rel => exact ⟨j + 1 + 1, by simp, by omega, by have := HRE.out; rw [this.2]; exact this.1, bel _ _, by first | exact ((HB.out.alloc _).junk _).alloc _ | exact (HB.out.alloc _).junk _ | exact HB.out⟩
          case measure => simp [intOf]; omega
        · by_cases p3 : z.fd ≤ y.fd
          · obtain rfl : R = false := by have := HRE.out.1; simpa [p2, p3] using this.symm
            go_wp2_with (go_at_call 85; refine aT (hA _ (bel _ _)) fun pj => ?_)
            exact bodyPost_ret (v := .bool false) (by simp [results, Tryz.results58, go_sem]) rfl ⟨rfl, bel _ _⟩
          · have hre : openL S (some z) (S.op.drop (j + 1 + 1)) = R := by have := HRE.out.1; simpa [p1, p2, p3] using this
            have hn := HRE.out.2; have HRE := Lib.hid (And.intro hre hn); clear hre hn; go_wp2_with (go_at_call 85; refine aT (hA _ (bel _ _)) fun pj => ?_)
            go_roundw
            case rel => exact ⟨j + 1 + 1, by simp, by omega, by have := HRE.out; rw [this.2]; exact this.1, bel _ _, by first | exact ((HB.out.alloc _).junk _).alloc _ | exact (HB.out.alloc _).junk _ | exact HB.out⟩
            case measure => simp [intOf]; omega
    · rw [if_pos rfl] at hre; subst hre; clear HN; go_wp2_with (go_at_call 85; refine aT (hA _ (bel _ _)) fun pj => ?_)
      exact bodyPost_ret (v := .bool false) (by simp [results, Tryz.results58, go_sem]) rfl ⟨rfl, bel _ _⟩
  · rw [List.drop_of_length_le (by omega)] at hre; obtain rfl : R = true := by rw [← hre]; rfl
    go_wp2_with fail; exact bodyPost_ret (v := .bool true) (by simp [results, Tryz.results58, go_sem]) rfl ⟨rfl, bel _ _⟩
def z200 : ByteArray := ⟨(List.replicate 200 (0 : UInt8)).toArray⟩
def s6 : PSt := ⟨[⟨1, true, [⟨⟨#[100]⟩, 10⟩, ⟨⟨#[101]⟩, 3⟩, ⟨⟨#[120]⟩, 2⟩], ⟨#[]⟩⟩, ⟨2, false, [], z200⟩, ⟨3, true, [], ⟨#[]⟩⟩, ⟨10, true, [], ⟨#[]⟩⟩], [⟨0, 0, 2⟩, ⟨1, 0, 2⟩], [2, 1]⟩
end Go.Proofs.YtmkapobnfigedaaGreatDoor
namespace Go
def putsL (σ : Nat → Value) : Nat → List Oper → Act → Act
 | _, [], a => a
 | i, o :: r, a => putsL σ (i + 1) r (a.put o.dst (σ i))
def dstsL (l : List Oper) : List Tmp := l.filterMap (·.dst)
def updV (σ : Nat → Value) (i : Nat) (v : Value) : Nat → Value := fun j => if j = i then v else σ j
theorem Act.put_put (a : Act) (x : Option Tmp) (v u : Value) : (a.put x v).put x u = a.put x u := by
 cases x with
 | none => rfl
 | some d => simp [Act.put, Array.setIfInBounds_setIfInBounds]
theorem putsL_comm (σ : Nat → Value) (x : Option Tmp) (v : Value) : ∀ (l : List Oper) (i : Nat) (a : Act), (∀ d, x = some d → d ∉ dstsL l) → (putsL σ i l a).put x v = putsL σ i l (a.put x v)
 | [], _, _, _ => rfl
 | o :: r, i, a, h => by
   simp only [putsL]; rw [putsL_comm σ x v r (i + 1) _ (fun d hd hm => h d hd (by
    unfold dstsL at hm ⊢; rw [List.filterMap_cons]
    split
    · exact hm
    · exact List.mem_cons_of_mem _ hm))]
   congr 1
   refine Act.put_comm a _ _ (fun d hd hx => h d hx ?_); unfold dstsL; rw [List.filterMap_cons, hd]; exact List.mem_cons_self
theorem putsL_congr {σ τ : Nat → Value} : ∀ (l : List Oper) (i : Nat) (a : Act), (∀ j, i ≤ j → σ j = τ j) → putsL σ i l a = putsL τ i l a
 | [], _, _, _ => rfl
 | o :: r, i, a, h => by
   simp only [putsL]; rw [h i (Nat.le_refl _), putsL_congr r (i + 1) _ (fun j hj => h j (by omega))]
theorem dstsL_cons (o : Oper) (r : List Oper) : dstsL (o :: r) = match o.dst with | none => dstsL r | some d => d :: dstsL r := by
 unfold dstsL
 rw [List.filterMap_cons]
 cases o.dst <;> rfl
theorem dstsL_mem {l : List Oper} {j : Nat} {o : Oper} {d : Tmp} (ho : l[j]? = some o) (hd : o.dst = some d) : d ∈ dstsL l := List.mem_filterMap.2 ⟨o, mG ho, hd⟩
theorem putsL_upd (σ : Nat → Value) (v : Value) : ∀ (l : List Oper) (i j : Nat) (a : Act) (o : Oper), (dstsL l).Nodup → l[j]? = some o → (putsL σ i l a).put o.dst v = putsL (updV σ (i + j) v) i l a
 | [], _, _, _, _, _, h => by simp at h
 | q :: r, i, 0, a, o, hn, h => by
   simp only [List.getElem?_cons_zero, Option.some.injEq] at h; subst h; simp only [putsL]; have hnd : ∀ d, q.dst = some d → d ∉ dstsL r := fun d hd hm => by
    rw [dstsL_cons, hd] at hn; exact (List.nodup_cons.1 hn).1 hm
   rw [putsL_comm σ q.dst v r (i + 1) _ hnd, Act.put_put]; have e : updV σ (i + 0) v i = v := by simp [updV]
   rw [e]; exact putsL_congr r (i + 1) _ (fun j hj => by unfold updV; rw [if_neg (by omega)])
 | q :: r, i, j + 1, a, o, hn, h => by
   simp only [List.getElem?_cons_succ] at h; simp only [putsL]; have hn' : (dstsL r).Nodup := by
    rw [dstsL_cons] at hn
    split at hn
    · exact hn
    · exact (List.nodup_cons.1 hn).2
   rw [putsL_upd σ v r (i + 1) j _ o hn' h]; have e : updV σ (i + (j + 1)) v i = σ i := by unfold updV; rw [if_neg (by omega)]
   rw [e, show i + 1 + j = i + (j + 1) by omega]
theorem putsL_out (σ : Nat → Value) (x : Tmp) : ∀ (l : List Oper) (i : Nat) (a : Act), x ∉ dstsL l → (putsL σ i l a).eval (.tmp x) = a.eval (.tmp x)
 | [], _, _, _ => rfl
 | o :: r, i, a, h => by
   simp only [putsL]; rw [putsL_out σ x r (i + 1) _ (fun hm => h (by rw [dstsL_cons]; split; exact hm; exact List.mem_cons_of_mem _ hm))]; exact Act.eval_put fun d hd hx => h (by
    cases hx; rw [dstsL_cons, hd]; exact List.mem_cons_self)
theorem put_size (a : Act) (x : Option Tmp) (v : Value) : (a.put x v).tmps.size = a.tmps.size := by
 cases x <;> simp [Act.put]
theorem eval_put_self (a : Act) (d : Tmp) (v : Value) (h : d < a.tmps.size) : (a.put (some d) v).eval (.tmp d) = v := by
 simp [Act.put, Act.eval, h]
theorem putsL_in (σ : Nat → Value) : ∀ (l : List Oper) (i j : Nat) (a : Act) (o : Oper) (d : Tmp), (dstsL l).Nodup → l[j]? = some o → o.dst = some d → d < a.tmps.size → (putsL σ i l a).eval (.tmp d) = σ (i + j)
 | [], _, _, _, _, _, _, h, _, _ => by simp at h
 | q :: r, i, 0, a, o, d, hn, h, hd, hl => by
   simp only [List.getElem?_cons_zero, Option.some.injEq] at h; subst h; simp only [putsL]; rw [putsL_out σ d r (i + 1) _ (fun hm => by
    rw [dstsL_cons, hd] at hn; exact (List.nodup_cons.1 hn).1 hm), hd]
   exact eval_put_self a d _ hl
 | q :: r, i, j + 1, a, o, d, hn, h, hd, hl => by
   simp only [List.getElem?_cons_succ] at h; simp only [putsL]; have hn' : (dstsL r).Nodup := by
    rw [dstsL_cons] at hn
    split at hn
    · exact hn
    · exact (List.nodup_cons.1 hn).2
   rw [putsL_in σ r (i + 1) j _ o d hn' h hd (by rw [put_size]; exact hl), show i + 1 + j = i + (j + 1) by omega]
def Region.invB (l : List Oper) : Bool :=
 Region.noSelect l.toArray && decide ((dstsL l).Nodup) && (List.range l.length).all fun i => match l[i]? with
  | some o => o.after.toList.all fun e => !Region.binds .any e || decide (e.on < i)
  | none => true
def Oper.waits (o : Oper) : List Nat := (o.after.toList.filter fun e => Region.binds .any e).map (·.on)
def EachOp (p : Nat → Oper → Prop) : Nat → List Oper → Prop
 | _, [] => True
 | i, o :: r => p i o ∧ EachOp p (i + 1) r
theorem EachOp.at_ {p : Nat → Oper → Prop} : ∀ {l : List Oper} {i j : Nat} {o : Oper}, EachOp p i l → l[j]? = some o → p (i + j) o
 | [], _, _, _, _, h => by simp at h
 | q :: r, i, 0, o, h, ho => by
   simp only [List.getElem?_cons_zero, Option.some.injEq] at ho; subst ho; exact h.1
 | q :: r, i, j + 1, o, h, ho => by
   simp only [List.getElem?_cons_succ] at ho; have := EachOp.at_ h.2 ho; rw [show i + 1 + j = i + (j + 1) by omega] at this; exact this
section
variable {P : Program} {l : List Oper} {Q : Exit → Act → World → Prop}
theorem EachOp.imp {p q : Nat → Oper → Prop} : ∀ {l : List Oper} {i : Nat}, (∀ j o, l[j]? = some o → p (i + j) o → q (i + j) o) → EachOp p i l → EachOp q i l
 | [], _, _, _ => trivial
 | o :: r, i, h, hp => ⟨h 0 o rfl hp.1, EachOp.imp (fun j o' ho h1 => by
  have := h (j + 1) o' (by simpa using ho); rw [show i + 1 + j = i + (j + 1) by omega] at h1 ⊢; exact this h1) hp.2⟩
end
end Go
namespace Go.Proofs.YtmkapobnfigedaaGreatDoor
open Go.RowKit
def wLen (S : PSt) : Nat → Int → Nat → Nat
 | 0, _, _ => 0
 | f + 1, n, p => match S.ins[(idxM (isNum n) S.ins).toNat]? with
   | none => 0
   | some x => if x.dir = true then p + 40 + (x.ents.map fun e => wLen S f e.num (p + 1 + e.name.size)).sum else p + 2 * x.data.size + 40
theorem sum_le {α : Type} (f g : α → Nat) : ∀ (l : List α), (∀ x ∈ l, f x ≤ g x) → (l.map f).sum ≤ (l.map g).sum
 | [], _ => Nat.le_refl _
 | x :: r, h => by
   have h1 := h x (List.mem_cons_self); have h2 := sum_le f g r (fun y hy => h y (List.mem_cons_of_mem _ hy)); simp only [List.map_cons, List.sum_cons]; omega
end Go.Proofs.YtmkapobnfigedaaGreatDoor
namespace Go
theorem putsL_defers (σ : Nat → Value) : ∀ (l : List Oper) (i : Nat) (a : Act), (putsL σ i l a).defers = a.defers
 | [], _, _ => rfl
 | o :: r, i, a => by
   simp only [putsL]; rw [putsL_defers σ r (i + 1)]; cases o.dst <;> rfl
section
variable {P : Program} {l : List Oper} {Q : Exit → Act → World → Prop}
theorem wpAny_invW (R : (Nat → Prop) → (Nat → Value) → World → Prop) {a0 : Act} (hB : Region.invB l = true) (hsz : ∀ d ∈ dstsL l, d < a0.tmps.size)
 (hstep : EachOp (fun i o => ∀ (D : Nat → Prop) (σ : Nat → Value) (w : World) (a : Act), ¬ D i → (∀ k, o.waits.contains k = true → D k) → R D σ w → (∀ j q d, l[j]? = some q → q.dst = some d → a.eval (.tmp d) = σ j) → (∀ d, (dstsL l).contains d = false → a.eval (.tmp d) = a0.eval (.tmp d)) → a.defers = a0.defers →
  (Region.wanted o (yielded l.toArray a.tmps) = true → ∀ nx : Act → World → Prop, (∀ v w', R (fun j => j = i ∨ D j) (updV σ i v) w' → nx (a.put o.dst v) w') → o.wp P a w nx Q) ∧ (Region.wanted o (yielded l.toArray a.tmps) = false → R (fun j => j = i ∨ D j) (updV σ i undef) w)) 0 l)
 (hend : ∀ σ w, R (fun _ => True) σ w → Q .normal (putsL σ 0 l a0) w) :
 ∀ (n : Nat) (listed : Array Bool) (σ : Nat → Value) (w : World), listed.size = l.length → listed.toList.count false = n → R (fun j => listed.getD j true = true) σ w → wpAny P .any l.toArray Q n listed (putsL σ 0 l a0) w := by
 simp only [Region.invB, Bool.and_eq_true, decide_eq_true_eq, List.all_eq_true, beq_iff_eq] at hB
 obtain ⟨⟨hsel, hnd⟩, hlt⟩ := hB
 intro n
 induction n with
 | zero =>
   intro listed σ w hs hc hR; have hall : ∀ j, listed.getD j true = true := fun j => by
    by_cases hj : j < listed.size
    · rw [List.count_eq_zero] at hc; have hm : listed[j] ∈ listed.toList := by simp
      rcases h : listed[j] with _ | _
      · rw [h] at hm; exact absurd hm hc
      · simp [Array.getD, hj, h]
    · simp [Array.getD, hj]
   refine ⟨List.eq_nil_iff_forall_not_mem.2 fun i hi => ?_, hend σ w ?_⟩
   · obtain ⟨h0, _⟩ := mem_ready.1 hi; rw [hall i] at h0; cases h0
   · have e : (fun j => listed.getD j true = true) = fun _ => True := funext fun j => propext ⟨fun _ => trivial, fun _ => hall j⟩
     rw [← e]; exact hR
 | succ n ih =>
   intro listed σ w hs hc hR; have un : ∀ j, j < listed.size → ¬ listed.getD j false = true → listed.getD j true = false := fun j hj h => by
    simp [Array.getD, hj] at h ⊢; exact h
   have hrd : ∀ i, listed.getD i true = false → Region.ready .any l.toArray listed ≠ [] := by
    intro i
    induction i using Nat.strongRecOn with
    | ind i ihi =>
      intro h h0; have hi : i < l.length := by
       rw [← hs]; by_cases hj : i < listed.size
       · exact hj
       · simp [Array.getD, hj] at h
      by_cases hall : ∀ e ∈ l[i].after, Region.binds .any e = true → listed.getD e.on false = true
      · have : i ∈ Region.ready .any l.toArray listed := mem_ready.2 ⟨h, l[i], by simp [hi], hall⟩; rw [h0] at this; cases this
      · obtain ⟨e, he⟩ := Classical.not_forall.1 hall; obtain ⟨hm, he⟩ := Classical.not_imp.1 he; obtain ⟨hb, hx⟩ := Classical.not_imp.1 he; have h1 := hlt i (List.mem_range.2 hi); rw [gE hi] at h1; simp only [List.all_eq_true, Bool.or_eq_true, Bool.not_eq_true', decide_eq_true_eq] at h1; have hon : e.on < i := by
         rcases h1 e (by simpa using hm) with h2 | h2
         · rw [hb] at h2; cases h2
         · exact h2
        exact ihi e.on hon (un e.on (by omega) hx) h0
   refine ⟨fun h0 => ?_, fun i hi => ?_⟩
   · exfalso; have hm : false ∈ listed.toList := by
      refine Classical.byContradiction fun h => ?_
      rw [List.count_eq_zero.2 h] at hc; cases hc
     obtain ⟨j, hj, he⟩ := List.getElem_of_mem hm; have hj' : j < listed.size := by simpa using hj
     refine hrd j ?_ h0; simp [Array.getD, hj']; simpa using he
   · obtain ⟨h0, o, ho, hd⟩ := mem_ready.1 hi; have ho' : l[i]? = some o := by simpa using ho
     obtain ⟨hil, hio⟩ := gI.1 ho'; have his : i < listed.size := by omega
     unfold wpOp; simp only [ho]; have hst := EachOp.at_ hstep ho'; rw [Nat.zero_add] at hst; have h1 := hst (fun j => listed.getD j true = true) σ w (putsL σ 0 l a0) (by rw [h0]; exact Bool.false_ne_true) (fun k hk => ?_) hR (fun j q d hq hqd => ?_) (fun d hdm => ?_) (putsL_defers σ l 0 a0)
     · have hgo : ∀ v w', R (fun j => j = i ∨ listed.getD j true = true) (updV σ i v) w' → wpAny P .any l.toArray Q n (listed.setIfInBounds i true) ((putsL σ 0 l a0).put o.dst v) w' := by
        intro v w' hR'; rw [putsL_upd σ v l 0 i a0 o hnd ho', Nat.zero_add]; refine ih _ _ _ (by simpa using hs) ?_ ?_
        · have hlf : listed[i] = false := by simpa [Array.getD, his] using h0
          rw [Array.toList_setIfInBounds, List.count_set (by simpa using his)]; simp [hlf] at hc ⊢; omega
        · have e : (fun j => (listed.setIfInBounds i true).getD j true = true) = fun j => j = i ∨ listed.getD j true = true := funext fun j => propext (by
           by_cases hij : i = j
           · subst hij; simp [Array.getD, his]
           · rw [getD_set_ne true hij]; constructor
             · exact .inr
             · rintro (h | h)
               · exact absurd h.symm hij
               · exact h)
          rw [e]; exact hR'
       rcases hwd : Region.wanted o (yielded l.toArray (putsL σ 0 l a0).tmps) with _ | _
       · rw [if_neg (by simp)]; exact hgo _ _ (h1.2 hwd)
       · rw [if_pos rfl]; exact .inl (h1.1 hwd _ hgo)
     · unfold Oper.waits at hk; simp only [List.contains_eq_mem, decide_eq_true_eq] at hk; obtain ⟨e, he, rfl⟩ := List.mem_map.1 hk; obtain ⟨he1, he2⟩ := List.mem_filter.1 he; have := hd e (by simpa using he1) he2; by_cases hj : e.on < listed.size
       · simp [Array.getD, hj] at this ⊢; exact this
       · simp [Array.getD, hj]
     · have := putsL_in σ l 0 j a0 q d hnd hq hqd (hsz d (dstsL_mem hq hqd)); rw [Nat.zero_add] at this; exact this
     · refine putsL_out σ d l 0 a0 (fun hm => ?_); have : (dstsL l).contains d = true := by simpa using hm
       rw [this] at hdm; cases hdm
theorem wp_region_invW {id : Nat} (R : (Nat → Prop) → (Nat → Value) → World → Prop) {a0 : Act} {w : World} (hm : P.follows .mixedOrders = true) (hB : Region.invB l = true) (hsz : ((dstsL l).all fun d => decide (d < a0.tmps.size)) = true)
 (h0 : ∀ σ, R (fun j => l.length ≤ j) σ w.drew)
 (hstep : EachOp (fun i o => ∀ (D : Nat → Prop) (σ : Nat → Value) (w : World) (a : Act), ¬ D i → (∀ k, o.waits.contains k = true → D k) → R D σ w → (∀ j q d, l[j]? = some q → q.dst = some d → a.eval (.tmp d) = σ j) → (∀ d, (dstsL l).contains d = false → a.eval (.tmp d) = a0.eval (.tmp d)) → a.defers = a0.defers →
  (Region.wanted o (yielded l.toArray a.tmps) = true → ∀ nx : Act → World → Prop, (∀ v w', R (fun j => j = i ∨ D j) (updV σ i v) w' → nx (a.put o.dst v) w') → o.wp P a w nx Q) ∧ (Region.wanted o (yielded l.toArray a.tmps) = false → R (fun j => j = i ∨ D j) (updV σ i undef) w)) 0 l)
 (hend : ∀ σ w, R (fun _ => True) σ w → Q .normal (putsL σ 0 l a0) w) : (Code.region id l.toArray true).wp P Q a0 w := by
 have hsz' : ∀ d ∈ dstsL l, d < a0.tmps.size := fun d hd => by
  have := List.all_eq_true.1 hsz d hd; simpa using this
 have hB' := hB
 simp only [Region.invB, Bool.and_eq_true, decide_eq_true_eq, List.all_eq_true, beq_iff_eq] at hB'
 obtain ⟨⟨_, hnd⟩, _⟩ := hB'
 have hself : ∀ (l' : List Oper) (i : Nat) (τ : Nat → Value), (∀ j o d, l'[j]? = some o → o.dst = some d → τ (i + j) = a0.eval (.tmp d)) → (∀ d ∈ dstsL l', d < a0.tmps.size) → putsL τ i l' a0 = a0 := by
  intro l'
  induction l' with
  | nil => intro i τ _ _; rfl
  | cons o r ih =>
    intro i τ hτ hs; simp only [putsL]; have e : a0.put o.dst (τ i) = a0 := by
     rcases hd : o.dst with _ | d
     · rfl
     · have h1 := hτ 0 o d rfl hd; rw [Nat.add_zero] at h1; have hdl := hs d (dstsL_mem (j := 0) rfl hd); rw [h1]; rcases a0 with ⟨t, df⟩
       simp only [Act.put, Act.eval]
       congr 1
       apply Array.ext
       · simp
       · intro k hk1 hk2; rw [Array.getElem_setIfInBounds]
         split
         · rename_i hdk
           subst hdk; simp [hk2]
         · rfl
    rw [e]; exact ih (i + 1) τ (fun j o' d ho hd => by
     have := hτ (j + 1) o' d (by simpa using ho) hd; rw [show i + 1 + j = i + (j + 1) by omega]; exact this) (fun d hd => hs d (by rw [dstsL_cons]; split; exact hd; exact List.mem_cons_of_mem _ hd))
 refine wp_region_any hm ?_
 have h1 := wpAny_invW (Q := Q) R hB hsz' hstep hend l.length (Array.replicate l.length false) (fun j => match l[j]? with | some o => (match o.dst with | some d => a0.eval (.tmp d) | none => undef) | none => undef) w.drew (by simp) (by simp) (by
  have e : (fun j => (Array.replicate l.length false).getD j true = true) = fun j => l.length ≤ j := funext fun j => propext (by
   by_cases hj : j < l.length
   · simp [hj] <;> omega
   · simp [hj] <;> omega)
  rw [e]; exact h0 _)
 rw [hself l 0 _ (fun j o d ho hd => by rw [Nat.zero_add, ho]; simp only [hd]) hsz'] at h1
 simpa using h1
end
theorem Oper.wpW {P : Program} {Q : Exit → Act → World → Prop} {o : Oper} {a : Act} {w : World} {K : Value → World → Prop} (h : o.eff P a w K) : ∀ nx : Act → World → Prop, (∀ v w', K v w' → nx (a.put o.dst v) w') → o.wp P a w nx Q := fun _ hn => Oper.wp_of_eff h hn
theorem Oper.wpX {P : Program} {Q : Exit → Act → World → Prop} {o : Oper} {a : Act} {w : World} (f : FuncId) (args : Array Value) {nx : Act → World → Prop} (hr : (execOp a.eval o).run P w = .ok (.enter f args) w) (h : Calls P f args w fun e w' => ∃ ch, e = .panicked ch ∧ Q (.panic ch) a w') : o.wp P a w nx Q := by
 unfold Oper.wp
 rw [hr, Oper.upon_enter]
 exact h.mono fun e w' ⟨ch, he, hq⟩ => by subst he; exact hq
end Go
namespace Go
open Go.RowKit
structure RV (M : Nat) (V : Nat → Value) (w0 : World) (D : Nat → Prop) (σ : Nat → Value) (w : World) : Prop where
 vals : ∀ i, i < M → D i → σ i = V i
 no : ¬ D M
 below : Below w0.heap.size w0 w
section
variable {M T : Nat} {V : Nat → Value} {w0 w w' : World} {D : Nat → Prop} {σ : Nat → Value}
theorem RV.zero (hM : M < T) (hb : Below w0.heap.size w0 w) : RV M V w0 (fun j => T ≤ j) σ w :=
 ⟨fun i hi h => absurd h (by omega), fun h => absurd h (by omega), hb⟩
theorem RV.on (h : RV M V w0 D σ w) (hb : Below w.heap.size w w') : RV M V w0 D σ w' := ⟨h.vals, h.no, h.below.trans (hb.mono h.below.size)⟩
theorem RV.val (h : RV M V w0 D σ w) (i : Nat) (hi : M ≠ i) : RV M V w0 (fun j => j = i ∨ D j) (updV σ i (V i)) w :=
 ⟨fun k hk hd => by
  by_cases e : k = i
  · subst e; exact if_pos rfl
  · exact (if_neg e).trans (h.vals k hk (hd.resolve_left e)),
  fun hd => h.no (hd.resolve_left hi), h.below⟩
end
end Go
namespace Go.Proofs.YtmkapobnfigedaaGreatDoor
open Go.RowKit
theorem evT (a : Act) (k : Tmp) : a.eval (.tmp k) = (a.tmps[k]?).getD undef := by simp [Act.eval, go_sem]
theorem eff_v {P : Program} {o : Oper} {a : Act} {w w' : World} {K : Value → World → Prop} {v : Value} (h : (execOp a.eval o).run P w = .ok (.value v) w') (hk : K v w') : o.eff P a w K := by
 unfold Oper.eff
 rw [h]
 exact hk
theorem at122x (d b : Nat) (S : PSt) (c : PCall) (s : ByteArray) (w : World) (h : DR w d b S c) (hp : (parseM s).1 ≠ 0) :
 Calls Tryz.prog 178 #[.pointer (some ⟨d, 0, none⟩), .string s] w fun e w' => e = thrown (codeM (parseM s).1) ∧ Below w.heap.size w w' := by
 have hpar : ∀ ww, Calls Tryz.prog 198 #[.string s] ww fun e w' => e = thrown (codeM (parseM s).1) ∧ Below ww.heap.size ww w' := fun ww => by
  refine (parse150 s ww).mono ?_; intro e w' h; rcases h with ⟨h, _⟩ | ⟨_, h1, h2⟩
  · exact absurd h hp
  · exact ⟨h1, h2⟩
 have hd0 := h.d0
 have iD : BlockLt d w := ⟨h.lt⟩
 generalize codeM (parseM s).1 = C at hpar ⊢
 clear h hp
 go_enter Tryz.func178, Tryz.ntmps178
 go_upto_region 1 with fail
 refine wp_region_invW (fun D σ w1 => (∀ k, 5 ≤ k → k < 12 → ¬ D k) ∧ (D 0 → σ 0 = .pointer (some ⟨d, 0, none⟩)) ∧ (D 1 → σ 1 = .pointer (some ⟨d, 0, none⟩)) ∧ (D 2 → σ 2 = .pointer (some ⟨d, 0, none⟩)) ∧ (D 3 → σ 3 = .pointer (some ⟨b, 0, none⟩)) ∧ (D 4 → σ 4 = .string s) ∧ Below w.heap.size w w1) (by kernel_rfl) (by kernel_rfl) (by kernel_rfl) ?_ ?_ ?_
 · intro σ; exact ⟨fun k h1 h2 h3 => absurd h3 (by show ¬ 12 ≤ k; omega), fun h => absurd h (by decide), fun h => absurd h (by decide), fun h => absurd h (by decide), fun h => absurd h (by decide), fun h => absurd h (by decide), bel w _⟩
 · have nl : ∀ {a b : Nat} {p : Prop}, (a = b ∨ p) → a ≠ b → p := fun h hn => h.resolve_left hn
   refine ⟨?_, ?_, ?_, ?_, ?_, ?_, ?_, ?_, ?_, ?_, ?_, ?_, trivial⟩
   all_goals
    intro D σ w1 a hnd hw hR hin hout hdf; obtain ⟨r5, r0, r1, r2, r3, r4, hb⟩ := hR; refine ⟨fun _ => ?_, fun h => absurd h (by simp [Region.wanted])⟩
   · have e0 : (a.tmps[0]?).getD undef = .pointer (some ⟨d, 0, none⟩) := (evT a 0).symm.trans ((hout 0 (by kernel_rfl)).trans (by kernel_rfl)); refine Oper.wpW (eff_v (v := .pointer (some ⟨d, 0, none⟩)) ?_ ⟨fun k h1 h2 h3 => r5 k h1 h2 (nl h3 (by omega)), fun _ => rfl, fun h => r1 (nl h (by decide)), fun h => r2 (nl h (by decide)), fun h => r3 (nl h (by decide)), fun h => r4 (nl h (by decide)), hb⟩); clear hin hout hw; go_simp
     first | done | rfl
   · have e0 : (a.tmps[8]?).getD undef = .pointer (some ⟨d, 0, none⟩) := (evT a 8).symm.trans ((hin 0 _ 8 rfl rfl).trans (r0 (hw 0 (by kernel_rfl)))); refine Oper.wpW (eff_v (v := .pointer (some ⟨d, 0, none⟩)) ?_ ⟨fun k h1 h2 h3 => r5 k h1 h2 (nl h3 (by omega)), fun h => r0 (nl h (by decide)), fun _ => rfl, fun h => r2 (nl h (by decide)), fun h => r3 (nl h (by decide)), fun h => r4 (nl h (by decide)), hb⟩); clear hin hout hw; go_simp
     first | done | rfl
   · have e0 : (a.tmps[9]?).getD undef = .pointer (some ⟨d, 0, none⟩) := (evT a 9).symm.trans ((hin 1 _ 9 rfl rfl).trans (r1 (hw 1 (by kernel_rfl)))); refine Oper.wpW (eff_v (v := .pointer (some ⟨d, 0, none⟩)) ?_ ⟨fun k h1 h2 h3 => r5 k h1 h2 (nl h3 (by omega)), fun h => r0 (nl h (by decide)), fun h => r1 (nl h (by decide)), fun _ => rfl, fun h => r3 (nl h (by decide)), fun h => r4 (nl h (by decide)), hb⟩); clear hin hout hw; go_simp
     first | done | rfl
   · have e0 : (a.tmps[10]?).getD undef = .pointer (some ⟨d, 0, none⟩) := (evT a 10).symm.trans ((hin 2 _ 10 rfl rfl).trans (r2 (hw 2 (by kernel_rfl)))); have hd1 : w1.cell? ⟨d, 0, none⟩ = some (.pointer (some ⟨b, 0, none⟩)) := (hb.cell (by exact iD.lt)).trans hd0; have iD1 : BlockLt d w1 := ⟨Nat.lt_of_lt_of_le iD.lt hb.size⟩
     refine Oper.wpW (eff_v (v := .pointer (some ⟨b, 0, none⟩)) ?_ ⟨fun k h1 h2 h3 => r5 k h1 h2 (nl h3 (by omega)), fun h => r0 (nl h (by decide)), fun h => r1 (nl h (by decide)), fun h => r2 (nl h (by decide)), fun _ => rfl, fun h => r4 (nl h (by decide)), hb⟩); clear hin hout hw; go_simp
     first | done | rfl
   · have e0 : (a.tmps[1]?).getD undef = .string s := (evT a 1).symm.trans ((hout 1 (by kernel_rfl)).trans (by kernel_rfl)); refine Oper.wpW (eff_v (v := .string s) ?_ ⟨fun k h1 h2 h3 => r5 k h1 h2 (nl h3 (by omega)), fun h => r0 (nl h (by decide)), fun h => r1 (nl h (by decide)), fun h => r2 (nl h (by decide)), fun h => r3 (nl h (by decide)), fun _ => rfl, hb⟩); clear hin hout hw; go_simp
     first | done | rfl
   · have e0 : (a.tmps[12]?).getD undef = .string s := (evT a 12).symm.trans ((hin 4 _ 12 rfl rfl).trans (r4 (hw 4 (by kernel_rfl)))); intro nx _; refine Oper.wpX 198 #[.string s] ?_ ((hpar w1).mono fun e w' ⟨he, hb2⟩ => ⟨_, he, hdf, rfl, hb.trans (hb2.mono hb.size)⟩); clear hin hout hw; go_simp
     first | done | rfl
   · exact absurd (hw 5 (by kernel_rfl)) (r5 5 (by decide) (by decide))
   · exact absurd (hw 6 (by kernel_rfl)) (r5 6 (by decide) (by decide))
   · exact absurd (hw 7 (by kernel_rfl)) (r5 7 (by decide) (by decide))
   · exact absurd (hw 7 (by kernel_rfl)) (r5 7 (by decide) (by decide))
   · exact absurd (hw 8 (by kernel_rfl)) (r5 8 (by decide) (by decide))
   · exact absurd (hw 9 (by kernel_rfl)) (r5 9 (by decide) (by decide))
 · intro σ w1 hR; exact absurd trivial (hR.1 5 (by decide) (by decide))
def stepE (T : Nat → Nat → Bool) (l e : Nat) (inn : List Bool) : List Bool := inn.set e (inn.getD e false || (inn.getD l false && T e l))
def stepsE (T : Nat → Nat → Bool) (l : Nat) : Nat → Nat → List Bool → List Bool
 | 0, _, inn => inn
 | n + 1, e, inn => stepsE T l n (e + 1) (stepE T l e inn)
def closeE (T : Nat → Nat → Bool) : Nat → List Bool → List Bool
 | 0, inn => inn
 | l + 1, inn => closeE T l (stepsE T l l 0 inn)
def closedE (T : Nat → Nat → Bool) (inn : List Bool) : Bool := (List.range inn.length).all fun l => (List.range l).all fun e => !(inn.getD l false && !inn.getD e false && T e l)
def markE (n : Nat) : List Int → List Bool → List Bool
 | [], inn => inn
 | k :: r, inn => markE n r (if 0 ≤ k ∧ k < n then inn.set k.toNat true else inn)
structure PKey where
 num : Int
 name : ByteArray
deriving DecidableEq
def PKey.cells (k : PKey) : List Value := [.int .i64 k.num, .string k.name]
theorem pkey_len : ∀ (es : List PKey), ∀ cs ∈ es.map PKey.cells, cs.length = 2 := by
 intro es cs h
 obtain ⟨r, _, rfl⟩ := List.mem_map.1 h
 rfl
theorem pkey_one : ∀ (is : List PKey), ∀ cs ∈ is.map PKey.cells, ∀ u ∈ cs, u.oneCell' = true := by
 intro is cs h u hu
 obtain ⟨r, _, rfl⟩ := List.mem_map.1 h
 simp only [PKey.cells, List.mem_cons, List.not_mem_nil, or_false] at hu
 rcases hu with rfl | rfl <;> rfl
def meetK (x y : PKey) : Bool := (x.num == y.num) && (decide (x.name.size = 0) || decide (y.name.size = 0) || (decide (x.name = y.name) && !decide (x.name = ⟨#[46]⟩)))
def touchM (a b : List PKey) : Bool := a.any fun x => b.any fun y => meetK x y
theorem ret_bool {a b : Bool} (h : a = b) : Ending.returned (.bool a) = Ending.returned (.bool b) := by rw [h]
theorem ret_int {k : IntKind} {a b : Int} (h : a = b) : Ending.returned (.int k a) = Ending.returned (.int k b) := by rw [h]
theorem num35 (e : Int) (w : World) : Calls Tryz.prog 35 #[.int .i64 e] w fun r w' => r = .returned (.int .i64 e) ∧ Below w.heap.size w w' := by
 go_enter Tryz.func35, Tryz.ntmps35
 go_wp2_with fail
 go_ret
 exact ⟨rfl, bel _ _⟩
theorem any_drop {α : Type} (p : α → Bool) (l : List α) (q : Nat) {x : α} (h : l[q]? = some x) : (l.drop q).any p = (p x || (l.drop (q + 1)).any p) := by
 obtain ⟨hl, rfl⟩ := gI.1 h
 rw [List.drop_eq_getElem_cons hl, List.any_cons]
theorem any_end {α : Type} (p : α → Bool) (l : List α) (q : Nat) (h : ¬ q < l.length) : (l.drop q).any p = false := by
 rw [List.drop_eq_nil_of_le (by omega)]
 rfl
theorem toList_data (a : ByteArray) : a.toList = a.data.toList := by
 exact ByteArray.toList_eq a
theorem meetK_eq (x y : PKey) : meetK x y = ((x.num == y.num) && (x.name.toList.isEmpty || y.name.toList.isEmpty || ((x.name.toList == y.name.toList) && !(x.name.toList == [46])))) := by
 have h1 : ∀ a : ByteArray, decide (a.size = 0) = a.toList.isEmpty := fun a => by
  rw [toList_data, Bool.eq_iff_iff, decide_eq_true_iff, List.isEmpty_iff]; rcases a with ⟨⟨l⟩⟩
  show l.length = 0 ↔ l = []
  exact List.length_eq_zero_iff
 have h2 : ∀ a b : ByteArray, decide (a = b) = (a.toList == b.toList) := fun a b => by
  rw [toList_data, toList_data, Bool.eq_iff_iff, decide_eq_true_iff, beq_iff_eq]; exact ⟨fun h => by rw [h], fun h => by
   rcases a with ⟨⟨l⟩⟩
   rcases b with ⟨⟨m⟩⟩
   cases h; rfl⟩
 unfold meetK
 rw [h1, h1, h2, h2, toList_data ⟨#[46]⟩]
theorem touch17 (ks bs : List PKey) (va vb : Value) (w : World) (ha : RowAt w 2 va (ks.map PKey.cells)) (hb : RowAt w 2 vb (bs.map PKey.cells)) :
 Calls Tryz.prog 17 #[va, vb] w fun e w' => e = .returned (.bool (touchM ks bs)) ∧ Below w.heap.size w w' := by
 have hal : ks.length ≤ 9223372036854775807 := by obtain ⟨_, _, _, h, _⟩ := ha; rw [lM] at h; exact h
 have hbl : bs.length ≤ 9223372036854775807 := by obtain ⟨_, _, _, h, _⟩ := hb; rw [lM] at h; exact h
 obtain ⟨aa, ca, rfl, hata⟩ := ha.at_
 obtain ⟨ab, cb, rfl, hatb⟩ := hb.at_
 rw [lM, lM]
 have HA := Lib.hid (And.intro hata hatb)
 clear hata hatb ha hb
 unfold touchM
 generalize hR : (ks.any fun x => bs.any fun y => meetK x y) = R
 have HR := Lib.hid hR
 clear hR
 go_enter Tryz.func17, Tryz.ntmps17
 go_wp2_with fail
 go_loopw [11] (fun vi wr => ∃ q : Nat, vi = .int .i64 q ∧ q ≤ ks.length ∧ ((ks.drop q).any fun x => bs.any fun y => meetK x y) = R ∧ Below w.heap.size w wr) (fun vi _ => (ks.length - intOf vi).toNat)
 case atStart => exact ⟨0, rfl, by omega, by simpa using HR.out, bel _ _⟩
 case round =>
  obtain ⟨q, rfl, hq, hre, hbr⟩ := hrel
  rename World => wo
  have iB : Bel w wo := ⟨hbr⟩
  by_cases hlt : q < ks.length
  · obtain ⟨x, hx⟩ : ∃ x, ks[q]? = some x := ⟨_, gE hlt⟩
    rw [any_drop _ _ _ hx] at hre; obtain ⟨be, offe, rfl, iE0, iE, hce⟩ := HA.out.1 wo hbr q x.cells (by rw [gM, hx]; rfl); have e0 := hce 0 _ rfl; have e1 := hce 1 _ rfl; rw [Nat.add_zero] at e0; have HR2 := Lib.hid hre; clear hre hce hx; go_wp2_with fail
    go_loopw [17] (fun vi w2 => ∃ k : Nat, vi = .int .i64 k ∧ k ≤ bs.length ∧ ((bs.drop k).any fun y => meetK x y) = (bs.any fun y => meetK x y) ∧ Below wo.heap.size wo w2 ∧ Blk w2 wo.heap.size #[.int .i64 x.num, .string x.name] 61) (fun vi _ => (bs.length - intOf vi).toNat)
    case atStart => exact ⟨0, rfl, by omega, rfl, bel _ _, Blk.new _ _ _⟩
    case round =>
     obtain ⟨k, rfl, hk, hre2, hb2, hblk⟩ := hrel; have iB2 : Bel w wr := ⟨hbr.trans (hb2.mono hbr.size)⟩
     have iB3 : Bel wo wr := ⟨hb2⟩
     have z0 : wr.cell? ⟨wo.heap.size, 0, none⟩ = some (.int .i64 x.num) := hblk.cell 0; have z1 : wr.cell? ⟨wo.heap.size, 1, none⟩ = some (.string x.name) := hblk.cell 1; have iK := hblk.lt; have HK := Lib.hid hblk; by_cases hlk : k < bs.length
     · obtain ⟨y, hy⟩ : ∃ y, bs[k]? = some y := ⟨_, gE hlk⟩
       rw [any_drop _ _ _ hy] at hre2; obtain ⟨bf, offf, rfl, iF0, iF, hcf⟩ := HA.out.2 wr iB2.below k y.cells (by rw [gM, hy]; rfl); have f0 := hcf 0 _ rfl; have f1 := hcf 1 _ rfl; rw [Nat.add_zero] at f0; have HR3 := Lib.hid hre2; clear hre2 hcf hy hblk; rcases g1 : (x.num == y.num) with _ | _
       · have hm : meetK x y = false := by rw [meetK_eq, g1]; rfl
         go_wp2_with fail
         go_roundw
         case rel => exact ⟨k + 1, by go_num, by omega, by have := HR3.out; rw [hm, Bool.false_or] at this; exact this, bel _ _, HK.out.alloc _⟩
         case measure => simp [intOf]; omega
       rcases g2 : x.name.toList.isEmpty with _ | _
       rotate_left
       · have hm : meetK x y = true := by rw [meetK_eq, g1, g2]; rfl
         go_wp2_with fail; go_ret; exact ⟨ret_bool (by have h1 := HR3.out; rw [hm, Bool.true_or] at h1; have h2 := HR2.out; rw [← h1, Bool.true_or] at h2; exact h2), bel _ _⟩
       rcases g3 : y.name.toList.isEmpty with _ | _
       rotate_left
       · have hm : meetK x y = true := by rw [meetK_eq, g1, g2, g3]; rfl
         go_wp2_with fail; go_ret; exact ⟨ret_bool (by have h1 := HR3.out; rw [hm, Bool.true_or] at h1; have h2 := HR2.out; rw [← h1, Bool.true_or] at h2; exact h2), bel _ _⟩
       rcases g5 : (x.name.toList == y.name.toList) with _ | _
       · have hm : meetK x y = false := by rw [meetK_eq, g1, g2, g3, g5]; rfl
         go_wp2_with fail
         go_roundw
         case rel => exact ⟨k + 1, by go_num, by omega, by have := HR3.out; rw [hm, Bool.false_or] at this; exact this, bel _ _, HK.out.alloc _⟩
         case measure => simp [intOf]; omega
       rcases g4 : (x.name.toList == [46]) with _ | _
       · have hm : meetK x y = true := by rw [meetK_eq, g1, g2, g3, g5, g4]; rfl
         go_wp2_with fail; go_ret; exact ⟨ret_bool (by have h1 := HR3.out; rw [hm, Bool.true_or] at h1; have h2 := HR2.out; rw [← h1, Bool.true_or] at h2; exact h2), bel _ _⟩
       · have hm : meetK x y = false := by rw [meetK_eq, g1, g2, g3, g5, g4]; rfl
         go_wp2_with fail
         go_roundw
         case rel => exact ⟨k + 1, by go_num, by omega, by have := HR3.out; rw [hm, Bool.false_or] at this; exact this, bel _ _, HK.out.alloc _⟩
         case measure => simp [intOf]; omega
     · rw [any_end _ _ _ hlk] at hre2; have HR3 := Lib.hid hre2; clear hblk hre2; go_wp2_with fail
       go_roundw
       case rel => exact ⟨q + 1, by go_num, by omega, by have := HR2.out; rw [← HR3.out] at this; simpa using this, iB2.below⟩
       case measure => simp [intOf]; omega
  · rw [any_end _ _ _ hlt] at hre; subst hre; go_wp2_with fail; go_ret; exact ⟨rfl, bel _ _⟩
theorem nan116 (a : Int) (w : World) : Calls Tryz.prog 116 #[.int .i64 a] w fun e w' => e = .returned (.bool false) ∧ w' = w := by
 go_enter Tryz.func116, Tryz.ntmps116
 go_wp2_with fail
 go_ret
 exact ⟨rfl, rfl⟩
theorem nan117 (a : ByteArray) (w : World) : Calls Tryz.prog 117 #[.string a] w fun e w' => e = .returned (.bool false) ∧ w' = w := by
 go_enter Tryz.func117, Tryz.ntmps117
 go_wp2_with fail
 go_ret
 exact ⟨rfl, rfl⟩
theorem cmp78 (a b : Int) (w : World) : Calls Tryz.prog 78 #[.int .i64 a, .int .i64 b] w fun e w' => e = .returned (.int .i64 (cmpM a b)) ∧ w' = w := by
 unfold cmpM
 by_cases h1 : a < b
 · rw [if_pos h1]
   go_enter Tryz.func78, Tryz.ntmps78
   go_wp2_with (go_at_call 116; refine (nan116 _ _).mono ?_; rintro e w' ⟨rfl, rfl⟩)
   go_ret; exact ⟨rfl, rfl⟩
 · rw [if_neg h1]; by_cases h2 : b < a
   · rw [if_pos h2]
     go_enter Tryz.func78, Tryz.ntmps78
     go_wp2_with (go_at_call 116; refine (nan116 _ _).mono ?_; rintro e w' ⟨rfl, rfl⟩)
     go_ret; exact ⟨rfl, rfl⟩
   · rw [if_neg h2]
     go_enter Tryz.func78, Tryz.ntmps78
     go_wp2_with (go_at_call 116; refine (nan116 _ _).mono ?_; rintro e w' ⟨rfl, rfl⟩)
     go_ret; exact ⟨rfl, rfl⟩
theorem less_cmp (a b : ByteArray) : Op.bytesLess a.toList b.toList = decide (cmpS a b < 0) := by
 unfold cmpS
 rw [ByteArray.toList_eq, ByteArray.toList_eq]
 generalize a.data.toList = x
 generalize b.data.toList = y
 induction x generalizing y with
 | nil =>
   cases y with
   | nil => simp [Op.bytesLess, Lib.compareBytes]
   | cons d y => simp [Op.bytesLess, Lib.compareBytes]
 | cons c x ih =>
   cases y with
   | nil => simp [Op.bytesLess, Lib.compareBytes]
   | cons d y =>
     simp only [Op.bytesLess, Lib.compareBytes]; by_cases h1 : c < d
     · simp [h1]
     · by_cases h2 : d < c
       · simp [h1, h2]; intro e; subst e; exact absurd h2 (UInt8.lt_irrefl _)
       · have : c = d := UInt8.le_antisymm (UInt8.not_lt.1 h2) (UInt8.not_lt.1 h1); subst this; simp [ih]
theorem cmpS_cases (a b : ByteArray) : cmpS a b = -1 ∨ cmpS a b = 0 ∨ cmpS a b = 1 := by
 unfold cmpS
 generalize a.data.toList = x
 generalize b.data.toList = y
 induction x generalizing y with
 | nil => cases y <;> simp [Lib.compareBytes]
 | cons c x ih =>
   cases y with
   | nil => simp [Lib.compareBytes]
   | cons d y =>
     simp only [Lib.compareBytes]
     split
     · simp
     split
     · simp
     · exact ih y
theorem cmpS_eq (a b : ByteArray) : cmpS a b = 0 ↔ a = b := by
 have key : ∀ x y : List UInt8, Lib.compareBytes x y = 0 ↔ x = y := by
  intro x
  induction x with
  | nil => intro y; cases y <;> simp [Lib.compareBytes]
  | cons c x ih =>
    intro y; cases y with
    | nil => simp [Lib.compareBytes]
    | cons d y =>
      simp only [Lib.compareBytes]; by_cases h1 : c < d
      · rw [if_pos h1]; constructor
        · intro h; cases h
        · intro h; injection h with h _; subst h; exact absurd h1 (UInt8.lt_irrefl c)
      · rw [if_neg h1]; by_cases h2 : d < c
        · rw [if_pos h2]; constructor
          · intro h; cases h
          · intro h; injection h with h _; subst h; exact absurd h2 (UInt8.lt_irrefl c)
        · rw [if_neg h2, ih]; have : c = d := UInt8.le_antisymm (UInt8.not_lt.1 h2) (UInt8.not_lt.1 h1); simp [this]
 unfold cmpS
 rw [key]
 constructor
 · intro h; rcases a with ⟨⟨l⟩⟩
   rcases b with ⟨⟨m⟩⟩
   cases h; rfl
 · intro h; rw [h]
theorem cmp79 (a b : ByteArray) (w : World) : Calls Tryz.prog 79 #[.string a, .string b] w fun e w' => e = .returned (.int .i64 (cmpS a b)) ∧ w' = w := by
 have hl := less_cmp a b
 have he : (a.toList == b.toList) = decide (cmpS a b = 0) := by
  rw [Bool.eq_iff_iff, beq_iff_eq, decide_eq_true_iff, cmpS_eq, ByteArray.toList_eq, ByteArray.toList_eq]; constructor
  · intro h; rcases a with ⟨⟨l⟩⟩
    rcases b with ⟨⟨m⟩⟩
    cases h; rfl
  · intro h; rw [h]
 rcases cmpS_cases a b with h | h | h
 · have hl1 : Op.bytesLess a.toList b.toList = true := by rw [hl, h]; rfl
   have he1 : (a.toList == b.toList) = false := by rw [he, h]; rfl
   rw [h]; clear h hl he
   go_enter Tryz.func79, Tryz.ntmps79
   go_wp2_with (go_at_call 117; refine (nan117 _ _).mono ?_; rintro e w' ⟨rfl, rfl⟩)
   go_ret; exact ⟨rfl, rfl⟩
 · have hl1 : Op.bytesLess a.toList b.toList = false := by rw [hl, h]; rfl
   have he1 : (a.toList == b.toList) = true := by rw [he, h]; rfl
   rw [h]; clear h hl he
   go_enter Tryz.func79, Tryz.ntmps79
   go_wp2_with (go_at_call 117; refine (nan117 _ _).mono ?_; rintro e w' ⟨rfl, rfl⟩)
   go_ret; exact ⟨rfl, rfl⟩
 · have hl1 : Op.bytesLess a.toList b.toList = false := by rw [hl, h]; rfl
   have he1 : (a.toList == b.toList) = false := by rw [he, h]; rfl
   rw [h]; clear h hl he
   go_enter Tryz.func79, Tryz.ntmps79
   go_wp2_with (go_at_call 117; refine (nan117 _ _).mono ?_; rintro e w' ⟨rfl, rfl⟩)
   go_ret; exact ⟨rfl, rfl⟩
theorem or77 (b : Nat) (x y : Int) (w : World) (hb : Blk w b #[.int .i64 x, .int .i64 y] 3) : Calls Tryz.prog 77 #[.slice (some ⟨b, 0, none⟩) 2 2] w fun e w' => e = .returned (.int .i64 (if x ≠ 0 then x else y)) ∧ w' = w := by
 have ib := hb.lt
 have c0 : w.cell? ⟨b, 0, none⟩ = some (.int .i64 x) := hb.cell 0
 have c1 : w.cell? ⟨b, 1, none⟩ = some (.int .i64 y) := hb.cell 1
 clear hb
 obtain ⟨R, hR⟩ : ∃ R, (if x ≠ 0 then x else y) = R := ⟨_, rfl⟩
 rw [hR]
 have HR := Lib.hid hR
 clear hR
 go_enter Tryz.func77, Tryz.ntmps77
 go_wp2_with fail
 go_loopw [5, 8] (fun _ vi wr => wr = w ∧ ∃ q : Nat, vi = .int .i64 q ∧ q ≤ 2 ∧ (1 ≤ q → x = 0) ∧ (2 ≤ q → y = 0)) (fun _ vi _ => (2 - intOf vi).toNat)
 case atStart => exact ⟨rfl, 0, rfl, by omega, fun h => absurd h (by omega), fun h => absurd h (by omega)⟩
 case round =>
  obtain ⟨rfl, q, rfl, hq, h1, h2⟩ := hrel; rcases q with _ | _ | _ | q
  · rcases hx : (x != 0) with _ | _
    · have HX := Lib.hid hx; go_wp2_with fail
      go_roundw
      case rel => exact ⟨trivial, 1, rfl, by omega, fun _ => by simpa using HX.out, fun h => absurd h (by omega)⟩
      case measure => simp [intOf]
    · have e : R = x := by rw [← HR.out, if_pos (by simpa using hx)]
      go_wp2_with fail; go_ret; exact ⟨ret_int e.symm, rfl⟩
  · have HX := Lib.hid (h1 (by omega)); have e : R = y := by rw [← HR.out, if_neg (by rw [HX.out]; simp)]
    rcases hy : (y != 0) with _ | _
    · have HY := Lib.hid hy; clear h1 h2; go_wp2_with fail
      go_roundw
      case rel => exact ⟨trivial, 2, rfl, by omega, fun _ => HX.out, fun _ => by simpa using HY.out⟩
      case measure => simp [intOf]
    · clear h1 h2; go_wp2_with fail; go_ret; exact ⟨ret_int e.symm, rfl⟩
  · have HX := Lib.hid (And.intro (h1 (by omega)) (h2 (by omega))); have e : R = 0 := by rw [← HR.out, if_neg (by rw [HX.out.1]; simp), HX.out.2]
    clear h1 h2; go_wp2_with fail; go_ret; exact ⟨ret_int e.symm, rfl⟩
  · omega
def cmpK (x y : PKey) : Int := if cmpM x.num y.num ≠ 0 then cmpM x.num y.num else cmpS x.name y.name
theorem closure76 (x y : PKey) (w : World) : Calls Tryz.prog 76 #[.agg #[.int .i64 x.num, .string x.name], .agg #[.int .i64 y.num, .string y.name]] w fun e w' => e = .returned (.int .i64 (cmpK x y)) ∧ ∃ q os, w' = Sort.grow (w.drewN q) os := by
 unfold cmpK
 have h78 := fun ww => cmp78 x.num y.num ww
 have h79 := fun ww => cmp79 x.name y.name ww
 generalize cmpM x.num y.num = c1 at h78 ⊢
 generalize cmpS x.name y.name = c2 at h79 ⊢
 obtain ⟨R, hR⟩ : ∃ R, (if c1 ≠ 0 then c1 else c2) = R := ⟨_, rfl⟩
 have h77 : ∀ b ww, Blk ww b #[.int .i64 c1, .int .i64 c2] 3 → Calls Tryz.prog 77 #[.slice (some ⟨b, 0, none⟩) 2 2] ww fun e w' => e = .returned (.int .i64 R) ∧ w' = ww := fun b ww hb => by rw [← hR]; exact or77 b c1 c2 ww hb
 rw [hR]
 clear hR
 go_enter Tryz.func76, Tryz.ntmps76
 go_upto_region 1 with fail
 go_region_held3 (fun w' => w'.cell? ⟨w.heap.size, 0, none⟩ = some (.int .i64 x.num) ∧ w'.cell? ⟨w.heap.size, 1, none⟩ = some (.string x.name) ∧ w'.cell? ⟨w.heap.size + 1, 0, none⟩ = some (.int .i64 y.num) ∧ w'.cell? ⟨w.heap.size + 1, 1, none⟩ = some (.string y.name))
  (first | (try dsimp only) <;> (repeat' apply And.intro) <;> go_simp)
  (first | (go_at_call 78; refine (h78 _).mono ?_; rintro e w' ⟨rfl, rfl⟩) | (go_at_call 79; refine (h79 _).mono ?_; rintro e w' ⟨rfl, rfl⟩) | (go_at_call 77; refine (h77 _ _ (by exact Blk.new_i _ _ _ _)).mono ?_; rintro e w' ⟨rfl, rfl⟩))
 all_goals go_wp2_with fail
 all_goals (go_ret; refine ⟨rfl, 1, #[.cells #[.int .i64 x.num, .string x.name] 61, .cells #[.int .i64 y.num, .string y.name] 61, .cells #[.int .i64 c1, .int .i64 c2] 3], ?_⟩; rfl)
end Go.Proofs.YtmkapobnfigedaaGreatDoor
namespace Go.Proofs
open Go.Shelf
def Tryz.sort75_ren : Go.Shelf.Ren := ⟨fun | 6 => 75 | 15 => 115 | 14 => 114 | 28 => 164 | 29 => 165 | 20 => 156 | 21 => 157 | 22 => 158 | 23 => 159 | 24 => 160 | 25 => 161 | 26 => 162 | 27 => 163 | 46 => 192 | 47 => 193 | 48 => 194 | 49 => 195 | 50 => 196 | 57 => 209 | n => n, fun | 22 => 29 | 24 => 61 | 25 => 111 | 3 => 3 | 39 => 57 | 0 => 0 | 53 => 180 | 55 => 146 | 4 => 4 | 46 => 174 | 45 => 173 | 50 => 159 | 5 => 5 | 9 => 9 | 66 => 201 | 70 => 205 | 76 => 216 | 77 => 77 | n => n, fun | n => n⟩
theorem Tryz.sort75 : Go.Proofs.SlLaysF0.n6 Tryz.prog Tryz.sort75_ren := {
 mixed := by kernel_rfl
 f6 := ⟨Tryz.f75.name, by decide, Tryz.func75.trans (congrArg some (by kernel_rfl))⟩
 f14 := ⟨Tryz.f114.name, by decide, Tryz.func114.trans (congrArg some (by kernel_rfl))⟩
 f15 := Tryz.func115.trans (congrArg some (by kernel_rfl))
 f20 := ⟨Tryz.f156.name, by decide, Tryz.func156.trans (congrArg some (by kernel_rfl))⟩
 f21 := ⟨Tryz.f157.name, by decide, Tryz.func157.trans (congrArg some (by kernel_rfl))⟩
 f22 := ⟨Tryz.f158.name, by decide, Tryz.func158.trans (congrArg some (by kernel_rfl))⟩
 f23 := ⟨Tryz.f159.name, by decide, Tryz.func159.trans (congrArg some (by kernel_rfl))⟩
 f24 := ⟨Tryz.f160.name, by decide, Tryz.func160.trans (congrArg some (by kernel_rfl))⟩
 f25 := ⟨Tryz.f161.name, by decide, Tryz.func161.trans (congrArg some (by kernel_rfl))⟩
 f26 := ⟨Tryz.f162.name, by decide, Tryz.func162.trans (congrArg some (by kernel_rfl))⟩
 f27 := ⟨Tryz.f163.name, by decide, Tryz.func163.trans (congrArg some (by kernel_rfl))⟩
 f28 := Tryz.func164.trans (congrArg some (by kernel_rfl))
 f29 := Tryz.func165.trans (congrArg some (by kernel_rfl))
 f46 := ⟨Tryz.f192.name, by decide, Tryz.func192.trans (congrArg some (by kernel_rfl))⟩
 f47 := Tryz.func193.trans (congrArg some (by kernel_rfl))
 f48 := Tryz.func194.trans (congrArg some (by kernel_rfl))
 f49 := ⟨Tryz.f195.name, by decide, Tryz.func195.trans (congrArg some (by kernel_rfl))⟩
 f50 := ⟨Tryz.f196.name, by decide, Tryz.func196.trans (congrArg some (by kernel_rfl))⟩
 f57 := ⟨Tryz.f209.name, by decide, Tryz.func209.trans (congrArg some (by kernel_rfl))⟩
 t0 := Tryz.underlying0
 a0 := Tryz.isAgg0
 z0 := Tryz.sizeOf0
 v0 := Tryz.zeroValue0
 t3 := Tryz.underlying3
 a3 := Tryz.isAgg3
 z3 := Tryz.sizeOf3
 v3 := Tryz.zeroValue3
 t4 := Tryz.underlying4
 a4 := Tryz.isAgg4
 z4 := Tryz.sizeOf4
 v4 := Tryz.zeroValue4
 t5 := Tryz.underlying5
 a5 := Tryz.isAgg5
 z5 := Tryz.sizeOf5
 v5 := Tryz.zeroValue5
 t9 := Tryz.underlying9
 a9 := Tryz.isAgg9
 z9 := Tryz.sizeOf9
 v9 := Tryz.zeroValue9
 t22 := Tryz.underlying29
 a22 := Tryz.isAgg29
 z22 := Tryz.sizeOf29
 v22 := Tryz.zeroValue29
 t25 := Tryz.underlying111
 a25 := Tryz.isAgg111
 z25 := Tryz.sizeOf111
 v25 := Tryz.zeroValue111
 t39 := Tryz.underlying57
 a39 := Tryz.isAgg57
 z39 := Tryz.sizeOf57
 v39 := Tryz.zeroValue57
 t45 := Tryz.underlying173
 a45 := Tryz.isAgg173
 z45 := Tryz.sizeOf173
 v45 := Tryz.zeroValue173
 t46 := Tryz.underlying174
 a46 := Tryz.isAgg174
 z46 := Tryz.sizeOf174
 v46 := Tryz.zeroValue174
 t50 := Tryz.underlying159
 a50 := Tryz.isAgg159
 z50 := Tryz.sizeOf159
 v50 := Tryz.zeroValue159
 t53 := Tryz.underlying180
 a53 := Tryz.isAgg180
 z53 := Tryz.sizeOf180
 v53 := Tryz.zeroValue180
 t55 := Tryz.underlying146
 a55 := Tryz.isAgg146
 z55 := Tryz.sizeOf146
 v55 := Tryz.zeroValue146
 t66 := Tryz.underlying201
 a66 := Tryz.isAgg201
 z66 := Tryz.sizeOf201
 v66 := Tryz.zeroValue201
 t70 := Tryz.underlying205
 a70 := Tryz.isAgg205
 z70 := Tryz.sizeOf205
 v70 := Tryz.zeroValue205
 t76 := Tryz.underlying216
 a76 := Tryz.isAgg216
 z76 := Tryz.sizeOf216
 v76 := Tryz.zeroValue216
 t77 := Tryz.underlying77
 a77 := Tryz.isAgg77
 z77 := Tryz.sizeOf77
 v77 := Tryz.zeroValue77 }
def Tryz.lays171_ren : Go.Shelf.Ren := ⟨fun | 171 => 151 | 243 => 189 | 246 => 208 | 283 => 216 | 284 => 217 | 285 => 218 | 286 => 219 | 129 => 165 | 317 => 224 | 318 => 225 | 319 => 226 | 320 => 227 | 337 => 229 | 338 => 230 | n => n, fun | 3 => 3 | 9 => 9 | 2 => 2 | 4 => 4 | 171 => 219 | 0 => 0 | 53 => 146 | 37 => 147 | 5 => 5 | 173 => 221 | 212 => 226 | 51 => 180 | 20 => 20 | 213 => 227 | 46 => 57 | 232 => 229 | 233 => 230 | n => n, fun | 17 => 1 | 18 => 2 | 19 => 3 | n => n⟩
theorem Tryz.lays171 : Go.Proofs.Lays.n171 Tryz.prog Tryz.lays171_ren := {
 mixed := by kernel_rfl
 f129 := Tryz.func165.trans (congrArg some (by kernel_rfl))
 f171 := Tryz.func151.trans (congrArg some (by kernel_rfl))
 f243 := Tryz.func189.trans (congrArg some (by kernel_rfl))
 f246 := Tryz.func208.trans (congrArg some (by kernel_rfl))
 f283 := Tryz.func216.trans (congrArg some (by kernel_rfl))
 f284 := Tryz.func217.trans (congrArg some (by kernel_rfl))
 f285 := Tryz.func218.trans (congrArg some (by kernel_rfl))
 f286 := Tryz.func219.trans (congrArg some (by kernel_rfl))
 f317 := Tryz.func224.trans (congrArg some (by kernel_rfl))
 f318 := Tryz.func225.trans (congrArg some (by kernel_rfl))
 f319 := Tryz.func226.trans (congrArg some (by kernel_rfl))
 f320 := Tryz.func227.trans (congrArg some (by kernel_rfl))
 f337 := Tryz.func229.trans (congrArg some (by kernel_rfl))
 f338 := Tryz.func230.trans (congrArg some (by kernel_rfl))
 t0 := Tryz.underlying0
 a0 := Tryz.isAgg0
 z0 := Tryz.sizeOf0
 v0 := Tryz.zeroValue0
 t2 := Tryz.underlying2
 a2 := Tryz.isAgg2
 z2 := Tryz.sizeOf2
 v2 := Tryz.zeroValue2
 t3 := Tryz.underlying3
 a3 := Tryz.isAgg3
 z3 := Tryz.sizeOf3
 v3 := Tryz.zeroValue3
 t4 := Tryz.underlying4
 a4 := Tryz.isAgg4
 z4 := Tryz.sizeOf4
 v4 := Tryz.zeroValue4
 t5 := Tryz.underlying5
 a5 := Tryz.isAgg5
 z5 := Tryz.sizeOf5
 v5 := Tryz.zeroValue5
 t9 := Tryz.underlying9
 a9 := Tryz.isAgg9
 z9 := Tryz.sizeOf9
 v9 := Tryz.zeroValue9
 t20 := Tryz.underlying20
 a20 := Tryz.isAgg20
 z20 := Tryz.sizeOf20
 v20 := Tryz.zeroValue20
 t37 := Tryz.underlying147
 a37 := Tryz.isAgg147
 z37 := Tryz.sizeOf147
 v37 := Tryz.zeroValue147
 t46 := Tryz.underlying57
 a46 := Tryz.isAgg57
 z46 := Tryz.sizeOf57
 v46 := Tryz.zeroValue57
 t51 := Tryz.underlying180
 a51 := Tryz.isAgg180
 z51 := Tryz.sizeOf180
 v51 := Tryz.zeroValue180
 t53 := Tryz.underlying146
 a53 := Tryz.isAgg146
 z53 := Tryz.sizeOf146
 v53 := Tryz.zeroValue146
 t171 := Tryz.underlying219
 a171 := Tryz.isAgg219
 z171 := Tryz.sizeOf219
 v171 := Tryz.zeroValue219
 t173 := Tryz.underlying221
 a173 := Tryz.isAgg221
 z173 := Tryz.sizeOf221
 v173 := Tryz.zeroValue221
 t212 := Tryz.underlying226
 a212 := Tryz.isAgg226
 z212 := Tryz.sizeOf226
 v212 := Tryz.zeroValue226
 t213 := Tryz.underlying227
 a213 := Tryz.isAgg227
 z213 := Tryz.sizeOf227
 t232 := Tryz.underlying229
 a232 := Tryz.isAgg229
 z232 := Tryz.sizeOf229
 v232 := Tryz.zeroValue229
 t233 := Tryz.underlying230
 a233 := Tryz.isAgg230
 z233 := Tryz.sizeOf230
 v233 := Tryz.zeroValue230
 g17 := by kernel_rfl
 g18 := by kernel_rfl
 g19 := by kernel_rfl }
open Go.RowKit Go.Sort Go.Lib in
theorem Tryz.strconv_Itoa_small (i : Nat) (hi : i < 100) (w : World) :
 Calls Tryz.prog 151 #[.int .i64 i] w fun e w' => e = .returned (.string ⟨(Lib.decDigits i).toArray⟩) ∧ w' = w := Any.strconv_Itoa_small Tryz.lays171 i hi w
end Go.Proofs
namespace Go.Proofs.YtmkapobnfigedaaGreatDoor
open Go.RowKit
open Go.RowKit Go.Shelf Go.Sort
instance : Inhabited PKey := ⟨⟨0, ⟨#[]⟩⟩⟩
theorem cb_trans : ∀ x y z : List UInt8, Lib.compareBytes x y < 0 → Lib.compareBytes y z < 0 → Lib.compareBytes x z < 0
 | [], [], z, h, _ => by simp [Lib.compareBytes] at h
 | [], _ :: _, [], _, h => by simp [Lib.compareBytes] at h
 | [], _ :: _, _ :: _, _, _ => by simp [Lib.compareBytes]
 | _ :: _, [], _, h, _ => by simp [Lib.compareBytes] at h
 | _ :: _, _ :: _, [], _, h => by simp [Lib.compareBytes] at h
 | a :: x, b :: y, c :: z, h1, h2 => by
   simp only [Lib.compareBytes] at h1 h2 ⊢; by_cases ab : a < b
   · by_cases bc : b < c
     · rw [if_pos (UInt8.lt_trans ab bc)]; decide
     · rw [if_neg bc] at h2; by_cases cb : c < b
       · rw [if_pos cb] at h2; exact absurd h2 (by decide)
       · have e : b = c := UInt8.le_antisymm (UInt8.not_lt.1 cb) (UInt8.not_lt.1 bc); subst e; rw [if_pos ab]; decide
   · rw [if_neg ab] at h1; by_cases ba : b < a
     · rw [if_pos ba] at h1; exact absurd h1 (by decide)
     · rw [if_neg ba] at h1; have e : a = b := UInt8.le_antisymm (UInt8.not_lt.1 ba) (UInt8.not_lt.1 ab); subst e; by_cases bc : a < c
       · rw [if_pos bc]; decide
       · rw [if_neg bc] at h2 ⊢; by_cases cb : c < a
         · rw [if_pos cb] at h2; exact absurd h2 (by decide)
         · rw [if_neg cb] at h2 ⊢; exact cb_trans x y z h1 h2
theorem cb_total : ∀ x y : List UInt8, Lib.compareBytes x y < 0 ∨ x = y ∨ Lib.compareBytes y x < 0
 | [], [] => .inr (.inl rfl)
 | [], _ :: _ => .inl (by simp [Lib.compareBytes])
 | _ :: _, [] => .inr (.inr (by simp [Lib.compareBytes]))
 | a :: x, b :: y => by
   simp only [Lib.compareBytes]; by_cases ab : a < b
   · refine .inl ?_; rw [if_pos ab]; decide
   by_cases ba : b < a
   · refine .inr (.inr ?_); rw [if_pos ba]; decide
   have e : a = b := UInt8.le_antisymm (UInt8.not_lt.1 ba) (UInt8.not_lt.1 ab); subst e; simp only [if_neg ab]; rcases cb_total x y with h | h | h
   · exact .inl h
   · exact .inr (.inl (by rw [h]))
   · exact .inr (.inr h)
theorem cb_irrefl : ∀ x : List UInt8, ¬ Lib.compareBytes x x < 0
 | [] => by simp [Lib.compareBytes]
 | a :: x => by
   simp only [Lib.compareBytes]; rw [if_neg (UInt8.lt_irrefl a), if_neg (UInt8.lt_irrefl a)]; exact cb_irrefl x
theorem cmpS_total (a b : ByteArray) : cmpS a b < 0 ∨ a = b ∨ cmpS b a < 0 := by
 rcases cb_total a.data.toList b.data.toList with h | h | h
 · exact .inl h
 · refine .inr (.inl ?_); rcases a with ⟨⟨l⟩⟩
   rcases b with ⟨⟨m⟩⟩
   cases h; rfl
 · exact .inr (.inr h)
def ltK (x y : PKey) : Bool := decide (x.num < y.num) || ((x.num == y.num) && decide (cmpS x.name y.name < 0))
theorem ltK_iff {x y : PKey} : ltK x y = true ↔ x.num < y.num ∨ (x.num = y.num ∧ cmpS x.name y.name < 0) := by
 unfold ltK
 simp
theorem ltOf_cmpK (x y : PKey) : ltOf cmpK x y = ltK x y := by
 unfold ltOf cmpK ltK cmpM
 by_cases h1 : x.num < y.num
 · simp [h1]
 · by_cases h2 : y.num < x.num
   · have h3 : ¬ x.num = y.num := by omega
     simp [h1, h2, h3]
   · have h3 : x.num = y.num := by omega
     simp [h3]
theorem ltK_irrefl (x : PKey) : ltK x x = false := by
 rw [Bool.eq_false_iff]
 intro h
 rcases ltK_iff.1 h with h | ⟨_, h⟩
 · omega
 · exact cb_irrefl _ h
theorem ltK_trans {x y z : PKey} (h1 : ltK x y = true) (h2 : ltK y z = true) : ltK x z = true := by
 rw [ltK_iff] at *
 rcases h1 with h1 | ⟨h1, g1⟩ <;> rcases h2 with h2 | ⟨h2, g2⟩
 · exact .inl (by omega)
 · exact .inl (by omega)
 · exact .inl (by omega)
 · exact .inr ⟨by omega, cb_trans _ _ _ g1 g2⟩
theorem ltK_total (x y : PKey) : ltK x y = true ∨ x = y ∨ ltK y x = true := by
 rw [ltK_iff, ltK_iff]
 by_cases h1 : x.num < y.num
 · exact .inl (.inl h1)
 by_cases h2 : y.num < x.num
 · exact .inr (.inr (.inl h2))
 have h3 : x.num = y.num := by omega
 rcases cmpS_total x.name y.name with h | h | h
 · exact .inl (.inr ⟨h3, h⟩)
 · refine .inr (.inl ?_); cases x; cases y; simp only at h h3; rw [h, h3]
 · exact .inr (.inr (.inr ⟨h3.symm, h⟩))
theorem swoK : SWO (ltOf cmpK) where
 irrefl x := by rw [ltOf_cmpK]; exact ltK_irrefl x
 trans x y z h1 h2 := by
  rw [ltOf_cmpK] at *; exact ltK_trans h1 h2
 ntrans x y z h1 h2 := by
  rw [ltOf_cmpK] at *; rw [Bool.eq_false_iff]; intro h; rcases ltK_total x y with h3 | h3 | h3
  · rw [h3] at h1; cases h1
  · subst h3; rw [h] at h2; cases h2
  · rw [ltK_trans h3 h] at h2; cases h2
theorem totK (x y : PKey) (h1 : ltOf cmpK x y = false) (h2 : ltOf cmpK y x = false) : x = y := by
 rw [ltOf_cmpK] at *
 rcases ltK_total x y with h | h | h
 · rw [h] at h1; cases h1
 · exact h
 · rw [h] at h2; cases h2
def sortK (ks : List PKey) : List PKey := ks.mergeSort fun x y => !ltK y x
theorem sortK_len (ks : List PKey) : (sortK ks).length = ks.length := by unfold sortK; exact List.length_mergeSort _
theorem isAgg61 (w : World) : (isAgg 61).run Tryz.prog w = .ok true w := by
 have h := Tryz.isAgg61
 first | exact h w | simp [isAgg, h]
theorem size61 (w : World) : (Go.sizeOf 61).run Tryz.prog w = .ok 2 w := by
 have h := Tryz.sizeOf61
 first | exact h w | simp [Go.sizeOf, h]
theorem flat_pk (ks : List PKey) (j : Nat) (hj : j < ks.length * 2) : (flatK PKey.cells 2 ks.toArray)[j]! = (match ks[j / 2]? with | some x => if j % 2 = 0 then Value.int .i64 x.num else .string x.name | none => undef) := by
 rw [get_flatK _ _ _ _ (by simpa using hj)]
 have hq : j / 2 < ks.length := by omega
 have e1 : ks.toArray[j / 2]! = ks[j / 2] := by simp [hq]
 rw [e1, gE hq]
 simp only
 rcases Nat.mod_two_eq_zero_or_one j with h | h <;> rw [h] <;> rfl
theorem rowsIn_pk {arr : Array Value} {ks : List PKey} (h : RowsIn arr 2 (ks.map PKey.cells)) (j : Nat) (hj : j < ks.length * 2) : arr[j]? = some ((flatK PKey.cells 2 ks.toArray)[j]!) := by
 have hq : j / 2 < ks.length := by omega
 have e : j = j / 2 * 2 + j % 2 := by omega
 have h1 := h (j / 2) (ks[j / 2]).cells (by rw [gM, gE hq]; rfl) (j % 2)
 rw [flat_pk ks j hj, gE hq]
 simp only
 rcases Nat.mod_two_eq_zero_or_one j with hm | hm
 · rw [if_pos hm]; rw [hm] at h1; rw [← h1 _ rfl]
   congr 1
   omega
 · rw [if_neg (by omega)]; rw [hm] at h1; rw [← h1 _ rfl]
   congr 1
   omega
theorem sort75 (B g cap : Nat) (ks : List PKey) (w : World) (h : OwnP B w 61 2 (.slice (some ⟨g, 0, none⟩) ks.length cap) (ks.map PKey.cells)) (hlen : ks.length ≤ 1000000) :
 Calls Tryz.prog 75 #[.slice (some ⟨g, 0, none⟩) ks.length cap, .func (.func 76) #[] #[]] w fun e w' => e = .returned (.tuple #[]) ∧ OwnP B w' 61 2 (.slice (some ⟨g, 0, none⟩) ks.length cap) ((sortK ks).map PKey.cells) ∧ Keep (fun b => b = g) w w' := by
 rcases h with ⟨h1, h2⟩ | ⟨g', cap', arr, he, hB, hbk, hn, hcm, hsz, hrows⟩
 · simp at h1
 rw [lM] at hn
 simp only [Value.slice.injEq, Option.some.injEq, Addr.mk.injEq, and_true, lM] at he
 obtain ⟨rfl, -, rfl⟩ := he
 have hlt := hbk.lt.lt
 have hH : HoldsK PKey.cells 2 w g 0 ks.toArray := by
  intro j hj; rw [size_flatK] at hj; have hj2 : j < ks.length * 2 := by simpa using hj
  rw [Nat.zero_add, hbk.cell, hbk.frozen]; exact ⟨rowsIn_pk hrows j hj2, rfl⟩
 have hcon := AnyQ.slices_SortFunc_total Tryz.sort75 2 isAgg61 size61 PKey.cells (fun _ => rfl) (fun x v hv => pkey_one [x] x.cells (by simp) v hv) cmpK swoK 76 #[] g 0 cap ks.toArray w
  (enters_of Tryz.func76 (by kernel_rfl) rfl) (fun _ _ _ _ x y => closure76 x y _) hH hlt (by simp; omega) totK
 change Calls Tryz.prog 75 _ _ _ at hcon
 have e1 : (fun x y => !(ltOf cmpK) y x) = (fun x y => !ltK y x) := by funext x y; rw [ltOf_cmpK]
 rw [e1] at hcon
 refine hcon.mono ?_
 rintro e w' ⟨he, n, os, rfl⟩
 refine ⟨he, ?_, ?_⟩
 · refine .inr ⟨g, cap, putCells id 0 (flatK PKey.cells 2 (sortK ks).toArray) arr, by rw [lM, sortK_len], hB, ?_, by rw [lM, sortK_len]; exact hn, hcm, by simp [putCells, hsz], ?_⟩
   · unfold Blk at hbk ⊢; unfold sortWorldK putRowK putRow mapBlock Sort.ahead grow; simp only; rw [Array.getElem?_append_left (by simp; exact hlt), Array.getElem?_modify, if_pos rfl, hbk]; rfl
   · intro q cs hq t u hc; rw [gM] at hq; obtain ⟨x, hx, rfl⟩ := Option.map_eq_some_iff.1 hq; obtain ⟨hql, _⟩ := gI.1 hx; have ht : t < 2 := by
      obtain ⟨h, _⟩ := gI.1 hc; exact h
     have hsl := sortK_len ks; have hj : q * 2 + t < (sortK ks).length * 2 := by omega
     have hja : q * 2 + t < arr.size := by omega
     unfold putCells; rw [Array.getElem?_mapIdx, Array.getElem?_eq_getElem hja, Option.map_some]; rw [if_pos (by rw [size_flatK]; simp; omega), Nat.sub_zero, flat_pk _ _ hj, show (q * 2 + t) / 2 = q by omega, show (q * 2 + t) % 2 = t by omega, hx]; rcases t with _ | _ | t
     · cases hc; rfl
     · cases hc; rfl
     · omega
 · refine ⟨rfl, rfl, rfl, ?_, fun i hi hn => ?_⟩
   · unfold sortWorldK putRowK putRow mapBlock Sort.ahead grow; simp
   · unfold sortWorldK putRowK putRow mapBlock Sort.ahead grow; simp only; rw [Array.getElem?_append_left (by simp; exact hi), Array.getElem?_modify, if_neg (fun h => hn h.symm)]
theorem fields61 : (Tryz.prog.fieldsOf 61).toList.map (fun f => (f.name, f.type, f.offset)) = [("Num", 3, 0), ("Name", 9, 1)] := by kernel_rfl
theorem held61 : Tryz.prog.stoodInHeld 61 = false := by kernel_rfl
theorem guard61 : Tryz.prog.eqGuardType Tryz.prog.depth 61 = false := by kernel_rfl
theorem under61 : Tryz.prog.underlying 61 = some (.struct (Tryz.prog.fieldsOf 61)) := by kernel_rfl
theorem key_eq (x y : PKey) : decide (x = y) = ((x.num == y.num) && (x.name.toList == y.name.toList)) := by
 rw [Bool.eq_iff_iff, decide_eq_true_iff, Bool.and_eq_true, beq_iff_eq, beq_iff_eq, ByteArray.toList_eq, ByteArray.toList_eq]
 constructor
 · intro h; subst h; exact ⟨rfl, rfl⟩
 · intro ⟨h1, h2⟩; rcases x with ⟨xn, ⟨⟨xs⟩⟩⟩
   rcases y with ⟨yn, ⟨⟨ys⟩⟩⟩
   simp only at h1 h2; subst h1; have h3 : xs = ys := h2; rw [h3]
theorem equal61 (x y : PKey) (w : World) : (Op.equalIn 10000 61 (.agg #[.int .i64 x.num, .string x.name]) (.agg #[.int .i64 y.num, .string y.name])).run Tryz.prog w = .ok (decide (x = y)) w := by
 rw [run_equalIn_agg w 9999 61 _ _ under61 held61, key_eq]
 have hf := fields61
 rcases hl : (Tryz.prog.fieldsOf 61).toList with _ | ⟨f1, _ | ⟨f2, _ | ⟨f3, r⟩⟩⟩
 · rw [hl] at hf; simp at hf
 · rw [hl] at hf; simp at hf
 · rw [hl] at hf; simp only [List.map_cons, List.map_nil, List.cons.injEq, Prod.mk.injEq, and_true] at hf; obtain ⟨⟨n1, t1, o1⟩, n2, t2, o2⟩ := hf; simp only [Op.eqFields]; rw [if_pos (by rw [n1]; decide), if_pos (by rw [n2]; decide), t1, t2, o1, o2]; have p1 : ∀ (k : PKey) w, (part 3 #[.int .i64 k.num, .string k.name] 0).run Tryz.prog w = .ok (.int .i64 k.num) w := fun k w => by
    have h3 := Tryz.sizeOf3 w; have h4 := Tryz.isAgg3 w; simp [part, go_sem, h3, h4]
   have p2 : ∀ (k : PKey) w, (part 9 #[.int .i64 k.num, .string k.name] 1).run Tryz.prog w = .ok (.string k.name) w := fun k w => by
    have h3 := Tryz.sizeOf9 w; have h4 := Tryz.isAgg9 w; simp [part, go_sem, h3, h4]
   simp only [Sem.run_bind, p1, p2, Result.andThen_ok, run_equalIn_int w 9998 3 .i64 .i64 _ _ Tryz.underlying3]; rcases h1 : (x.num == y.num) with _ | _
   · simp
   · simp only [Bool.not_true, Bool.false_eq_true, if_false, Sem.run_bind, p1, p2, Result.andThen_ok, run_equalIn_string w 9998 9 _ _ Tryz.underlying9]; rcases h2 : (x.name.toList == y.name.toList) with _ | _
     · simp
     · simp
 · rw [hl] at hf; simp at hf
theorem eql61 (x y : PKey) (w : World) : (binOp .eql 61 (.agg #[.int .i64 x.num, .string x.name]) (.agg #[.int .i64 y.num, .string y.name])).run Tryz.prog w = .ok (.bool (decide (x = y))) w := by
 rw [run_eql_struct, equal61]
 rfl
theorem neq61 (x y : PKey) (w : World) : (binOp .neq 61 (.agg #[.int .i64 x.num, .string x.name]) (.agg #[.int .i64 y.num, .string y.name])).run Tryz.prog w = .ok (.bool (!decide (x = y))) w := by
 rw [run_neq_struct, equal61]
 rfl
def ddFrom (p : PKey) : List PKey → List PKey
 | [] => []
 | y :: r => if y = p then ddFrom p r else y :: ddFrom y r
def dedupK : List PKey → List PKey
 | [] => []
 | x :: r => x :: ddFrom x r
theorem ddFrom_snoc : ∀ (r : List PKey) (p z : PKey), ddFrom p (r ++ [z]) = ddFrom p r ++ (if z = (p :: r).getLast (by simp) then [] else [z])
 | [], p, z => by
   simp only [List.nil_append, ddFrom, List.getLast_singleton]; rfl
 | y :: r, p, z => by
   simp only [List.cons_append, ddFrom]; rw [ddFrom_snoc r p z, ddFrom_snoc r y z]; have e1 : (p :: y :: r).getLast (by simp) = (y :: r).getLast (by simp) := List.getLast_cons _; by_cases h : y = p
   · subst h; rw [if_pos rfl, if_pos rfl, e1]
   · rw [if_neg h, if_neg h, e1]; rfl
theorem dedupK_snoc (l : List PKey) (m : Nat) (x y : PKey) (hx : l[m]? = some x) (hy : l[m + 1]? = some y) : dedupK (l.take (m + 2)) = dedupK (l.take (m + 1)) ++ (if y = x then [] else [y]) := by
 obtain ⟨hl, rfl⟩ := gI.1 hy
 obtain ⟨hl2, rfl⟩ := gI.1 hx
 rw [List.take_succ_eq_append_getElem (by omega)]
 rcases l with _ | ⟨a, r⟩
 · simp at hl
 rw [List.take_succ_cons, List.cons_append]
 simp only [dedupK]
 rw [ddFrom_snoc, List.cons_append]
 congr 3
 have : (a :: r.take m).getLast (by simp) = (a :: r)[m] := by
  rw [List.getLast_eq_getElem]; simp only [List.length_cons, List.length_take]; have e : min m r.length = m := by simp at hl; omega
  rcases m with _ | m
  · simp
  · simp [e]
 rw [this]
theorem zeroV61 (w : World) : (zeroValue 61).run Tryz.prog w = .ok (.agg #[.int .i64 0, .string { data := #[] }]) w := by kernel_rfl
theorem compact80 (B g cap : Nat) (ks : List PKey) (w : World) (h : OwnP B w 61 2 (.slice (some ⟨g, 0, none⟩) ks.length cap) (ks.map PKey.cells)) (hlen : ks.length ≤ 1000000) :
 Calls Tryz.prog 80 #[.slice (some ⟨g, 0, none⟩) ks.length cap] w fun e w' => e = .returned (.slice (some ⟨g, 0, none⟩) (dedupK ks).length cap) ∧ OwnP B w' 61 2 (.slice (some ⟨g, 0, none⟩) (dedupK ks).length cap) ((dedupK ks).map PKey.cells) ∧ Keep (fun b => b = g) w w' := by
 have HO := Lib.hid h
 rcases h with ⟨h1, h2⟩ | ⟨g', cap', arr, he, hB, hbk, hn, hcm, hsz, hrows⟩
 · simp at h1
 rw [lM] at hn
 simp only [Value.slice.injEq, Option.some.injEq, Addr.mk.injEq, and_true, lM] at he
 obtain ⟨rfl, -, rfl⟩ := he
 have iG := hbk.lt
 have hat : ∀ (wr : World) (q : Nat) (x : PKey), Below w.heap.size w wr → ks[q]? = some x → wr.cell? ⟨g, q * 2, none⟩ = some (.int .i64 x.num) ∧ wr.cell? ⟨g, q * 2 + 1, none⟩ = some (.string x.name) := fun wr q x hb hx => by
  have hbk := hbk.below hb hbk.lt.lt; rw [hbk.cell, hbk.cell]; have h1 := hrows q x.cells (by rw [gM, hx]; rfl); exact ⟨h1 0 _ rfl, h1 1 _ rfl⟩
 have HA := Lib.hid hat
 have HB := Lib.hid (And.intro hbk (And.intro hsz hrows))
 have ncI : (ks.length : Int) ≤ cap := by omega
 have HC := Lib.hid hcm
 clear hat hbk hsz hrows hcm
 by_cases h2 : ks.length < 2
 · have e : dedupK ks = ks := by
    rcases ks with _ | ⟨a, _ | ⟨b, r⟩⟩
    · rfl
    · rfl
    · simp at h2; omega
   rw [e]; have h2I : (ks.length : Int) < 2 := by omega
   go_enter Tryz.func80, Tryz.ntmps80
   go_wp2_with fail; go_ret; exact ⟨rfl, HO.out, Keep.refl _ _⟩
 have h2I : ¬ (ks.length : Int) < 2 := by omega
 go_enter Tryz.func80, Tryz.ntmps80
 go_wp2_with fail
 go_loopw [3] (fun vi wr => Below w.heap.size w wr ∧ ∃ k : Nat, vi = .int .i64 k ∧ 1 ≤ k ∧ k ≤ ks.length ∧ dedupK (ks.take k) = ks.take k) (fun vi _ => (ks.length - intOf vi).toNat)
 case atStart => exact ⟨bel _ _, 1, rfl, by omega, by omega, by
  rcases ks with _ | ⟨a, r⟩
  · rfl
  · rfl⟩
 case round =>
  obtain ⟨hbr, k, rfl, hk1, hkn, hdd⟩ := hrel; have iB : Bel w wr := ⟨hbr⟩
  have iGr : BlockLt g wr := ⟨by have := iG.lt; have := hbr.size; omega⟩
  obtain ⟨m, rfl⟩ : ∃ m, k = m + 1 := ⟨k - 1, by omega⟩
  have HD := Lib.hid hdd; clear hdd; by_cases hlt : m + 1 < ks.length
  · obtain ⟨y, hy⟩ : ∃ y, ks[m + 1]? = some y := ⟨_, gE hlt⟩
    obtain ⟨x, hx⟩ : ∃ x, ks[m]? = some x := ⟨_, gE (by omega)⟩
    obtain ⟨y0, y1⟩ := HA.out wr _ _ hbr hy; obtain ⟨x0, x1⟩ := HA.out wr _ _ hbr hx; have HS := Lib.hid (dedupK_snoc ks m x y hx hy); have eI : ((m + 1 : Nat) : Int) = (m : Int) + 1 := by omega
    have hltI : (m : Int) + 1 < ks.length := by omega
    have eb : (m : Int) + 1 - 1 = m := by omega
    have g0 : (0 : Int) ≤ (m : Int) + 1 := by omega
    have g1 : (m : Int) < ks.length := by omega
    have ew : IntKind.i64.wrap (m : Int) = m := I64.wrap (by unfold I64; omega); have HY := Lib.hid hy; clear hx hy; rw [eI]; have q0 := guard61; have q1 := fun w => eql61 y x w
    rcases hyx : decide (y = x) with _ | _
    · rw [hyx] at q1; have hne : ¬ y = x := of_decide_eq_false hyx; have HN := Lib.hid hne; clear hyx hne; go_wp2_with fail; refine wp_region_quiet_rest (by kernel_rfl) (by kernel_rfl) (WQ.out ?_)
      repeat
       refine WQ_step (fun K hK => ?_); go_simp
       first
        | (refine hK _ ?_; clear hK K)
        | (apply Exists.intro
           refine ⟨fun _ => ?_, hK _ ?_⟩
           focus (fail)
           clear hK K)
      refine WN fun p => ?_; go_wp2_with fail
      go_roundw
      case rel => exact ⟨(bel w wr).trans (bel wr _ |>.mono hbr.size), m + 2, by go_num, by omega, by omega, by
       have h1 := HS.out; rw [if_neg HN.out, HD.out] at h1; rw [h1, show m + 1 + 1 = m + 2 by omega, List.take_succ_eq_append_getElem (show m + 1 < ks.length by omega)]
       congr 2
       have := HY.out; rw [gE (show m + 1 < ks.length by omega)] at this; exact (Option.some.inj this).symm⟩
      case measure => simp [intOf]; omega
    · rw [hyx] at q1; have hne : y = x := of_decide_eq_true hyx; have HN := Lib.hid hne; clear hyx hne; go_wp2_with fail; refine wp_region_quiet_rest (by kernel_rfl) (by kernel_rfl) (WQ.out ?_)
      repeat
       refine WQ_step (fun K hK => ?_); go_simp
       first
        | (refine hK _ ?_; clear hK K)
        | (apply Exists.intro
           refine ⟨fun _ => ?_, hK _ ?_⟩
           focus (fail)
           clear hK K)
      refine WN fun p => ?_; have bcap : ¬ cap = m + 1 := by omega
      have b3 : m + 1 ≤ ks.length := by omega
      have b4 : (m : Int) + 1 ≤ ks.length := by omega
      have b5 : (m : Int) + 1 ≤ cap := by omega
      have b6 : m + 1 ≤ cap := by omega
      have hk0 : Keep (fun b => b = g) w (wr.junk p) := Keep.of_below ((bel w (wr.junk p))) _; have hb0 : Blk (wr.junk p) g arr 61 := (HB.out.1.below hbr iG.lt).junk p; have hd0 : dedupK (ks.take (m + 2)) = ks.take (m + 1) := by
       have h1 := HS.out; rw [if_pos HN.out, HD.out, List.append_nil] at h1; exact h1
      have H0 := Lib.hid (And.intro hk0 (And.intro hb0 hd0)); clear hk0 hb0 hd0
      go_upto_region 8 with fail
      refine abs_world (F := fun wA => Keep (fun b => b = g) w wA ∧ Blk wA g arr 61) ⟨H0.out.1, H0.out.2.1⟩ ?_; rintro wA ⟨hkA, hbA⟩; have HA2 := Lib.hid (And.intro hkA hbA); clear hkA hbA y0 y1 x0 x1; go_wp2_with fail
      go_loopw [3, 5] (fun vk vj wr => Keep (fun b => b = g) w wr ∧ ∃ (i kk : Nat) (arr' : Array Value), vk = .int .i64 kk ∧ vj = .int .i64 ((i + 1 : Nat) : Int) ∧ m + 1 + (i + 1) ≤ ks.length ∧ kk ≤ m + (i + 1) ∧ (dedupK (ks.take (m + 1 + (i + 1)))).length = kk ∧ Blk wr g arr' 61 ∧ arr'.size = cap * 2 ∧ RowsIn arr' 2 ((dedupK (ks.take (m + 1 + (i + 1)))).map PKey.cells) ∧ ∀ (q : Nat) (x : PKey), m + 1 + i ≤ q → ks[q]? = some x → arr'[q * 2]? = some (.int .i64 x.num) ∧ arr'[q * 2 + 1]? = some (.string x.name)) (fun _ vj _ => (ks.length - intOf vj).toNat)
      case atStart =>
       have hrw : ∀ (q : Nat) (x : PKey), ks[q]? = some x → arr[q * 2]? = some (.int .i64 x.num) ∧ arr[q * 2 + 1]? = some (.string x.name) := fun q x hx => by
        have h1 := HB.out.2.2 q x.cells (by rw [gM, hx]; rfl); exact ⟨h1 0 _ rfl, h1 1 _ rfl⟩
       refine ⟨HA2.out.1, 0, m + 1, arr, by rfl, rfl, by omega, by omega, ?_, HA2.out.2, HB.out.2.1, ?_, fun q x _ hx => hrw q x hx⟩
       · rw [H0.out.2.2, List.length_take]; omega
       · rw [H0.out.2.2]; intro q cs hq t u hc; refine HB.out.2.2 q cs ?_ t u hc; rw [gM, List.getElem?_take] at hq
         split at hq
         · rw [gM]; exact hq
         · cases hq
      case round =>
       obtain ⟨hkr, i, kk, arr', rfl, rfl, hin, hkk, hdl, hbr', hsr, hrr, hfr⟩ := hrel; have iGr := hbr'.lt; obtain ⟨D, hD⟩ : ∃ D, dedupK (ks.take (m + 1 + (i + 1))) = D := ⟨_, rfl⟩
       rw [hD] at hdl hrr; have nk1 : kk ≤ ks.length := by omega
       have nk2 : kk ≤ cap := by omega
       have nk3 : (kk : Int) ≤ ks.length := by omega
       have nk4 : (kk : Int) ≤ cap := by omega
       have nk5 : ¬ cap = kk := by omega
       have nk6 : (kk : Int) < ks.length := by omega
       have nk7 : kk < ks.length := by omega
       have ew2 : IntKind.i64.wrap (i : Int) = i := I64.wrap (by unfold I64; omega); have ew3 : IntKind.i64.wrap ((kk : Int) + 1) = (kk : Int) + 1 := I64.wrap (by unfold I64; omega); have ew4 : IntKind.i64.wrap ((i : Int) + 1 + 1) = (i : Int) + 1 + 1 := I64.wrap (by unfold I64; omega); have HK := Lib.hid (And.intro hkr (And.intro hbr' (And.intro hsr (And.intro hrr (And.intro hfr (And.intro hdl hD)))))); by_cases hlj : m + 1 + (i + 1) < ks.length
       · obtain ⟨y2, hy2⟩ : ∃ y, ks[m + 1 + (i + 1)]? = some y := ⟨_, gE hlj⟩
         obtain ⟨x2, hx2⟩ : ∃ x, ks[m + 1 + i]? = some x := ⟨_, gE (by omega)⟩
         have c0 : wr.cell? ⟨g, (m + 1) * 2 + (i + 1) * 2, none⟩ = some (.int .i64 y2.num) := by
          rw [hbr'.cell, ← (hfr _ _ (by omega) hy2).1]; congr 1; omega
         have c1 : wr.cell? ⟨g, (m + 1) * 2 + (i + 1) * 2 + 1, none⟩ = some (.string y2.name) := by
          rw [hbr'.cell, ← (hfr _ _ (by omega) hy2).2]; congr 1; omega
         have d0 : wr.cell? ⟨g, (m + 1) * 2 + i * 2, none⟩ = some (.int .i64 x2.num) := by
          rw [hbr'.cell, ← (hfr _ _ (by omega) hx2).1]; congr 1; omega
         have d1 : wr.cell? ⟨g, (m + 1) * 2 + i * 2 + 1, none⟩ = some (.string x2.name) := by
          rw [hbr'.cell, ← (hfr _ _ (by omega) hx2).2]; congr 1; omega
         obtain ⟨u0, e0⟩ : ∃ u, wr.cell? ⟨g, kk * 2, none⟩ = some u := ⟨_, by rw [hbr'.cell]; exact Array.getElem?_eq_getElem (by omega)⟩
         obtain ⟨u1, e1⟩ : ∃ u, wr.cell? ⟨g, kk * 2 + 1, none⟩ = some u := ⟨_, by rw [hbr'.cell]; exact Array.getElem?_eq_getElem (by omega)⟩
         have HS2 := Lib.hid (dedupK_snoc ks (m + 1 + i) x2 y2 hx2 (by rw [← hy2]; rfl)); have hljI : (i : Int) + 1 < ((ks.length - (m + 1) : Nat) : Int) := by omega
         have hljI2 : (i : Int) < ((ks.length - (m + 1) : Nat) : Int) := by omega
         have g3 : (0 : Int) ≤ (i : Int) + 1 := by omega
         have q2 := fun w => neq61 y2 x2 w
         have fz : wr.frozen? ⟨g, kk * 2, none⟩ = false := hbr'.frozen _; have fz1 : wr.frozen? ⟨g, kk * 2 + 1, none⟩ = false := hbr'.frozen _; have HY2 := Lib.hid (And.intro hy2 hx2); clear hkr hbr' hsr hrr hfr hdl hD hy2 hx2; rcases hyx2 : decide (y2 = x2) with _ | _
         · rw [hyx2] at q2; have HN2 := Lib.hid (of_decide_eq_false hyx2); clear hyx2; go_wp2_with fail; refine wp_region_quiet_rest (by kernel_rfl) (by kernel_rfl) (WQ.out ?_)
           repeat
            refine WQ_step (fun K hK => ?_); go_simp
            first
             | (refine hK _ ?_; clear hK K)
             | (apply Exists.intro
                refine ⟨fun _ => ?_, hK _ ?_⟩
                focus (fail)
                clear hK K)
           refine WN fun p => ?_; go_wp2_with fail; have hke := ((HK.out.1.setCell (p := ⟨g, kk * 2, none⟩) (.inl rfl) (.int .i64 y2.num)).setCell (p := ⟨g, kk * 2 + 1, none⟩) (.inl rfl) (.string y2.name)).junk p; have hbe := ((HK.out.2.1.set_ (kk * 2) (.int .i64 y2.num)).set_ (kk * 2 + 1) (.string y2.name)).junk p; have HE := Lib.hid (And.intro hke hbe); clear hke hbe
           go_roundw
           case rel =>
            obtain ⟨-, -, hsr, hrr, hfr, hdl, hD⟩ := HK.out; have hD2 : dedupK (ks.take (m + 1 + (i + 1 + 1))) = D ++ [y2] := by
             have h1 := HS2.out; rw [if_neg HN2.out, show m + 1 + i + 1 = m + 1 + (i + 1) by omega, hD] at h1; exact h1
            refine ⟨HE.out.1, i + 1, kk + 1, _, by go_num, by go_num, by omega, by omega, ?_, HE.out.2, by rw [Array.size_setIfInBounds, Array.size_setIfInBounds]; exact hsr, ?_, ?_⟩
            · rw [hD2, lP, hdl]; rfl
            · rw [hD2]; intro q cs hq t u hc; have ht : t < 2 := by
               rw [gM] at hq; obtain ⟨z, _, rfl⟩ := Option.map_eq_some_iff.1 hq; obtain ⟨h, _⟩ := gI.1 hc; exact h
              rw [List.map_append] at hq; by_cases hql : q < kk
              · rw [List.getElem?_append_left (by rw [lM]; omega)] at hq; rw [Array.getElem?_setIfInBounds, if_neg (by omega), Array.getElem?_setIfInBounds, if_neg (by omega)]; exact hrr q cs hq t u hc
              · have hqe : q = kk := by
                 obtain ⟨h, _⟩ := gI.1 hq; simp at h; omega
                subst hqe; rw [List.getElem?_append_right (by rw [lM]; omega), lM, hdl, Nat.sub_self] at hq; cases hq; rcases t with _ | _ | t
                · cases hc; rw [Array.getElem?_setIfInBounds, if_neg (by omega), Array.getElem?_setIfInBounds, if_pos (by omega), if_pos (by omega)]
                · cases hc; rw [Array.getElem?_setIfInBounds, if_pos rfl, if_pos (by simp; omega)]
                · omega
            · intro q z hq hz; rw [Array.getElem?_setIfInBounds, if_neg (by omega), Array.getElem?_setIfInBounds, if_neg (by omega), Array.getElem?_setIfInBounds, if_neg (by omega), Array.getElem?_setIfInBounds, if_neg (by omega)]; exact hfr q z (by omega) hz
           case measure => simp [intOf]; omega
         · rw [hyx2] at q2; have HN2 := Lib.hid (of_decide_eq_true hyx2); clear hyx2; go_wp2_with fail; refine wp_region_quiet_rest (by kernel_rfl) (by kernel_rfl) (WQ.out ?_)
           repeat
            refine WQ_step (fun K hK => ?_); go_simp
            first
             | (refine hK _ ?_; clear hK K)
             | (apply Exists.intro
                refine ⟨fun _ => ?_, hK _ ?_⟩
                focus (fail)
                clear hK K)
           refine WN fun p => ?_; go_wp2_with fail; have hke := HK.out.1.junk p; have hbe := HK.out.2.1.junk p; have HE := Lib.hid (And.intro hke hbe); clear hke hbe
           go_roundw
           case rel =>
            obtain ⟨-, -, hsr, hrr, hfr, hdl, hD⟩ := HK.out; have hD2 : dedupK (ks.take (m + 1 + (i + 1 + 1))) = D := by
             have h1 := HS2.out; rw [if_pos HN2.out, show m + 1 + i + 1 = m + 1 + (i + 1) by omega, hD, List.append_nil] at h1; exact h1
            exact ⟨HE.out.1, i + 1, kk, arr', by go_num, by go_num, by omega, by omega, by rw [hD2]; exact hdl, HE.out.2, hsr, by rw [hD2]; exact hrr, fun q z hq hz => hfr q z (by omega) hz⟩
           case measure => simp [intOf]; omega
       · have hie : m + 1 + (i + 1) = ks.length := by omega
         have hDD : D = dedupK ks := by
          rw [← hD, List.take_of_length_le (by omega)]
         have hljI : ¬ (i : Int) + 1 < ((ks.length - (m + 1) : Nat) : Int) := by omega
         obtain ⟨zs, hzs⟩ : ∃ zs, (Builtin.zeroCells (.agg #[.int .i64 0, .string { data := #[] }] : Value).cells (ks.length - kk)).toList = zs := ⟨_, rfl⟩
         have hzl : zs.length = (ks.length - kk) * 2 := by
          rw [← hzs]; simp [Builtin.zeroCells]; rfl
         have hclr : ∀ c2 ty, (Builtin.clear_ #[29] ty #[.slice (some ⟨g, kk * 2, none⟩) (ks.length - kk) c2]).run Tryz.prog wr = .ok (.tuple #[]) (wr.setCells g (kk * 2) zs) := fun c2 ty => by
          rw [← hzs]; refine run_clear_wide wr 29 61 ty (.agg #[.int .i64 0, .string { data := #[] }]) Tryz.underlying29 zeroV61 (by decide) g (kk * 2) (ks.length - kk) c2 (by omega) (fun j hj => ?_) (fun j hj => hbr'.frozen _); rw [hzs, hzl] at hj; rw [hbr'.cell]; simp; omega
         obtain ⟨arr3, hb3, hs3, hout3, -⟩ := Blk.setCells_at g 61 zs (kk * 2) wr arr' hbr' (by omega); have hk3 : Keep (fun k => k = g) w (wr.setCells g (kk * 2) zs) := Keep.setCells (S := fun k => k = g) rfl zs _ hkr; obtain ⟨w3, hw3⟩ : ∃ w3, wr.setCells g (kk * 2) zs = w3 := ⟨_, rfl⟩
         simp only [hw3] at hclr hb3 hk3; have hfin : OwnP B w3 61 2 (.slice (some ⟨g, 0, none⟩) (dedupK ks).length cap) ((dedupK ks).map PKey.cells) := by
          refine .inr ⟨g, cap, arr3, by rw [lM], hB, hb3, by rw [lM, ← hDD, hdl]; omega, HC.out, by omega, ?_⟩; rw [← hDD]; intro q cs hq t u hc; have hq2 := hq; rw [gM] at hq; obtain ⟨z, hz, rfl⟩ := Option.map_eq_some_iff.1 hq; obtain ⟨hql, _⟩ := gI.1 hz; have ht : t < 2 := by
           obtain ⟨h, _⟩ := gI.1 hc; exact h
          rw [hout3 _ (.inl (by omega))]; exact hrr q _ hq2 t u hc
         have hkl : kk = (dedupK ks).length := by rw [← hDD, hdl]
         have HF := Lib.hid (And.intro hfin (And.intro hk3 hkl)); clear hkr hbr' hsr hrr hfr hdl hD hfin hk3 hout3 hb3 hs3 hw3 hzl hzs hkl hDD; go_wp2_with fail; go_ret; refine ⟨?_, HF.out.1, HF.out.2.1⟩; rw [HF.out.2.2]; rfl
  · have hR : dedupK ks = ks := by
     have := HD.out; rw [List.take_of_length_le (by omega)] at this; exact this
    have hltI : ¬ (m : Int) + 1 < ks.length := by omega
    have eI : ((m + 1 : Nat) : Int) = (m : Int) + 1 := by omega
    rw [eI]; have HRR := Lib.hid hR; clear hR; go_wp2_with fail; go_ret; rw [HRR.out]; exact ⟨rfl, OwnP.keep HO.out (Keep.of_below hbr (fun b => False)) (fun _ _ h => h), Keep.of_below hbr _⟩
end Go.Proofs.YtmkapobnfigedaaGreatDoor
