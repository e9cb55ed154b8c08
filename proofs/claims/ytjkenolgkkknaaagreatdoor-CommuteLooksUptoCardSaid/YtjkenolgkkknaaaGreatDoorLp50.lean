/- Part of the proof that the calls that look alone commute. Conditions: none. -/
import Derived.Test.YtjkenolgkkknaaaGreatDoorLp47
import Derived.Lib.BufferWrite
import Derived.Lib.SlBytesRow
import Derived.Lib.ItoaLen
import Derived.ProofKit
import Derived.Deep.Slices
import Derived.Deep.Strs
import Derived.Lib.SmallJoins
set_option linter.unusedVariables false
set_option linter.unusedSimpArgs false
set_option maxRecDepth 100000
set_option maxHeartbeats 8000000
/- CommuteCores. Conditions: none. -/
set_option linter.unusedVariables false
set_option linter.unusedSimpArgs false
namespace Go.Proofs.YtjkenolgkkknaaaGreatDoor
open Go.RowKit
set_option maxRecDepth 100000
theorem m0 : mayM s2 = true := by kernel_rfl
theorem l0 : (shapeT s2 3).length ≤ 1000000000000 := by
  have h : (shapeT s2 3).length.ble 1000 = true := by kernel_rfl
  have := Nat.le_of_ble_eq_true h
  omega
end Go.Proofs.YtjkenolgkkknaaaGreatDoor
/- Two that make, take or give one name: what they come to. Conditions: none. -/
set_option linter.unusedVariables false
set_option linter.unusedSimpArgs false
namespace Go.Proofs.YtjkenolgkkknaaaGreatDoor
open Go.RowKit
set_option maxRecDepth 100000
def z200 : ByteArray := ⟨(List.replicate 200 (0 : UInt8)).toArray⟩
/-- The state that Pair makes. -/
def s6 : PSt := ⟨[⟨1, true, [⟨⟨#[100]⟩, 10⟩, ⟨⟨#[101]⟩, 3⟩, ⟨⟨#[120]⟩, 2⟩], ⟨#[]⟩⟩, ⟨2, false, [], z200⟩, ⟨3, true, [], ⟨#[]⟩⟩, ⟨10, true, [], ⟨#[]⟩⟩], [⟨0, 0, 2⟩, ⟨1, 0, 2⟩], [2, 1]⟩
end Go.Proofs.YtjkenolgkkknaaaGreatDoor
/- append of rows onto a slice of the call's own. Conditions: none. -/
set_option linter.unusedVariables false
set_option linter.unusedSimpArgs false
namespace Go.Proofs.YtjkenolgkkknaaaGreatDoor
open Go.RowKit
theorem run_append_none {P : Program} (w : World) (t ty e : TypeId) (i : TypeInfo) (ht : P.underlying t = some (.slice e)) (hi : P.info? e = some i) (n cap c : Nat) (a : Option Addr) (hn : n ≤ cap) :
    (Builtin.append_ #[t, t] ty #[.slice a n cap, .slice none 0 c]).run P w = .ok (.slice a n cap) w := by
  rcases a with _ | a
  · simp [Builtin.append_, run_underlying ht, sizeOf, typeInfo, hi, Builtin.lenOf, hn, run_firstCells_none, Builtin.firstCells, loadCells, loadCellsFrom]
  · simp [Builtin.append_, run_underlying ht, sizeOf, typeInfo, hi, Builtin.lenOf, hn, run_firstCells_none, Builtin.firstCells, loadCells, loadCellsFrom, storeCells]
theorem rows_cells {w : World} {k n cap : Nat} {a : Option Addr} {rows : List (List Value)} (h : RowAt w k (.slice a n cap) rows) (hk : 0 < k) (hu : ∀ cs ∈ rows, cs.length = k) (ad : Addr) (had : a = some ad) : ∀ j u, rows.flatten[j]? = some u → w.cell? (ad.add j) = some u := by
  intro j u hj
  obtain ⟨a', cap', he, hm, hr⟩ := h
  simp only [Value.slice.injEq] at he
  obtain ⟨rfl, rfl, rfl⟩ := he
  subst had
  have hl := flat_len k rows hu
  obtain ⟨hjl, _⟩ := List.getElem?_eq_some_iff.1 hj
  rw [hl] at hjl
  have h0 : 0 < rows.length := by
    rcases hz : rows.length with _ | m
    · rw [hz] at hjl; omega
    · omega
  obtain ⟨b, off, he, hb, hc⟩ := hr h0
  simp only [Option.some.injEq] at he
  subst he
  have hj2 : j = j / k * k + j % k := by rw [Nat.mul_comm]; exact (Nat.div_add_mod j k).symm
  have htk : j % k < k := Nat.mod_lt _ hk
  have hq : j / k < rows.length := Nat.div_lt_of_lt_mul (by rwa [Nat.mul_comm])
  have hlen := hu rows[j / k] (List.getElem_mem hq)
  have h1 := flat_at k rows hu (j / k) (j % k) htk
  rw [← hj2, hj, List.getElem?_eq_getElem hq] at h1
  have h2 := hc (j / k) rows[j / k] (List.getElem?_eq_getElem hq) (j % k) u h1.symm
  rw [Addr.add_lit]
  rw [show off + j = off + j / k * k + j % k by omega]
  exact h2
/-- What an append of rows leaves. -/
def Grew (B : Nat) (e : TypeId) (k : Nat) (w : World) (v : Value) (rows : List (List Value)) (v' : Value) (w' : World) : Prop :=
  OwnP B w' e k v' rows ∧ Keep (fun g => v.ownBlock = some g) w w' ∧ (v'.ownBlock = v.ownBlock ∨ v'.ownBlock = some w.heap.size)
theorem run_append_P {P : Program} (w : World) (B : Nat) (t ty e : TypeId) (k bytes : Nat) (i : TypeInfo) (z : Value) (ht : P.underlying t = some (.slice e)) (hi : P.info? e = some i) (hz : i.zero = some z) (hsize : i.size = k) (hby : i.bytes = bytes) (hzs : z.cells.size = k) (hk : 0 < k)
    (v x : Value) (rows more : List (List Value)) (hu : ∀ cs ∈ rows, cs.length = k) (hum : ∀ cs ∈ more, cs.length = k) (h1 : ∀ cs ∈ more, ∀ u ∈ cs, u.oneCell' = true) (ho : OwnP B w e k v rows) (hx : RowAt w k x more) (h63 : rows.length + more.length ≤ maxLen) (hb : (rows.length + more.length) * bytes ≤ 140737488355328) (hB : B ≤ w.heap.size) :
    ∃ v' w', (Builtin.append_ #[t, t] ty #[v, x]).run P w = .ok v' w' ∧ Grew B e k w v (rows ++ more) v' w' := by
  have hx' := hx
  obtain ⟨a, cap, rfl, hm, hr⟩ := hx'
  rcases a with _ | ad
  · have h0 : more = [] := by
      rcases hz2 : more.length with _ | m
      · exact List.eq_nil_of_length_eq_zero hz2
      · obtain ⟨b, off, he, _⟩ := hr (by omega)
        cases he
    subst h0
    have hr2 : (Builtin.append_ #[t, t] ty #[v, .slice none ([] : List (List Value)).length cap]).run P w = .ok v w := by
      rcases ho with ⟨rfl, rfl⟩ | ⟨g, cap', arr, rfl, hg, hbk, hn, _⟩
      · exact run_append_none w t ty e i ht hi 0 0 cap none (Nat.le_refl _)
      · exact run_append_none w t ty e i ht hi _ cap' cap _ hn
    refine ⟨v, w, hr2, by rw [List.append_nil]; exact ho, Keep.refl _ _, .inl rfl⟩
  · obtain ⟨v', w', hr2, hown, hgr, _, hat⟩ := run_append_own_at (P := P) w B t ty e i z k bytes ht hi hz hsize hby hzs hk v rows.length rows.flatten (ho.own hk hu) ad more.length cap more.flatten (flat_len k more hum) (rows_cells hx hk hum ad rfl) (fun u hu2 => by
      obtain ⟨cs, hcs, hu3⟩ := List.mem_flatten.1 hu2
      exact h1 cs hcs u hu3) h63 hb hB
    refine ⟨v', w', hr2, ?_, (Keep.refl _ w).grown hgr (fun g hg => .inl hg), hat⟩
    refine OwnP.of_own ?_ hk (fun cs hcs => (List.mem_append.1 hcs).elim (hu cs) (hum cs))
    rw [List.length_append, List.flatten_append]
    exact hown
theorem eff_append_P {P : Program} {o : Oper} {a : Act} {w : World} {K : Value → World → Prop} (s y : Operand) (t : TypeId)
    (hop : o.op = .call { callee := .builtin .append, args := #[s, y], argTypes := #[t, t] })
    (B : Nat) (e : TypeId) (k bytes : Nat) (i : TypeInfo) (z : Value) (ht : P.underlying t = some (.slice e)) (hi : P.info? e = some i) (hz : i.zero = some z) (hsize : i.size = k) (hby : i.bytes = bytes) (hzs : z.cells.size = k) (hk : 0 < k)
    (v x : Value) (rows more : List (List Value)) (hs : a.eval s = v) (hy : a.eval y = x) (hu : ∀ cs ∈ rows, cs.length = k) (hum : ∀ cs ∈ more, cs.length = k) (h1 : ∀ cs ∈ more, ∀ u ∈ cs, u.oneCell' = true) (ho : OwnP B w e k v rows) (hx : RowAt w k x more) (h63 : rows.length + more.length ≤ maxLen) (hb : (rows.length + more.length) * bytes ≤ 140737488355328) (hB : B ≤ w.heap.size)
    (h : ∀ v' w', Grew B e k w v (rows ++ more) v' w' → K v' w') : o.eff P a w K := by
  obtain ⟨v', w', hr, hg⟩ := run_append_P (P := P) w B t o.type e k bytes i z ht hi hz hsize hby hzs hk v x rows more hu hum h1 ho hx h63 hb hB
  unfold Oper.eff execOp
  simp only [hop, resolve, invoke, builtin, Sem.run_bind, Sem.run_pure, Result.andThen_ok, List.map_toArray, List.map_cons, List.map_nil, hs, hy, hr]
  exact h v' w' hg
/-- One row in a block of its own. -/
theorem RowAt.single {w : World} {b : Nat} {t : TypeId} {cs : List Value} (h : Blk w b cs.toArray t) (k cap : Nat) : RowAt w k (.slice (some ⟨b, 0, none⟩) 1 cap) [cs] := by
  refine ⟨_, _, rfl, by unfold maxLen; simp, fun _ => ⟨b, 0, rfl, h.lt.lt, fun q c hq u x hu => ?_⟩⟩
  rcases q with _ | q
  · simp only [List.getElem?_cons_zero, Option.some.injEq] at hq
    subst hq
    rw [h.cell]
    simpa using hu
  · simp at hq
theorem str_len : ∀ (zs : List ByteArray), ∀ cs ∈ zs.map (fun n => [Value.string n]), cs.length = 1 := by
  intro zs cs h
  obtain ⟨r, _, rfl⟩ := List.mem_map.1 h
  rfl
end Go.Proofs.YtjkenolgkkknaaaGreatDoor
/- The reference's put: an entry more in a directory of a state of the call's own. Conditions: none. -/
set_option linter.unusedVariables false
set_option linter.unusedSimpArgs false
namespace Go.Proofs.YtjkenolgkkknaaaGreatDoor
open Go.RowKit
theorem OwnP.below {B : Nat} {w w' : World} {e : TypeId} {k : Nat} {v : Value} {rows : List (List Value)} (h : OwnP B w e k v rows) (hb : Below w.heap.size w w') : OwnP B w' e k v rows := h.keep (Keep.of_below hb (fun _ => False)) (fun _ _ h => h)
theorem Grew.on {B : Nat} {e : TypeId} {k : Nat} {w w' : World} {v v' : Value} {rows rows' : List (List Value)} (h : Grew B e k w v rows v' w') (ho : OwnP B w e k v rows') (hB : B ≤ w.heap.size) : Below B w w' := h.2.1.below hB (fun i hi hg => by have := ho.ge hg; omega)
/-- The first cell of an owned slice's block. -/
theorem StOwn.ins_form {B : Nat} {w : World} {iv ov mv : Value} {S : PSt} (h : StOwn B w iv ov mv S) (h0 : 0 < S.ins.length) : ∃ bi cap, iv = .slice (some ⟨bi, 0, none⟩) S.ins.length cap := by
  obtain ⟨_, _, is, h3, h4, _⟩ := h
  rcases h3 with ⟨_, h1⟩ | ⟨g, cap, arr, rfl, _⟩
  · rw [List.map_eq_nil_iff] at h1
    rw [h1] at h4
    simp at h4
    omega
  · exact ⟨g, cap, by rw [List.length_map, h4]⟩
end Go.Proofs.YtjkenolgkkknaaaGreatDoor
/- The reference's Parse at a path of one name of one byte. Conditions: none. -/
set_option linter.unusedVariables false
set_option linter.unusedSimpArgs false
namespace Go.Proofs.YtjkenolgkkknaaaGreatDoor
open Go.RowKit
/-- A path of one byte below the root, and its name. -/
def p1 (c : UInt8) : ByteArray := ⟨#[47, c]⟩
def n1 (c : UInt8) : ByteArray := ⟨#[c]⟩
end Go.Proofs.YtjkenolgkkknaaaGreatDoor
/- The reference's fail and grab. Conditions: none. -/
set_option linter.unusedVariables false
set_option linter.unusedSimpArgs false
namespace Go.Proofs.YtjkenolgkkknaaaGreatDoor
open Go.RowKit
theorem StOwn.on {B : Nat} {w w1 : World} {iv ov mv : Value} {S : PSt} (h : StOwn B w iv ov mv S) (hb : Below w.heap.size w w1) : StOwn B w1 iv ov mv S := h.keep (Keep.of_below hb (fun _ => False)) (fun _ h => h.elim)
end Go.Proofs.YtjkenolgkkknaaaGreatDoor
/- A region that draws its order, walked by what holds whatever has come up: each operation once. Conditions: none. -/
set_option linter.unusedVariables false
set_option linter.unusedSimpArgs false
namespace Go
/-- Values laid in the operations' slots. -/
def putsL (σ : Nat → Value) : Nat → List Oper → Act → Act
  | _, [], a => a
  | i, o :: r, a => putsL σ (i + 1) r (a.put o.dst (σ i))
def dstsL (l : List Oper) : List Tmp := l.filterMap (·.dst)
def updV (σ : Nat → Value) (i : Nat) (v : Value) : Nat → Value := fun j => if j = i then v else σ j
theorem Act.put_put (a : Act) (x : Option Tmp) (v u : Value) : (a.put x v).put x u = a.put x u := by
  cases x with
  | none => rfl
  | some d => simp [Act.put, Array.setIfInBounds_setIfInBounds]
theorem putsL_comm (σ : Nat → Value) (x : Option Tmp) (v : Value) : ∀ (l : List Oper) (i : Nat) (a : Act), (∀ d, x = some d → d ∉ dstsL l) → (putsL σ i l a).put x v = putsL σ i l (a.put x v)
  | [], _, _, _ => rfl
  | o :: r, i, a, h => by
    simp only [putsL]
    rw [putsL_comm σ x v r (i + 1) _ (fun d hd hm => h d hd (by
      unfold dstsL at hm ⊢
      rw [List.filterMap_cons]
      split
      · exact hm
      · exact List.mem_cons_of_mem _ hm))]
    congr 1
    refine Act.put_comm a _ _ (fun d hd hx => h d hx ?_)
    unfold dstsL
    rw [List.filterMap_cons, hd]
    exact List.mem_cons_self
theorem putsL_congr {σ τ : Nat → Value} : ∀ (l : List Oper) (i : Nat) (a : Act), (∀ j, i ≤ j → σ j = τ j) → putsL σ i l a = putsL τ i l a
  | [], _, _, _ => rfl
  | o :: r, i, a, h => by
    simp only [putsL]
    rw [h i (Nat.le_refl _), putsL_congr r (i + 1) _ (fun j hj => h j (by omega))]
theorem dstsL_cons (o : Oper) (r : List Oper) : dstsL (o :: r) = match o.dst with | none => dstsL r | some d => d :: dstsL r := by
  unfold dstsL
  rw [List.filterMap_cons]
  cases o.dst <;> rfl
theorem dstsL_mem {l : List Oper} {j : Nat} {o : Oper} {d : Tmp} (ho : l[j]? = some o) (hd : o.dst = some d) : d ∈ dstsL l := List.mem_filterMap.2 ⟨o, List.mem_of_getElem? ho, hd⟩
theorem putsL_upd (σ : Nat → Value) (v : Value) : ∀ (l : List Oper) (i j : Nat) (a : Act) (o : Oper), (dstsL l).Nodup → l[j]? = some o → (putsL σ i l a).put o.dst v = putsL (updV σ (i + j) v) i l a
  | [], _, _, _, _, _, h => by simp at h
  | q :: r, i, 0, a, o, hn, h => by
    simp only [List.getElem?_cons_zero, Option.some.injEq] at h
    subst h
    simp only [putsL]
    have hnd : ∀ d, q.dst = some d → d ∉ dstsL r := fun d hd hm => by
      rw [dstsL_cons, hd] at hn
      exact (List.nodup_cons.1 hn).1 hm
    rw [putsL_comm σ q.dst v r (i + 1) _ hnd, Act.put_put]
    have e : updV σ (i + 0) v i = v := by simp [updV]
    rw [e]
    exact putsL_congr r (i + 1) _ (fun j hj => by unfold updV; rw [if_neg (by omega)])
  | q :: r, i, j + 1, a, o, hn, h => by
    simp only [List.getElem?_cons_succ] at h
    simp only [putsL]
    have hn' : (dstsL r).Nodup := by
      rw [dstsL_cons] at hn
      split at hn
      · exact hn
      · exact (List.nodup_cons.1 hn).2
    rw [putsL_upd σ v r (i + 1) j _ o hn' h]
    have e : updV σ (i + (j + 1)) v i = σ i := by unfold updV; rw [if_neg (by omega)]
    rw [e, show i + 1 + j = i + (j + 1) by omega]
theorem putsL_out (σ : Nat → Value) (x : Tmp) : ∀ (l : List Oper) (i : Nat) (a : Act), x ∉ dstsL l → (putsL σ i l a).eval (.tmp x) = a.eval (.tmp x)
  | [], _, _, _ => rfl
  | o :: r, i, a, h => by
    simp only [putsL]
    rw [putsL_out σ x r (i + 1) _ (fun hm => h (by rw [dstsL_cons]; split; exact hm; exact List.mem_cons_of_mem _ hm))]
    exact Act.eval_put fun d hd hx => h (by
      cases hx
      rw [dstsL_cons, hd]
      exact List.mem_cons_self)
theorem put_size (a : Act) (x : Option Tmp) (v : Value) : (a.put x v).tmps.size = a.tmps.size := by
  cases x <;> simp [Act.put]
theorem eval_put_self (a : Act) (d : Tmp) (v : Value) (h : d < a.tmps.size) : (a.put (some d) v).eval (.tmp d) = v := by
  simp [Act.put, Act.eval, h]
theorem putsL_in (σ : Nat → Value) : ∀ (l : List Oper) (i j : Nat) (a : Act) (o : Oper) (d : Tmp), (dstsL l).Nodup → l[j]? = some o → o.dst = some d → d < a.tmps.size → (putsL σ i l a).eval (.tmp d) = σ (i + j)
  | [], _, _, _, _, _, _, h, _, _ => by simp at h
  | q :: r, i, 0, a, o, d, hn, h, hd, hl => by
    simp only [List.getElem?_cons_zero, Option.some.injEq] at h
    subst h
    simp only [putsL]
    rw [putsL_out σ d r (i + 1) _ (fun hm => by
      rw [dstsL_cons, hd] at hn
      exact (List.nodup_cons.1 hn).1 hm), hd]
    exact eval_put_self a d _ hl
  | q :: r, i, j + 1, a, o, d, hn, h, hd, hl => by
    simp only [List.getElem?_cons_succ] at h
    simp only [putsL]
    have hn' : (dstsL r).Nodup := by
      rw [dstsL_cons] at hn
      split at hn
      · exact hn
      · exact (List.nodup_cons.1 hn).2
    rw [putsL_in σ r (i + 1) j _ o d hn' h hd (by rw [put_size]; exact hl), show i + 1 + j = i + (j + 1) by omega]
/-- What a region must be. -/
def Region.invB (l : List Oper) : Bool :=
  Region.noSelect l.toArray && decide ((dstsL l).Nodup) && (List.range l.length).all fun i => match l[i]? with
    | some o => o.after.toList.all fun e => !Region.binds .any e || decide (e.on < i)
    | none => true
/-- The numbers that an operation waits for. -/
def Oper.waits (o : Oper) : List Nat := (o.after.toList.filter fun e => Region.binds .any e).map (·.on)
/-- One statement for each operation. -/
def EachOp (p : Nat → Oper → Prop) : Nat → List Oper → Prop
  | _, [] => True
  | i, o :: r => p i o ∧ EachOp p (i + 1) r
theorem EachOp.at_ {p : Nat → Oper → Prop} : ∀ {l : List Oper} {i j : Nat} {o : Oper}, EachOp p i l → l[j]? = some o → p (i + j) o
  | [], _, _, _, _, h => by simp at h
  | q :: r, i, 0, o, h, ho => by
    simp only [List.getElem?_cons_zero, Option.some.injEq] at ho
    subst ho
    exact h.1
  | q :: r, i, j + 1, o, h, ho => by
    simp only [List.getElem?_cons_succ] at ho
    have := EachOp.at_ h.2 ho
    rw [show i + 1 + j = i + (j + 1) by omega] at this
    exact this
section
variable {P : Program} {l : List Oper} {Q : Exit → Act → World → Prop}
theorem EachOp.imp {p q : Nat → Oper → Prop} : ∀ {l : List Oper} {i : Nat}, (∀ j o, l[j]? = some o → p (i + j) o → q (i + j) o) → EachOp p i l → EachOp q i l
  | [], _, _, _ => trivial
  | o :: r, i, h, hp => ⟨h 0 o rfl hp.1, EachOp.imp (fun j o' ho h1 => by
      have := h (j + 1) o' (by simpa using ho)
      rw [show i + 1 + j = i + (j + 1) by omega] at h1 ⊢
      exact this h1) hp.2⟩
end
end Go
/- Bytes of the model: in, Piece, Lay. Conditions: none. -/
set_option linter.unusedVariables false
set_option linter.unusedSimpArgs false
namespace Go.Proofs.YtjkenolgkkknaaaGreatDoor
open Go.RowKit
def inM (x : Int) : Bool := decide (0 ≤ x) && decide (x ≤ 256)
theorem in126 (x : Int) (w : World) : Calls Tryz.prog 126 #[.int .i64 x] w fun e w' => e = .returned (.bool (inM x)) ∧ Below w.heap.size w w' := by
  unfold inM
  by_cases h : 0 ≤ x
  · have hb : decide (0 ≤ x) = true := decide_eq_true h
    go_enter Tryz.func126, Tryz.ntmps126
    go_wp2_with fail
    go_ret
    exact ⟨by first | rfl | simp [hb], bel _ _⟩
  · have hb : decide (0 ≤ x) = false := decide_eq_false h
    go_enter Tryz.func126, Tryz.ntmps126
    go_wp2_with fail
    go_ret
    exact ⟨by first | rfl | simp [hb], bel _ _⟩
def pieceM (s : ByteArray) (o n : Nat) : ByteArray := if s.size ≤ o then ⟨#[]⟩ else s.extract o (min s.size (o + n))
set_option maxRecDepth 100000 in
set_option maxHeartbeats 2000000 in
theorem piece127 (s : ByteArray) (o n : Nat) (w : World) (hs : s.size ≤ 1000000000) (ho : o ≤ 1000000000) (hn : n ≤ 1000000000) :
    Calls Tryz.prog 127 #[.string s, .int .i64 o, .int .i64 n] w fun e w' => e = .returned (.string (pieceM s o n)) ∧ Below w.heap.size w w' := by
  unfold pieceM
  by_cases h : s.size ≤ o
  · rw [if_pos h]
    have hI : (s.size : Int) ≤ o := by omega
    go_enter Tryz.func127, Tryz.ntmps127
    go_wp2_with fail
    go_ret
    exact ⟨rfl, bel _ _⟩
  · rw [if_neg h]
    have hI : ¬ (s.size : Int) ≤ o := by omega
    have e : (min (s.size : Int) ((o : Int) + n)).toNat = min s.size (o + n) := by omega
    go_enter Tryz.func127, Tryz.ntmps127
    go_wp2_with fail
    go_ret
    exact ⟨rfl, bel _ _⟩
end Go.Proofs.YtjkenolgkkknaaaGreatDoor
/- Open, Close, Read, Write, Size and List, done. Conditions: none. -/
set_option linter.unusedVariables false
set_option linter.unusedSimpArgs false
namespace Go.Proofs.YtjkenolgkkknaaaGreatDoor
open Go.RowKit
set_option maxRecDepth 100000 in
set_option maxHeartbeats 2000000 in
theorem run_bytes (B d b : Nat) (S : PSt) (c : PCall) (r : PRes) (w : World) (h : DoAt B w d b S c r) (hk : c.kind = 4 ∨ c.kind = 5 ∨ c.kind = 7) (R : Except Int (PSt × PRes)) (ht : Calls Tryz.prog 76 #[.pointer (some ⟨d, 0, none⟩)] w (RunOut B w d b c R)) :
    Calls Tryz.prog 41 #[.pointer (some ⟨d, 0, none⟩)] w (RunOut B w d b c R) := by
  obtain ⟨iD, d1⟩ := h.kind
  clear h
  rcases hk with hk | hk | hk <;> rw [hk] at d1 <;> rcases R with k | ⟨S', r'⟩
  all_goals (go_enter Tryz.func41, Tryz.ntmps41)
  all_goals first
    | (go_wp2_with (go_at_call 76; refine ht.mono ?_; rintro e w1 ⟨hb1, hr1⟩; obtain rfl : e = thrown k := hr1)
       exact ⟨rfl, hb1, rfl⟩)
    | (go_wp2_with (go_at_call 76; refine ht.mono ?_; rintro e w1 ⟨hb1, hr1⟩; have hr2 : e = .returned (.tuple #[]) ∧ DoAt B w1 d b S' c r' := hr1; clear hr1; obtain ⟨rfl, hd1⟩ := hr2; have HD := Lib.hid hd1; clear hd1)
       exact bodyPost_end (v := .tuple #[]) (by simp [results, go_sem]) rfl ⟨hb1, rfl, HD.out⟩)
end Go.Proofs.YtjkenolgkkknaaaGreatDoor
/- How long a state's shape is at most. Conditions: none. -/
set_option linter.unusedVariables false
set_option linter.unusedSimpArgs false
namespace Go.Proofs.YtjkenolgkkknaaaGreatDoor
open Go.RowKit
theorem join_le : ∀ (ls : List (List UInt8)), (Lib.join ls [32]).length ≤ (ls.map fun l => l.length + 1).sum := by
  intro ls
  unfold Lib.join
  induction ls with
  | nil => simp [List.intercalate]
  | cons a r ih =>
    cases r with
    | nil => simp [List.intercalate]
    | cons b r =>
      have e : [32].intercalate (a :: b :: r) = a ++ ([32] ++ [(32 : UInt8)].intercalate (b :: r)) := by simp [List.intercalate, List.intersperse]
      rw [e]
      simp only [List.length_append, List.length_cons, List.length_nil, List.map_cons, List.sum_cons] at ih ⊢
      omega
theorem line_le (ws : List ByteArray) : (lineM ws).length ≤ (ws.map fun s => s.size + 1).sum + 1 := by
  unfold lineM
  have := join_le (ws.map (·.data.toList))
  rw [List.map_map] at this
  simp only [List.length_append, List.length_cons, List.length_nil]
  have e : (ws.map ((fun l : List UInt8 => l.length + 1) ∘ fun s : ByteArray => s.data.toList)).sum = (ws.map fun s => s.size + 1).sum := rfl
  omega
theorem itoaB_le {n : Int} (h : I64 n) : (itoaB n).size ≤ 21 := Lib.itoa_length_le n h.1 h.2
theorem shown_le (p : ByteArray) : (shownM p).size ≤ p.size + 1 := by
  unfold shownM
  split
  · show 1 ≤ p.size + 1; omega
  · omega
theorem hex_le (s : ByteArray) : (hexM s).size ≤ 2 * s.size + 1 := by
  unfold hexM
  split
  · show 1 ≤ _; omega
  · show (hexL s.data.toList).length ≤ _
    rw [hexL_len]
    show 2 * s.size ≤ _
    omega
theorem idxFrom_hit {α : Type} (p : α → Bool) : ∀ (zs : List α) (q k : Nat), idxFrom p zs q = (k : Int) → ∃ j x, k = q + j ∧ zs[j]? = some x ∧ p x = true
  | [], q, k, h => by unfold idxFrom at h; omega
  | z :: r, q, k, h => by
    unfold idxFrom at h
    split at h
    · rename_i hz
      exact ⟨0, z, by omega, rfl, hz⟩
    · obtain ⟨j, x, h1, h2, h3⟩ := idxFrom_hit p r (q + 1) k h
      exact ⟨j + 1, x, by omega, by simpa using h2, h3⟩
theorem idxM_hit {α : Type} {p : α → Bool} {zs : List α} {x : α} (h0 : 0 ≤ idxM p zs) (hx : zs[(idxM p zs).toNat]? = some x) : p x = true := by
  obtain ⟨k, hk⟩ : ∃ k : Nat, idxM p zs = k := ⟨(idxM p zs).toNat, by omega⟩
  rw [hk, Int.toNat_natCast] at hx
  obtain ⟨j, y, h1, h2, h3⟩ := idxFrom_hit p zs 0 k hk
  rw [Nat.zero_add] at h1
  subst h1
  rw [h2] at hx
  cases hx
  exact h3
/-- What a walk's text is at most. -/
def wLen (S : PSt) : Nat → Int → Nat → Nat
  | 0, _, _ => 0
  | f + 1, n, p => match S.ins[(idxM (isNum n) S.ins).toNat]? with
    | none => 0
    | some x => if x.dir = true then p + 40 + (x.ents.map fun e => wLen S f e.num (p + 1 + e.name.size)).sum else p + 2 * x.data.size + 40
theorem sum_le {α : Type} (f g : α → Nat) : ∀ (l : List α), (∀ x ∈ l, f x ≤ g x) → (l.map f).sum ≤ (l.map g).sum
  | [], _ => Nat.le_refl _
  | x :: r, h => by
    have h1 := h x (List.mem_cons_self)
    have h2 := sum_le f g r (fun y hy => h y (List.mem_cons_of_mem _ hy))
    simp only [List.map_cons, List.sum_cons]
    omega
theorem flatMap_le {α : Type} (f : α → List UInt8) (g : α → Nat) : ∀ (l : List α), (∀ x ∈ l, (f x).length ≤ g x) → (l.flatMap f).length ≤ (l.map g).sum := by
  intro l h
  rw [List.length_flatMap]
  exact sum_le _ _ l h
theorem wlk_le {S : PSt} (hwf : S.wf) : ∀ (f : Nat) (n : Int) (p : ByteArray), wlkOk S f n = true → (wlkT S f n p).length ≤ wLen S f n p.size
  | 0, n, p, h => by cases h
  | f + 1, n, p, h => by
    unfold wlkOk at h
    simp only [Bool.and_eq_true, decide_eq_true_eq] at h
    obtain ⟨h0, h⟩ := h
    unfold wlkT wLen
    rcases hx : S.ins[(idxM (isNum n) S.ins).toNat]? with _ | x
    · simp
    · rw [hx] at h
      simp only at h ⊢
      have hp := idxM_hit h0 hx
      have hn : x.num = n := by simpa [isNum] using hp
      have hi : I64 n := by rw [← hn]; exact (hwf.2.2.2.1 x (List.mem_of_getElem? hx)).1
      have h1 := itoaB_le hi
      have h2 := shown_le p
      by_cases hd : x.dir = true
      · rw [if_pos hd, if_pos hd]
        rw [hd] at h
        simp only [Bool.not_true, Bool.false_or, List.all_eq_true] at h
        have hl := line_le [⟨#[100]⟩, shownM p, itoaB n]
        have hsz : (⟨#[100]⟩ : ByteArray).size = 1 := rfl
        simp only [List.map_cons, List.map_nil, List.sum_cons, List.sum_nil, hsz] at hl
        have hm := flatMap_le (fun e : PEnt => wlkT S f e.num (p ++ ⟨#[47]⟩ ++ e.name)) (fun e => wLen S f e.num (p.size + 1 + e.name.size)) x.ents (fun e he => by
          have := wlk_le hwf f e.num (p ++ ⟨#[47]⟩ ++ e.name) (h e he)
          have e1 : (p ++ ⟨#[47]⟩ ++ e.name).size = p.size + 1 + e.name.size := by rw [ByteArray.size_append, ByteArray.size_append]; rfl
          rw [e1] at this
          exact this)
        rw [List.length_append]
        omega
      · rw [if_neg hd, if_neg hd]
        have hl := line_le [⟨#[102]⟩, shownM p, itoaB n, hexM x.data]
        have hsz : (⟨#[102]⟩ : ByteArray).size = 1 := rfl
        have h3 := hex_le x.data
        simp only [List.map_cons, List.map_nil, List.sum_cons, List.sum_nil, hsz] at hl
        omega
def shLen (S : PSt) (f : Nat) : Nat := wLen S f 1 0 + (S.ins.map fun x => 2 * x.data.size + 40).sum + (S.op.map fun _ => 80).sum + (S.made.map fun _ => 22).sum + 2
theorem shape_le {S : PSt} (hwf : S.wf) {f : Nat} (h : wlkOk S f 1 = true) : (shapeT S f).length ≤ shLen S f := by
  have h1 := wlk_le hwf f 1 ⟨#[]⟩ h
  have h2 := flatMap_le (unT S) (fun x => 2 * x.data.size + 40) S.ins (fun x hx => by
    unfold unT
    split
    · have hl := line_le [⟨#[117]⟩, itoaB x.num, hexM x.data]
      have hsz : (⟨#[117]⟩ : ByteArray).size = 1 := rfl
      have h3 := hex_le x.data
      have h4 := itoaB_le (hwf.2.2.2.1 x hx).1
      simp only [List.map_cons, List.map_nil, List.sum_cons, List.sum_nil, hsz] at hl
      omega
    · simp)
  have h3 := flatMap_le opT (fun _ => 80) S.op (fun d hd => by
    unfold opT
    have hl := line_le [⟨#[111]⟩, itoaB d.core, itoaB d.fd, itoaB d.num]
    have hsz : (⟨#[111]⟩ : ByteArray).size = 1 := rfl
    obtain ⟨a1, a2, a3⟩ := hwf.2.2.2.2.1 d hd
    have b1 := itoaB_le a1
    have b2 := itoaB_le a2
    have b3 := itoaB_le a3
    simp only [List.map_cons, List.map_nil, List.sum_cons, List.sum_nil, hsz] at hl
    omega)
  have h4 := flatMap_le mdT (fun _ => 22) S.made (fun m hm => by
    unfold mdT
    have := itoaB_le (hwf.2.2.2.2.2 m hm)
    have e : (Lib.itoa m).length = (itoaB m).size := rfl
    simp only [List.length_cons]
    omega)
  unfold shapeT filesT restT shLen
  simp only [List.length_append, List.length_cons, List.length_nil]
  have e0 : (⟨#[]⟩ : ByteArray).size = 0 := rfl
  rw [e0] at h1
  omega
end Go.Proofs.YtjkenolgkkknaaaGreatDoor
/- A region that draws its order, walked by what holds whatever has come up; an operation may leave it by a panic. Conditions: none. -/
set_option linter.unusedVariables false
set_option linter.unusedSimpArgs false
namespace Go
theorem putsL_defers (σ : Nat → Value) : ∀ (l : List Oper) (i : Nat) (a : Act), (putsL σ i l a).defers = a.defers
  | [], _, _ => rfl
  | o :: r, i, a => by
    simp only [putsL]
    rw [putsL_defers σ r (i + 1)]
    cases o.dst <;> rfl
section
variable {P : Program} {l : List Oper} {Q : Exit → Act → World → Prop}
theorem wpAny_invW (R : (Nat → Prop) → (Nat → Value) → World → Prop) {a0 : Act} (hB : Region.invB l = true) (hsz : ∀ d ∈ dstsL l, d < a0.tmps.size)
    (hstep : EachOp (fun i o => ∀ (D : Nat → Prop) (σ : Nat → Value) (w : World) (a : Act), ¬ D i → (∀ k, o.waits.contains k = true → D k) → R D σ w → (∀ j q d, l[j]? = some q → q.dst = some d → a.eval (.tmp d) = σ j) → (∀ d, (dstsL l).contains d = false → a.eval (.tmp d) = a0.eval (.tmp d)) → a.defers = a0.defers →
      (Region.wanted o (yielded l.toArray a.tmps) = true → ∀ nx : Act → World → Prop, (∀ v w', R (fun j => j = i ∨ D j) (updV σ i v) w' → nx (a.put o.dst v) w') → o.wp P a w nx Q) ∧ (Region.wanted o (yielded l.toArray a.tmps) = false → R (fun j => j = i ∨ D j) (updV σ i undef) w)) 0 l)
    (hend : ∀ σ w, R (fun _ => True) σ w → Q .normal (putsL σ 0 l a0) w) :
    ∀ (n : Nat) (listed : Array Bool) (σ : Nat → Value) (w : World), listed.size = l.length → listed.toList.count false = n → R (fun j => listed.getD j true = true) σ w → wpAny P .any l.toArray Q n listed (putsL σ 0 l a0) w := by
  simp only [Region.invB, Bool.and_eq_true, decide_eq_true_eq, List.all_eq_true, beq_iff_eq] at hB
  obtain ⟨⟨hsel, hnd⟩, hlt⟩ := hB
  intro n
  induction n with
  | zero =>
    intro listed σ w hs hc hR
    have hall : ∀ j, listed.getD j true = true := fun j => by
      by_cases hj : j < listed.size
      · rw [List.count_eq_zero] at hc
        have hm : listed[j] ∈ listed.toList := by simp
        rcases h : listed[j] with _ | _
        · rw [h] at hm
          exact absurd hm hc
        · simp [Array.getD, hj, h]
      · simp [Array.getD, hj]
    refine ⟨List.eq_nil_iff_forall_not_mem.2 fun i hi => ?_, hend σ w ?_⟩
    · obtain ⟨h0, _⟩ := mem_ready.1 hi
      rw [hall i] at h0
      cases h0
    · have e : (fun j => listed.getD j true = true) = fun _ => True := funext fun j => propext ⟨fun _ => trivial, fun _ => hall j⟩
      rw [← e]
      exact hR
  | succ n ih =>
    intro listed σ w hs hc hR
    have un : ∀ j, j < listed.size → ¬ listed.getD j false = true → listed.getD j true = false := fun j hj h => by
      simp [Array.getD, hj] at h ⊢
      exact h
    have hrd : ∀ i, listed.getD i true = false → Region.ready .any l.toArray listed ≠ [] := by
      intro i
      induction i using Nat.strongRecOn with
      | ind i ihi =>
        intro h h0
        have hi : i < l.length := by
          rw [← hs]
          by_cases hj : i < listed.size
          · exact hj
          · simp [Array.getD, hj] at h
        by_cases hall : ∀ e ∈ l[i].after, Region.binds .any e = true → listed.getD e.on false = true
        · have : i ∈ Region.ready .any l.toArray listed := mem_ready.2 ⟨h, l[i], by simp [hi], hall⟩
          rw [h0] at this
          cases this
        · obtain ⟨e, he⟩ := Classical.not_forall.1 hall
          obtain ⟨hm, he⟩ := Classical.not_imp.1 he
          obtain ⟨hb, hx⟩ := Classical.not_imp.1 he
          have h1 := hlt i (List.mem_range.2 hi)
          rw [List.getElem?_eq_getElem hi] at h1
          simp only [List.all_eq_true, Bool.or_eq_true, Bool.not_eq_true', decide_eq_true_eq] at h1
          have hon : e.on < i := by
            rcases h1 e (by simpa using hm) with h2 | h2
            · rw [hb] at h2; cases h2
            · exact h2
          exact ihi e.on hon (un e.on (by omega) hx) h0
    refine ⟨fun h0 => ?_, fun i hi => ?_⟩
    · exfalso
      have hm : false ∈ listed.toList := by
        refine Classical.byContradiction fun h => ?_
        rw [List.count_eq_zero.2 h] at hc
        cases hc
      obtain ⟨j, hj, he⟩ := List.getElem_of_mem hm
      have hj' : j < listed.size := by simpa using hj
      refine hrd j ?_ h0
      simp [Array.getD, hj']
      simpa using he
    · obtain ⟨h0, o, ho, hd⟩ := mem_ready.1 hi
      have ho' : l[i]? = some o := by simpa using ho
      obtain ⟨hil, hio⟩ := List.getElem?_eq_some_iff.1 ho'
      have his : i < listed.size := by omega
      unfold wpOp
      simp only [ho]
      have hst := EachOp.at_ hstep ho'
      rw [Nat.zero_add] at hst
      have h1 := hst (fun j => listed.getD j true = true) σ w (putsL σ 0 l a0) (by rw [h0]; exact Bool.false_ne_true) (fun k hk => ?_) hR (fun j q d hq hqd => ?_) (fun d hdm => ?_) (putsL_defers σ l 0 a0)
      · have hgo : ∀ v w', R (fun j => j = i ∨ listed.getD j true = true) (updV σ i v) w' → wpAny P .any l.toArray Q n (listed.setIfInBounds i true) ((putsL σ 0 l a0).put o.dst v) w' := by
          intro v w' hR'
          rw [putsL_upd σ v l 0 i a0 o hnd ho', Nat.zero_add]
          refine ih _ _ _ (by simpa using hs) ?_ ?_
          · have hlf : listed[i] = false := by simpa [Array.getD, his] using h0
            rw [Array.toList_setIfInBounds, List.count_set (by simpa using his)]
            simp [hlf] at hc ⊢
            omega
          · have e : (fun j => (listed.setIfInBounds i true).getD j true = true) = fun j => j = i ∨ listed.getD j true = true := funext fun j => propext (by
              by_cases hij : i = j
              · subst hij
                simp [Array.getD, his]
              · rw [getD_set_ne true hij]
                constructor
                · exact .inr
                · rintro (h | h)
                  · exact absurd h.symm hij
                  · exact h)
            rw [e]
            exact hR'
        rcases hwd : Region.wanted o (yielded l.toArray (putsL σ 0 l a0).tmps) with _ | _
        · rw [if_neg (by simp)]
          exact hgo _ _ (h1.2 hwd)
        · rw [if_pos rfl]
          exact .inl (h1.1 hwd _ hgo)
      · unfold Oper.waits at hk
        simp only [List.contains_eq_mem, decide_eq_true_eq] at hk
        obtain ⟨e, he, rfl⟩ := List.mem_map.1 hk
        obtain ⟨he1, he2⟩ := List.mem_filter.1 he
        have := hd e (by simpa using he1) he2
        by_cases hj : e.on < listed.size
        · simp [Array.getD, hj] at this ⊢
          exact this
        · simp [Array.getD, hj]
      · have := putsL_in σ l 0 j a0 q d hnd hq hqd (hsz d (dstsL_mem hq hqd))
        rw [Nat.zero_add] at this
        exact this
      · refine putsL_out σ d l 0 a0 (fun hm => ?_)
        have : (dstsL l).contains d = true := by simpa using hm
        rw [this] at hdm
        cases hdm
/-- A region that draws its order: each operation, whenever it comes up, keeps what holds. -/
theorem wp_region_invW {id : Nat} (R : (Nat → Prop) → (Nat → Value) → World → Prop) {a0 : Act} {w : World} (hm : P.follows .mixedOrders = true) (hB : Region.invB l = true) (hsz : ((dstsL l).all fun d => decide (d < a0.tmps.size)) = true)
    (h0 : ∀ σ, R (fun j => l.length ≤ j) σ w.drew)
    (hstep : EachOp (fun i o => ∀ (D : Nat → Prop) (σ : Nat → Value) (w : World) (a : Act), ¬ D i → (∀ k, o.waits.contains k = true → D k) → R D σ w → (∀ j q d, l[j]? = some q → q.dst = some d → a.eval (.tmp d) = σ j) → (∀ d, (dstsL l).contains d = false → a.eval (.tmp d) = a0.eval (.tmp d)) → a.defers = a0.defers →
      (Region.wanted o (yielded l.toArray a.tmps) = true → ∀ nx : Act → World → Prop, (∀ v w', R (fun j => j = i ∨ D j) (updV σ i v) w' → nx (a.put o.dst v) w') → o.wp P a w nx Q) ∧ (Region.wanted o (yielded l.toArray a.tmps) = false → R (fun j => j = i ∨ D j) (updV σ i undef) w)) 0 l)
    (hend : ∀ σ w, R (fun _ => True) σ w → Q .normal (putsL σ 0 l a0) w) : (Code.region id l.toArray true).wp P Q a0 w := by
  have hsz' : ∀ d ∈ dstsL l, d < a0.tmps.size := fun d hd => by
    have := List.all_eq_true.1 hsz d hd
    simpa using this
  have hB' := hB
  simp only [Region.invB, Bool.and_eq_true, decide_eq_true_eq, List.all_eq_true, beq_iff_eq] at hB'
  obtain ⟨⟨_, hnd⟩, _⟩ := hB'
  have hself : ∀ (l' : List Oper) (i : Nat) (τ : Nat → Value), (∀ j o d, l'[j]? = some o → o.dst = some d → τ (i + j) = a0.eval (.tmp d)) → (∀ d ∈ dstsL l', d < a0.tmps.size) → putsL τ i l' a0 = a0 := by
    intro l'
    induction l' with
    | nil => intro i τ _ _; rfl
    | cons o r ih =>
      intro i τ hτ hs
      simp only [putsL]
      have e : a0.put o.dst (τ i) = a0 := by
        rcases hd : o.dst with _ | d
        · rfl
        · have h1 := hτ 0 o d rfl hd
          rw [Nat.add_zero] at h1
          have hdl := hs d (dstsL_mem (j := 0) rfl hd)
          rw [h1]
          rcases a0 with ⟨t, df⟩
          simp only [Act.put, Act.eval]
          congr 1
          apply Array.ext
          · simp
          · intro k hk1 hk2
            rw [Array.getElem_setIfInBounds]
            split
            · rename_i hdk
              subst hdk
              simp [hk2]
            · rfl
      rw [e]
      exact ih (i + 1) τ (fun j o' d ho hd => by
        have := hτ (j + 1) o' d (by simpa using ho) hd
        rw [show i + 1 + j = i + (j + 1) by omega]
        exact this) (fun d hd => hs d (by rw [dstsL_cons]; split; exact hd; exact List.mem_cons_of_mem _ hd))
  refine wp_region_any hm ?_
  have h1 := wpAny_invW (Q := Q) R hB hsz' hstep hend l.length (Array.replicate l.length false) (fun j => match l[j]? with | some o => (match o.dst with | some d => a0.eval (.tmp d) | none => undef) | none => undef) w.drew (by simp) (by simp) (by
    have e : (fun j => (Array.replicate l.length false).getD j true = true) = fun j => l.length ≤ j := funext fun j => propext (by
      by_cases hj : j < l.length
      · simp [hj] <;> omega
      · simp [hj] <;> omega)
    rw [e]
    exact h0 _)
  rw [hself l 0 _ (fun j o d ho hd => by rw [Nat.zero_add, ho]; simp only [hd]) hsz'] at h1
  simpa using h1
end
/-- An operation that leaves a value. -/
theorem Oper.wpW {P : Program} {Q : Exit → Act → World → Prop} {o : Oper} {a : Act} {w : World} {K : Value → World → Prop} (h : o.eff P a w K) : ∀ nx : Act → World → Prop, (∀ v w', K v w' → nx (a.put o.dst v) w') → o.wp P a w nx Q := fun _ hn => Oper.wp_of_eff h hn
/-- A call that throws. -/
theorem Oper.wpX {P : Program} {Q : Exit → Act → World → Prop} {o : Oper} {a : Act} {w : World} (f : FuncId) (args : Array Value) {nx : Act → World → Prop} (hr : (execOp a.eval o).run P w = .ok (.enter f args) w) (h : Calls P f args w fun e w' => ∃ ch, e = .panicked ch ∧ Q (.panic ch) a w') : o.wp P a w nx Q := by
  unfold Oper.wp
  rw [hr, Oper.upon_enter]
  exact h.mono fun e w' ⟨ch, he, hq⟩ => by subst he; exact hq
end Go
/- 'at', where the path is refused: the code is thrown. Conditions: none. -/
set_option linter.unusedVariables false
set_option linter.unusedSimpArgs false
namespace Go.Proofs.YtjkenolgkkknaaaGreatDoor
open Go.RowKit
theorem evT (a : Act) (k : Tmp) : a.eval (.tmp k) = (a.tmps[k]?).getD undef := by simp [Act.eval, go_sem]
theorem eff_v {P : Program} {o : Oper} {a : Act} {w w' : World} {K : Value → World → Prop} {v : Value} (h : (execOp a.eval o).run P w = .ok (.value v) w') (hk : K v w') : o.eff P a w K := by
  unfold Oper.eff
  rw [h]
  exact hk
set_option maxRecDepth 100000 in
set_option maxHeartbeats 4000000 in
theorem at122x (d b : Nat) (S : PSt) (c : PCall) (s : ByteArray) (w : World) (h : DR w d b S c) (hp : (parseM s).1 ≠ 0) :
    Calls Tryz.prog 122 #[.pointer (some ⟨d, 0, none⟩), .string s] w fun e w' => e = thrown (codeM (parseM s).1) ∧ Below w.heap.size w w' := by
  have hpar : ∀ ww, Calls Tryz.prog 150 #[.string s] ww fun e w' => e = thrown (codeM (parseM s).1) ∧ Below ww.heap.size ww w' := fun ww => by
    refine (parse150 s ww).mono ?_
    intro e w' h
    rcases h with ⟨h, _⟩ | ⟨_, h1, h2⟩
    · exact absurd h hp
    · exact ⟨h1, h2⟩
  have hd0 := h.d0
  have iD : BlockLt d w := ⟨h.lt⟩
  generalize codeM (parseM s).1 = C at hpar ⊢
  clear h hp
  go_enter Tryz.func122, Tryz.ntmps122
  go_upto_region 1 with fail
  refine wp_region_invW (fun D σ w1 => (∀ k, 5 ≤ k → k < 12 → ¬ D k) ∧ (D 0 → σ 0 = .pointer (some ⟨d, 0, none⟩)) ∧ (D 1 → σ 1 = .pointer (some ⟨d, 0, none⟩)) ∧ (D 2 → σ 2 = .pointer (some ⟨d, 0, none⟩)) ∧ (D 3 → σ 3 = .pointer (some ⟨b, 0, none⟩)) ∧ (D 4 → σ 4 = .string s) ∧ Below w.heap.size w w1) (by kernel_rfl) (by kernel_rfl) (by kernel_rfl) ?_ ?_ ?_
  · intro σ
    exact ⟨fun k h1 h2 h3 => absurd h3 (by show ¬ 12 ≤ k; omega), fun h => absurd h (by decide), fun h => absurd h (by decide), fun h => absurd h (by decide), fun h => absurd h (by decide), fun h => absurd h (by decide), bel w _⟩
  · have nl : ∀ {a b : Nat} {p : Prop}, (a = b ∨ p) → a ≠ b → p := fun h hn => h.resolve_left hn
    refine ⟨?_, ?_, ?_, ?_, ?_, ?_, ?_, ?_, ?_, ?_, ?_, ?_, trivial⟩
    all_goals
      intro D σ w1 a hnd hw hR hin hout hdf
      obtain ⟨r5, r0, r1, r2, r3, r4, hb⟩ := hR
      refine ⟨fun _ => ?_, fun h => absurd h (by simp [Region.wanted])⟩
    · have e0 : (a.tmps[0]?).getD undef = .pointer (some ⟨d, 0, none⟩) := (evT a 0).symm.trans ((hout 0 (by kernel_rfl)).trans (by kernel_rfl))
      refine Oper.wpW (eff_v (v := .pointer (some ⟨d, 0, none⟩)) ?_ ⟨fun k h1 h2 h3 => r5 k h1 h2 (nl h3 (by omega)), fun _ => rfl, fun h => r1 (nl h (by decide)), fun h => r2 (nl h (by decide)), fun h => r3 (nl h (by decide)), fun h => r4 (nl h (by decide)), hb⟩)
      clear hin hout hw
      go_simp
      first | done | rfl
    · have e0 : (a.tmps[8]?).getD undef = .pointer (some ⟨d, 0, none⟩) := (evT a 8).symm.trans ((hin 0 _ 8 rfl rfl).trans (r0 (hw 0 (by kernel_rfl))))
      refine Oper.wpW (eff_v (v := .pointer (some ⟨d, 0, none⟩)) ?_ ⟨fun k h1 h2 h3 => r5 k h1 h2 (nl h3 (by omega)), fun h => r0 (nl h (by decide)), fun _ => rfl, fun h => r2 (nl h (by decide)), fun h => r3 (nl h (by decide)), fun h => r4 (nl h (by decide)), hb⟩)
      clear hin hout hw
      go_simp
      first | done | rfl
    · have e0 : (a.tmps[9]?).getD undef = .pointer (some ⟨d, 0, none⟩) := (evT a 9).symm.trans ((hin 1 _ 9 rfl rfl).trans (r1 (hw 1 (by kernel_rfl))))
      refine Oper.wpW (eff_v (v := .pointer (some ⟨d, 0, none⟩)) ?_ ⟨fun k h1 h2 h3 => r5 k h1 h2 (nl h3 (by omega)), fun h => r0 (nl h (by decide)), fun h => r1 (nl h (by decide)), fun _ => rfl, fun h => r3 (nl h (by decide)), fun h => r4 (nl h (by decide)), hb⟩)
      clear hin hout hw
      go_simp
      first | done | rfl
    · have e0 : (a.tmps[10]?).getD undef = .pointer (some ⟨d, 0, none⟩) := (evT a 10).symm.trans ((hin 2 _ 10 rfl rfl).trans (r2 (hw 2 (by kernel_rfl))))
      have hd1 : w1.cell? ⟨d, 0, none⟩ = some (.pointer (some ⟨b, 0, none⟩)) := (hb.cell (by exact iD.lt)).trans hd0
      have iD1 : BlockLt d w1 := ⟨Nat.lt_of_lt_of_le iD.lt hb.size⟩
      refine Oper.wpW (eff_v (v := .pointer (some ⟨b, 0, none⟩)) ?_ ⟨fun k h1 h2 h3 => r5 k h1 h2 (nl h3 (by omega)), fun h => r0 (nl h (by decide)), fun h => r1 (nl h (by decide)), fun h => r2 (nl h (by decide)), fun _ => rfl, fun h => r4 (nl h (by decide)), hb⟩)
      clear hin hout hw
      go_simp
      first | done | rfl
    · have e0 : (a.tmps[1]?).getD undef = .string s := (evT a 1).symm.trans ((hout 1 (by kernel_rfl)).trans (by kernel_rfl))
      refine Oper.wpW (eff_v (v := .string s) ?_ ⟨fun k h1 h2 h3 => r5 k h1 h2 (nl h3 (by omega)), fun h => r0 (nl h (by decide)), fun h => r1 (nl h (by decide)), fun h => r2 (nl h (by decide)), fun h => r3 (nl h (by decide)), fun _ => rfl, hb⟩)
      clear hin hout hw
      go_simp
      first | done | rfl
    · have e0 : (a.tmps[12]?).getD undef = .string s := (evT a 12).symm.trans ((hin 4 _ 12 rfl rfl).trans (r4 (hw 4 (by kernel_rfl))))
      intro nx _
      refine Oper.wpX 150 #[.string s] ?_ ((hpar w1).mono fun e w' ⟨he, hb2⟩ => ⟨_, he, hdf, rfl, hb.trans (hb2.mono hb.size)⟩)
      clear hin hout hw
      go_simp
      first | done | rfl
    · exact absurd (hw 5 (by kernel_rfl)) (r5 5 (by decide) (by decide))
    · exact absurd (hw 6 (by kernel_rfl)) (r5 6 (by decide) (by decide))
    · exact absurd (hw 7 (by kernel_rfl)) (r5 7 (by decide) (by decide))
    · exact absurd (hw 7 (by kernel_rfl)) (r5 7 (by decide) (by decide))
    · exact absurd (hw 8 (by kernel_rfl)) (r5 8 (by decide) (by decide))
    · exact absurd (hw 9 (by kernel_rfl)) (r5 9 (by decide) (by decide))
  · intro σ w1 hR
    exact absurd trivial (hR.1 5 (by decide) (by decide))
end Go.Proofs.YtjkenolgkkknaaaGreatDoor
/- A state that may be is a tree: how long its walk is. Conditions: none. -/
set_option linter.unusedVariables false
set_option linter.unusedSimpArgs false
namespace Go.Proofs.YtjkenolgkkknaaaGreatDoor
open Go.RowKit
def sumU (f : Nat → Nat) : Nat → Nat
  | 0 => 0
  | n + 1 => sumU f n + f n
theorem sumU_one {f : Nat → Nat} : ∀ {n : Nat}, sumU f n = 1 → ∃ p, p < n ∧ f p = 1 ∧ ∀ k, k < n → k ≠ p → f k = 0
  | 0, h => by cases h
  | n + 1, h => by
    unfold sumU at h
    have hz : ∀ {m : Nat}, sumU f m = 0 → ∀ k, k < m → f k = 0 := by
      intro m
      induction m with
      | zero => intro _ k hk; omega
      | succ m ih =>
        intro h k hk
        unfold sumU at h
        by_cases e : k = m
        · subst e; omega
        · exact ih (by omega) k (by omega)
    by_cases e : f n = 1
    · exact ⟨n, by omega, e, fun k hk hne => hz (m := n) (by omega) k (by omega)⟩
    · obtain ⟨p, h1, h2, h3⟩ := sumU_one (f := f) (n := n) (by omega)
      exact ⟨p, by omega, h2, fun k hk hne => by
        by_cases e2 : k = n
        · subst e2; omega
        · exact h3 k (by omega) hne⟩
theorem sumU_mono {f g : Nat → Nat} : ∀ {n : Nat}, (∀ k, k < n → f k ≤ g k) → sumU f n ≤ sumU g n
  | 0, _ => Nat.le_refl _
  | n + 1, h => by
    unfold sumU
    have h1 := sumU_mono (f := f) (g := g) (n := n) fun k hk => h k (by omega)
    have h2 := h n (by omega)
    omega
theorem sumU_const (c n : Nat) : sumU (fun _ => c) n = n * c := by
  induction n with
  | zero => simp [sumU]
  | succ n ih => unfold sumU; rw [ih, Nat.succ_mul]
theorem sumU_add (f g : Nat → Nat) (n : Nat) : sumU (fun k => f k + g k) n = sumU f n + sumU g n := by
  induction n with
  | zero => rfl
  | succ n ih => unfold sumU; rw [ih]; omega
/-- The places that an inode's entries name. -/
def kidsI (S : PSt) (k : Nat) : List Nat := match S.ins[k]? with
  | some x => if x.dir = true then x.ents.map fun e => (atR S e.num).toNat else []
  | none => []
/-- What lies so many steps below some places. -/
def levL (S : PSt) : Nat → List Nat → List Nat
  | 0, ns => ns
  | i + 1, ns => levL S i (ns.flatMap (kidsI S))
theorem levL_nil (S : PSt) : ∀ i, levL S i [] = []
  | 0 => rfl
  | i + 1 => by unfold levL; exact levL_nil S i
theorem levL_append (S : PSt) : ∀ i (as_ bs : List Nat), levL S i (as_ ++ bs) = levL S i as_ ++ levL S i bs
  | 0, _, _ => rfl
  | i + 1, as_, bs => by
    unfold levL
    rw [List.flatMap_append]
    exact levL_append S i _ _
theorem levL_len (S : PSt) (i : Nat) : ∀ ns : List Nat, (levL S i ns).length = (ns.map fun k => (levL S i [k]).length).sum
  | [] => by rw [levL_nil]; rfl
  | k :: r => by
    rw [show k :: r = [k] ++ r from rfl, levL_append, List.length_append, levL_len S i r]
    rfl
theorem levL_step (S : PSt) : ∀ i ns, levL S (i + 1) ns = (levL S i ns).flatMap (kidsI S)
  | 0, _ => rfl
  | i + 1, ns => by
    show levL S (i + 1) (ns.flatMap (kidsI S)) = _
    rw [levL_step S i]
    rfl
/-- How many nodes the first levels below a place have. -/
def cntN (S : PSt) : Nat → Nat → Nat
  | 0, _ => 0
  | f + 1, k => 1 + ((kidsI S k).map (cntN S f)).sum
theorem sum_map_add {α : Type} (f g : α → Nat) (l : List α) : (l.map fun x => f x + g x).sum = (l.map f).sum + (l.map g).sum := by
  induction l with
  | nil => rfl
  | cons x r ih => simp only [List.map_cons, List.sum_cons]; omega
theorem sum_map_sumU {α : Type} (g : Nat → α → Nat) (n : Nat) (l : List α) : (l.map fun x => sumU (fun i => g i x) n).sum = sumU (fun i => (l.map (g i)).sum) n := by
  induction n with
  | zero => simp only [sumU]; induction l with
    | nil => rfl
    | cons x r ih => simp only [List.map_cons, List.sum_cons]; omega
  | succ n ih =>
    simp only [sumU]
    rw [sum_map_add, ih]
theorem sumU_shift (g : Nat → Nat) (n : Nat) : sumU g (n + 1) = g 0 + sumU (fun i => g (i + 1)) n := by
  induction n with
  | zero => simp [sumU]
  | succ n ih =>
    rw [sumU, ih]
    simp only [sumU]
    omega
theorem cntN_lev (S : PSt) : ∀ f k, cntN S f k = sumU (fun i => (levL S i [k]).length) f
  | 0, _ => rfl
  | f + 1, k => by
    rw [sumU_shift]
    unfold cntN
    have e : (kidsI S k).map (cntN S f) = (kidsI S k).map fun c => sumU (fun i => (levL S i [c]).length) f := List.map_congr_left fun c _ => cntN_lev S f c
    rw [e, sum_map_sumU]
    have h2 : ∀ i, (levL S (i + 1) [k]).length = ((kidsI S k).map fun c => (levL S i [c]).length).sum := fun i => by
      show (levL S i ([k].flatMap (kidsI S))).length = _
      rw [show [k].flatMap (kidsI S) = kidsI S k by simp]
      exact levL_len S i _
    simp only [h2]
    rfl
/-- A tree: each directory but the root is named once, the root never. -/
structure Tree (S : PSt) : Prop where
  rise : Rise S.nums
  pos : 0 < S.ins.length
  small : S.ins.length ≤ 257
  found : ∀ x ∈ S.ins, ∀ e ∈ x.ents, 0 ≤ atR S e.num ∧ atR S e.num < S.ins.length
  root : ∀ k, 0 ∉ kidsI S k
  once : ∀ j x, S.ins[j]? = some x → x.dir = true → j ≠ 0 → sumU (fun k => (kidsI S k).count j) S.ins.length ≤ 1
  many : ∀ x ∈ S.ins, x.ents.length ≤ 32
  name : ∀ x ∈ S.ins, ∀ e ∈ x.ents, e.name.size ≤ 12
  data : ∀ x ∈ S.ins, x.data.size ≤ 256
section
variable {S : PSt}
theorem Tree.kid_lt (h : Tree S) {k j : Nat} (hj : j ∈ kidsI S k) : j < S.ins.length := by
  unfold kidsI at hj
  split at hj
  · rename_i x hx
    split at hj
    · obtain ⟨e, he, rfl⟩ := List.mem_map.1 hj
      have := h.found x (List.mem_of_getElem? hx) e he
      omega
    · cases hj
  · cases hj
def isDir (S : PSt) (k : Nat) : Bool := match S.ins[k]? with | some x => x.dir | none => false
theorem kids_dir {k : Nat} (h : kidsI S k ≠ []) : isDir S k = true := by
  unfold kidsI at h
  unfold isDir
  split at h
  · rename_i x hx
    rcases hd : x.dir with _ | _
    · rw [hd] at h; simp at h
    · rfl
  · exact absurd rfl h
theorem Tree.lev_lt (h : Tree S) : ∀ i j, j ∈ levL S i [0] → j < S.ins.length
  | 0, j, hj => by
    have : j = 0 := List.mem_singleton.1 hj
    have := h.pos
    omega
  | i + 1, j, hj => by
    rw [levL_step] at hj
    obtain ⟨k, _, hk⟩ := List.mem_flatMap.1 hj
    exact h.kid_lt hk
theorem count_flat (f : Nat → List Nat) (j : Nat) : ∀ l : List Nat, (l.flatMap f).count j = (l.map fun k => (f k).count j).sum
  | [] => rfl
  | k :: r => by
    rw [List.flatMap_cons, List.count_append, count_flat f j r]
    rfl
theorem sum_one_at {c : Nat → Nat} {p : Nat} (hp : c p = 1) : ∀ l : List Nat, (∀ k ∈ l, k ≠ p → c k = 0) → (l.map c).sum = l.count p
  | [], _ => rfl
  | k :: r, h => by
    rw [List.map_cons, List.sum_cons, sum_one_at hp r fun k hk => h k (List.mem_cons_of_mem _ hk), List.count_cons]
    by_cases e : k = p
    · subst e; rw [hp]; simp; omega
    · rw [h k List.mem_cons_self e]; simp [e]
theorem sum_zero_at {c : Nat → Nat} : ∀ l : List Nat, (∀ k ∈ l, c k = 0) → (l.map c).sum = 0
  | [], _ => rfl
  | k :: r, h => by
    rw [List.map_cons, List.sum_cons, sum_zero_at r fun k hk => h k (List.mem_cons_of_mem _ hk), h k List.mem_cons_self]
/-- A directory is come to once at most. -/
theorem Tree.visit (h : Tree S) : ∀ (l j : Nat), isDir S j = true → sumU (fun i => (levL S i [0]).count j) (l + 1) ≤ 1
  | 0, j, _ => by
    simp only [sumU, levL]
    rw [List.count_singleton]
    split <;> omega
  | l + 1, j, hj => by
    rw [sumU_shift]
    have hstep : ∀ i, (levL S (i + 1) [0]).count j = ((levL S i [0]).map fun k => (kidsI S k).count j).sum := fun i => by rw [levL_step, count_flat]
    simp only [hstep]
    by_cases j0 : j = 0
    · subst j0
      have hz : ∀ i, ((levL S i [0]).map fun k => (kidsI S k).count 0).sum = 0 := fun i => sum_zero_at _ fun k _ => List.count_eq_zero.2 (h.root k)
      simp only [hz]
      rw [sumU_const]
      simp [levL]
    · have h0 : (levL S 0 [0]).count j = 0 := List.count_eq_zero.2 (by simp [levL]; exact j0)
      rw [h0, Nat.zero_add]
      have hx : ∃ x, S.ins[j]? = some x ∧ x.dir = true := by
        unfold isDir at hj
        split at hj
        · rename_i x hx; exact ⟨x, hx, hj⟩
        · cases hj
      obtain ⟨x, hx1, hx2⟩ := hx
      have ho := h.once j x hx1 hx2 j0
      rcases Nat.lt_or_ge 0 (sumU (fun k => (kidsI S k).count j) S.ins.length) with hp | hp
      · obtain ⟨p, p1, p2, p3⟩ := sumU_one (f := fun k => (kidsI S k).count j) (n := S.ins.length) (by omega)
        have hpd : isDir S p = true := kids_dir (fun e => by simp only [e] at p2; simp at p2)
        have hi : ∀ i, ((levL S i [0]).map fun k => (kidsI S k).count j).sum = (levL S i [0]).count p := fun i => sum_one_at (c := fun k => (kidsI S k).count j) (p := p) p2 _ fun k hk hne => p3 k (h.lev_lt i k hk) hne
        simp only [hi]
        exact h.visit l p hpd
      · have hz : ∀ k, k < S.ins.length → (kidsI S k).count j = 0 := by
          have key : ∀ (n : Nat), sumU (fun k => (kidsI S k).count j) n = 0 → ∀ k, k < n → (kidsI S k).count j = 0 := by
            intro n
            induction n with
            | zero => intro _ k hk; omega
            | succ n ih =>
              intro e k hk
              unfold sumU at e
              by_cases e2 : k = n
              · subst e2; omega
              · exact ih (by omega) k (by omega)
          exact key _ (by omega)
        have hi : ∀ i, ((levL S i [0]).map fun k => (kidsI S k).count j).sum = 0 := fun i => sum_zero_at _ fun k hk => hz k (h.lev_lt i k hk)
        simp only [hi]
        rw [sumU_const]
        omega
theorem countP_sum (S : PSt) (n : Nat) : ∀ l : List Nat, (∀ k ∈ l, k < n) → l.countP (isDir S) = sumU (fun j => if isDir S j = true then l.count j else 0) n := by
  intro l
  induction l with
  | nil =>
    intro _
    have : (fun j => if isDir S j = true then ([] : List Nat).count j else 0) = fun _ => 0 := by funext j; simp
    rw [this, sumU_const]
    simp
  | cons k r ih =>
    intro hl
    have hk := hl k List.mem_cons_self
    rw [List.countP_cons, ih fun k hk => hl k (List.mem_cons_of_mem _ hk)]
    have e : (fun j => if isDir S j = true then (k :: r).count j else 0) = fun j => (if isDir S j = true then r.count j else 0) + (if j = k then (if isDir S k = true then 1 else 0) else 0) := by
      funext j
      rw [List.count_cons]
      by_cases e1 : j = k
      · subst e1
        simp
        split <;> rfl
      · have : (k == j) = false := by rw [beq_eq_false_iff_ne]; exact fun h => e1 h.symm
        simp [this, e1]
    rw [e, sumU_add]
    congr 1
    have one : ∀ (n k v : Nat), k < n → sumU (fun j => if j = k then v else 0) n = v := by
      intro n
      induction n with
      | zero => intro k v hk; omega
      | succ n ihn =>
        intro k v hk
        unfold sumU
        by_cases e2 : k = n
        · subst e2
          have : sumU (fun j => if j = k then v else 0) k = 0 := by
            have hm : sumU (fun j => if j = k then v else 0) k ≤ sumU (fun _ => 0) k := sumU_mono fun j hj => by rw [if_neg (by omega)]; exact Nat.le_refl _
            rw [sumU_const] at hm
            omega
          rw [this, if_pos rfl]
          omega
        · rw [ihn k v (by omega), if_neg (fun h => e2 h.symm), Nat.add_zero]
    rw [one n k _ hk]
theorem sumU_swap (g : Nat → Nat → Nat) (n : Nat) : ∀ m, sumU (fun i => sumU (fun j => g i j) n) m = sumU (fun j => sumU (fun i => g i j) m) n
  | 0 => by
    simp only [sumU]
    rw [sumU_const]
    rfl
  | m + 1 => by
    rw [sumU, sumU_swap g n m]
    rw [← sumU_add]
    rfl
/-- All levels together have no more directories than there are inodes. -/
theorem Tree.dirs (h : Tree S) (l : Nat) : sumU (fun i => (levL S i [0]).countP (isDir S)) (l + 1) ≤ S.ins.length := by
  have e : ∀ i, (levL S i [0]).countP (isDir S) = sumU (fun j => if isDir S j = true then (levL S i [0]).count j else 0) S.ins.length := fun i => countP_sum S S.ins.length _ fun k hk => h.lev_lt i k hk
  simp only [e]
  rw [sumU_swap]
  have hb : sumU (fun j => sumU (fun i => if isDir S j = true then (levL S i [0]).count j else 0) (l + 1)) S.ins.length ≤ sumU (fun _ => 1) S.ins.length := sumU_mono fun j hj => by
    by_cases hd : isDir S j = true
    · simp only [hd, if_true]
      exact h.visit l j hd
    · simp only [hd, if_neg (Bool.false_ne_true)]
      have : sumU (fun _ => 0) (l + 1) = 0 := by rw [sumU_const]; rfl
      simp [this]
  rw [sumU_const] at hb
  omega
theorem sumU_ge {f : Nat → Nat} : ∀ {n i : Nat}, i < n → f i ≤ sumU f n
  | 0, _, h => by omega
  | n + 1, i, h => by
    unfold sumU
    by_cases e : i = n
    · subst e; omega
    · have := sumU_ge (f := f) (n := n) (i := i) (by omega)
      omega
theorem Tree.kids_le (h : Tree S) (k : Nat) : (kidsI S k).length ≤ if isDir S k = true then 32 else 0 := by
  unfold kidsI isDir
  split
  · rename_i x hx
    split
    · rw [List.length_map]
      exact h.many x (List.mem_of_getElem? hx)
    · exact Nat.le_refl _
  · exact Nat.zero_le _
theorem sum_if_count (p : Nat → Bool) : ∀ l : List Nat, (l.map fun k => if p k = true then 32 else 0).sum = 32 * l.countP p
  | [] => rfl
  | k :: r => by
    rw [List.map_cons, List.sum_cons, sum_if_count p r, List.countP_cons]
    split <;> omega
/-- A level has not many places. -/
theorem Tree.lev_len (h : Tree S) : ∀ i, (levL S i [0]).length ≤ 8225
  | 0 => by simp [levL]
  | i + 1 => by
    rw [levL_step, List.length_flatMap]
    have h1 := sum_le (fun k => (kidsI S k).length) (fun k => if isDir S k = true then 32 else 0) (levL S i [0]) fun k _ => h.kids_le k
    rw [sum_if_count] at h1
    have h2 := sumU_ge (f := fun i => (levL S i [0]).countP (isDir S)) (n := i + 1) (i := i) (by omega)
    have h3 := h.dirs i
    have h4 := h.small
    omega
/-- At last there is nothing. -/
theorem Tree.ends (h : Tree S) : levL S 258 [0] = [] := by
  have hno : ∃ i, i < 258 ∧ (levL S i [0]).countP (isDir S) = 0 := by
    apply Classical.byContradiction
    intro hn
    have h1 : sumU (fun _ => 1) 258 ≤ sumU (fun i => (levL S i [0]).countP (isDir S)) 258 := sumU_mono fun i hi => by
      rcases Nat.lt_or_ge 0 ((levL S i [0]).countP (isDir S)) with h2 | h2
      · exact h2
      · exact absurd ⟨i, hi, by omega⟩ hn
    rw [sumU_const] at h1
    have h2 : sumU (fun i => (levL S i [0]).countP (isDir S)) 258 ≤ S.ins.length := h.dirs 257
    have h4 := h.small
    omega
  obtain ⟨i, hi, hz⟩ := hno
  have h1 : levL S (i + 1) [0] = [] := by
    rw [levL_step]
    rw [List.flatMap_eq_nil_iff]
    intro k hk
    apply Classical.byContradiction
    intro hne
    have := List.countP_eq_zero.1 hz k hk
    exact this (kids_dir hne)
  have key : ∀ m, levL S (i + 1 + m) [0] = [] := by
    intro m
    induction m with
    | zero => exact h1
    | succ m ih => rw [← Nat.add_assoc, levL_step, ih]; rfl
  have := key (258 - (i + 1))
  rw [show i + 1 + (258 - (i + 1)) = 258 by omega] at this
  exact this
theorem atR_at {k : Nat} {n : Int} (h0 : 0 ≤ atR S n) (hk : (atR S n).toNat = k) : idxM (isNum n) S.ins = (k : Int) := by
  show atR S n = _
  omega
/-- The walk ends. -/
theorem Tree.ok (h : Tree S) : ∀ (f : Nat) (n : Int), 0 ≤ atR S n → atR S n < S.ins.length → levL S f [(atR S n).toNat] = [] → wlkOk S f n = true
  | 0, n, h0, h1, hl => by cases hl
  | f + 1, n, h0, h1, hl => by
    unfold wlkOk
    rw [atR_at h0 rfl, Int.toNat_natCast]
    have hx : S.ins[(atR S n).toNat]? = some (S.ins[(atR S n).toNat]'(by omega)) := List.getElem?_eq_getElem (by omega)
    rw [hx]
    simp only [Bool.and_eq_true, decide_eq_true_eq]
    refine ⟨by omega, ?_⟩
    rcases hd : (S.ins[(atR S n).toNat]'(by omega)).dir with _ | _
    · rfl
    · simp only [Bool.not_true, Bool.false_or, List.all_eq_true]
      intro e he
      have hf := h.found _ (List.getElem_mem (by omega)) e he
      refine h.ok f e.num hf.1 hf.2 ?_
      have hl2 : levL S f (kidsI S (atR S n).toNat) = [] := by
        have : levL S (f + 1) [(atR S n).toNat] = levL S f ([(atR S n).toNat].flatMap (kidsI S)) := rfl
        rw [this] at hl
        simpa using hl
      have hm : (atR S e.num).toNat ∈ kidsI S (atR S n).toNat := by
        unfold kidsI
        rw [hx]
        simp only
        rw [if_pos hd]
        exact List.mem_map_of_mem he
      obtain ⟨as_, bs, e2⟩ := List.append_of_mem hm
      rw [e2, show (atR S e.num).toNat :: bs = [(atR S e.num).toNat] ++ bs from rfl, levL_append, levL_append] at hl2
      exact (List.append_eq_nil_iff.1 (List.append_eq_nil_iff.1 hl2).2).1
/-- How long the walk's text is. -/
theorem Tree.len (h : Tree S) : ∀ (f : Nat) (n : Int) (p : Nat), wLen S f n p ≤ cntN S f (atR S n).toNat * (p + 13 * f + 552)
  | 0, n, p => Nat.zero_le _
  | f + 1, n, p => by
    unfold wLen cntN
    have ei : (idxM (isNum n) S.ins).toNat = (atR S n).toNat := rfl
    rw [ei]
    rcases hx : S.ins[(atR S n).toNat]? with _ | x
    · exact Nat.zero_le _
    · simp only
      have hk : kidsI S (atR S n).toNat = if x.dir = true then x.ents.map fun e => (atR S e.num).toNat else [] := by unfold kidsI; rw [hx]
      have hxm := List.mem_of_getElem? hx
      by_cases hd : x.dir = true
      · rw [if_pos hd]
        rw [if_pos hd] at hk
        rw [hk, List.map_map]
        have h1 := sum_le (fun e : PEnt => wLen S f e.num (p + 1 + e.name.size)) (fun e => cntN S f (atR S e.num).toNat * (p + 13 * (f + 1) + 552)) x.ents fun e he => by
          have h2 := h.len f e.num (p + 1 + e.name.size)
          have h3 := h.name x hxm e he
          exact Nat.le_trans h2 (Nat.mul_le_mul_left _ (by omega))
        have h4 : (x.ents.map fun e => cntN S f (atR S e.num).toNat * (p + 13 * (f + 1) + 552)).sum = (x.ents.map (cntN S f ∘ fun e => (atR S e.num).toNat)).sum * (p + 13 * (f + 1) + 552) := by
          generalize p + 13 * (f + 1) + 552 = c
          induction x.ents with
          | nil => simp
          | cons e r ih => simp only [List.map_cons, List.sum_cons, Function.comp]; rw [ih, Nat.add_mul]
        rw [h4] at h1
        rw [Nat.add_mul, Nat.one_mul]
        omega
      · rw [if_neg hd]
        have h5 := h.data x hxm
        rw [Nat.add_mul, Nat.one_mul]
        have : p + 2 * x.data.size + 40 ≤ p + 13 * (f + 1) + 552 := by omega
        omega
end
end Go.Proofs.YtjkenolgkkknaaaGreatDoor
/- A state, a call that came in, opened; their sizes by the bulk of what is read. Conditions: none. -/
set_option linter.unusedVariables false
set_option linter.unusedSimpArgs false
namespace Go.Proofs.YtjkenolgkkknaaaGreatDoor
set_option maxRecDepth 100000
open Go.RowKit Go.ChangeShapes Go.WideShapes Go.Deep Go.Joins
theorem cellsOf_3 : Tryz.prog.cellsOf 3 = 1 := by kernel_rfl
theorem cellsOf_4 : Tryz.prog.cellsOf 4 = 1 := by kernel_rfl
theorem cellsOf_9 : Tryz.prog.cellsOf 9 = 1 := by kernel_rfl
theorem cellsOf_23 : Tryz.prog.cellsOf 23 = 1 := by kernel_rfl
theorem cellsOf_24 : Tryz.prog.cellsOf 24 = 1 := by kernel_rfl
theorem cellsOf_25 : Tryz.prog.cellsOf 25 = 1 := by kernel_rfl
theorem cellsOf_63 : Tryz.prog.cellsOf 63 = 1 := by kernel_rfl
theorem cellsOf_27 : Tryz.prog.cellsOf 27 = 3 := by kernel_rfl
theorem cellsOf_29 : Tryz.prog.cellsOf 29 = 8 := by kernel_rfl
theorem cellsOf_65 : Tryz.prog.cellsOf 65 = 4 := by kernel_rfl
theorem cellsOf_88 : Tryz.prog.cellsOf 88 = 3 := by kernel_rfl
theorem cellsOf_99 : Tryz.prog.cellsOf 99 = 2 := by kernel_rfl
theorem i64_wf {n : Int} (h : (Lit.int .i64 n).wf = true) : I64 n := by
  simp [Lit.wf, IntKind.min, IntKind.max, IntKind.signed, IntKind.bits] at h
  unfold I64
  omega
theorem bulk_one {H : Type} (d : DataW H) : 1 ≤ Rows.uptoBulk d := by
  cases d with
  | lit l => cases l <;> simp [Rows.uptoBulk]
  | nil => simp [Rows.uptoBulk]
  | ptr d => simp [Rows.uptoBulk]
  | slice elems spare => simp [Rows.uptoBulk]
  | agg parts => simp [Rows.uptoBulk]
  | iface t d => simp [Rows.uptoBulk]
  | map entries => simp [Rows.uptoBulk]
  | held h => simp [Rows.uptoBulk]
theorem bulk_part {H : Type} {d : DataW H} : ∀ {l : List (DataW H)}, d ∈ l → Rows.uptoBulk d ≤ Rows.uptoBulkAll l
  | [], h => by cases h
  | x :: r, h => by
    simp only [Rows.uptoBulkAll]
    rcases List.mem_cons.1 h with rfl | h
    · omega
    · have := bulk_part h
      omega
theorem bulk_len {H : Type} : ∀ (l : List (DataW H)), l.length ≤ Rows.uptoBulkAll l
  | [] => by simp
  | x :: r => by
    simp only [Rows.uptoBulkAll, List.length_cons]
    have h1 := bulk_one x
    have h2 := bulk_len r
    omega
theorem bulk_agg {H : Type} {d : DataW H} {l : List (DataW H)} (h : d ∈ l) : Rows.uptoBulk d ≤ Rows.uptoBulk (.agg l) := by
  have := bulk_part h
  simp only [Rows.uptoBulk]
  omega
section
variable {H : Type} {enc : TypeId × Value → H} {W : World} {base : Nat} {sp : Nat → Bool} {hd : Bool}
/-- A slice opened at every element. -/
theorem open_row {t e k : Nat} (hsl : Tryz.prog.underlying t = some (.slice e)) (hk : Tryz.prog.cellsOf e = k) (hk0 : 0 < k) {α : Type} (cells : α → List Value) (Good : Nat → α → Prop) (hmono : ∀ m n x, m ≤ n → Good m x → Good n x) (hlen : ∀ x, (cells x).length = k)
    (hel : ∀ fuel cs y, DataW.trod enc Tryz.prog W base sp hd fuel e cs = some y → ∃ x, cs = cells x ∧ Good (Rows.uptoBulk y.1) x)
    {fuel : Nat} {cs : List Value} {y : DataW H × List MemPlace} (h : DataW.trod enc Tryz.prog W base sp hd fuel t cs = some y) : ∃ (v : Value) (zs : List α), cs = [v] ∧ RowAt W k v (zs.map cells) ∧ (∀ z ∈ zs, Good (Rows.uptoBulk y.1) z) ∧ zs.length ≤ Rows.uptoBulk y.1 := by
  rcases open_slice hsl h with ⟨e1, _⟩ | ⟨a, len, cap, m, n, D, Pl, e1, _, hl, hm, hmm, ey, hall⟩
  · exact ⟨_, [], e1, ⟨none, 0, rfl, Nat.zero_le _, fun h => absurd h (by simp)⟩, fun z hz => (by cases hz), Nat.zero_le _⟩
  · have hbl : Rows.uptoBulkAll ((List.range len).map D) + Rows.uptoBulkAll ((List.range (m - len)).map fun j => D (len + j)) + 1 = Rows.uptoBulk y.1 := by rw [ey]; simp only [Rows.uptoBulk]
    have hx : ∀ i : Fin len, ∃ x, W.cells? base (a.add (i.1 * k)) k = some (cells x) ∧ Good (Rows.uptoBulk y.1) x := fun i => by
      have him : i.1 < m := by rw [hmm]; have := i.2; split <;> omega
      obtain ⟨cs', h1, h2⟩ := hall i.1 him
      obtain ⟨x, rfl, hg⟩ := hel _ _ _ h2
      rw [hk] at h1
      have hp := bulk_part (d := D i.1) (l := (List.range len).map D) (List.mem_map.2 ⟨i.1, List.mem_range.2 i.2, rfl⟩)
      exact ⟨x, h1, hmono _ _ x (by simp only; omega) hg⟩
    obtain ⟨g, hg⟩ := Classical.axiomOfChoice hx
    refine ⟨_, List.ofFn g, e1, ⟨some a, cap, by rw [List.length_map, List.length_ofFn], by rw [List.length_map, List.length_ofFn]; omega, fun h0 => ?_⟩, fun z hz => ?_, ?_⟩
    · rw [List.length_map, List.length_ofFn] at h0
      obtain ⟨b, off, spot⟩ := a
      have c0 := (World.cells?_some (hg ⟨0, h0⟩).1).2.2 0 hk0
      obtain ⟨u, hu⟩ : ∃ u, (cells (g ⟨0, h0⟩))[0]? = some u := ⟨_, List.getElem?_eq_getElem (by rw [hlen]; exact hk0)⟩
      rw [hu] at c0
      have hsp : spot = none := by
        cases spot with
        | none => rfl
        | some s =>
          simp only [Nat.zero_mul, Addr.add, if_true] at c0
          unfold World.cell? at c0
          split at c0 <;> simp at c0
      subst hsp
      refine ⟨b, off, rfl, ?_, fun q cs hq t u hu => ?_⟩
      · simp only [Nat.zero_mul, Addr.add, if_true] at c0
        exact World.block_lt_of_cell? _ _ c0
      · rw [List.getElem?_map, List.getElem?_ofFn] at hq
        split at hq
        · rename_i hql
          simp only [Option.map_some, Option.some.injEq] at hq
          subst hq
          have ht : t < k := by
            obtain ⟨h, _⟩ := List.getElem?_eq_some_iff.1 hu
            rw [hlen] at h
            exact h
          have c1 := (World.cells?_some (hg ⟨q, hql⟩).1).2.2 t ht
          rw [hu] at c1
          have ea : ((⟨b, off, none⟩ : Addr).add (q * k)).add t = ⟨b, off + q * k + t, none⟩ := by
            rw [Addr.add_add, Addr.add_lit, Nat.add_assoc]
          rw [ea] at c1
          exact c1
        · simp at hq
    · obtain ⟨i, rfl⟩ := List.mem_ofFn.1 hz
      exact (hg i).2
    · rw [List.length_ofFn]
      have := bulk_len ((List.range len).map D)
      rw [List.length_map, List.length_range] at this
      omega
theorem open_ent {fuel : Nat} {cs : List Value} {y : DataW H × List MemPlace} (h : DataW.trod enc Tryz.prog W base sp hd fuel 99 cs = some y) : ∃ x : PEnt, cs = x.cells ∧ I64 x.num := by
  obtain ⟨xs, n, _, _, hl, hxs, hf⟩ := DataW.trod_struct Tryz.underlying99 h
  rw [cellsOf_99] at hl
  have h0 : DataW.trod enc Tryz.prog W base sp hd n 9 ((cs.drop 0).take (Tryz.prog.cellsOf 9)) = xs[0]? := hf 0 _ rfl
  have h1 : DataW.trod enc Tryz.prog W base sp hd n 3 ((cs.drop 1).take (Tryz.prog.cellsOf 3)) = xs[1]? := hf 1 _ rfl
  match cs, hl with
  | [c0, c1], _ =>
    match xs, hxs with
    | [y0, y1], _ =>
      simp only [cellsOf_3, cellsOf_9, List.drop, List.take, List.getElem?_cons_zero, List.getElem?_cons_succ] at h0 h1
      obtain ⟨a, e0, _, _⟩ := DataW.trod_string Tryz.underlying9 h0
      obtain ⟨b, e1, _, wf⟩ := DataW.trod_int Tryz.underlying3 h1
      simp only [List.cons.injEq, and_true] at e0 e1
      exact ⟨⟨a, b⟩, by rw [e0, e1]; rfl, i64_wf wf⟩
theorem open_desc {fuel : Nat} {cs : List Value} {y : DataW H × List MemPlace} (h : DataW.trod enc Tryz.prog W base sp hd fuel 88 cs = some y) : ∃ x : PDesc, cs = x.cells ∧ I64 x.core ∧ I64 x.fd ∧ I64 x.num := by
  obtain ⟨xs, n, _, _, hl, hxs, hf⟩ := DataW.trod_struct Tryz.underlying88 h
  rw [cellsOf_88] at hl
  have h0 : DataW.trod enc Tryz.prog W base sp hd n 3 ((cs.drop 0).take (Tryz.prog.cellsOf 3)) = xs[0]? := hf 0 _ rfl
  have h1 : DataW.trod enc Tryz.prog W base sp hd n 3 ((cs.drop 1).take (Tryz.prog.cellsOf 3)) = xs[1]? := hf 1 _ rfl
  have h2 : DataW.trod enc Tryz.prog W base sp hd n 3 ((cs.drop 2).take (Tryz.prog.cellsOf 3)) = xs[2]? := hf 2 _ rfl
  match cs, hl with
  | [c0, c1, c2], _ =>
    match xs, hxs with
    | [y0, y1, y2], _ =>
      simp only [cellsOf_3, List.drop, List.take, List.getElem?_cons_zero, List.getElem?_cons_succ] at h0 h1 h2
      obtain ⟨a, e0, _, w0⟩ := DataW.trod_int Tryz.underlying3 h0
      obtain ⟨b, e1, _, w1⟩ := DataW.trod_int Tryz.underlying3 h1
      obtain ⟨c, e2, _, w2⟩ := DataW.trod_int Tryz.underlying3 h2
      simp only [List.cons.injEq, and_true] at e0 e1 e2
      exact ⟨⟨a, b, c⟩, by rw [e0, e1, e2]; rfl, i64_wf w0, i64_wf w1, i64_wf w2⟩
/-- An inode as it lies, and as data. -/
structure RIn (W : World) where
  r : IRec
  x : PIn
  is : r.is W x
theorem open_in {fuel : Nat} {cs : List Value} {y : DataW H × List MemPlace} (h : DataW.trod enc Tryz.prog W base sp hd fuel 65 cs = some y) : ∃ z : RIn W, cs = z.r.cells ∧ I64 z.x.num ∧ (∀ e ∈ z.x.ents, I64 e.num) ∧ z.x.ents.length ≤ Rows.uptoBulk y.1 := by
  obtain ⟨xs, n, _, ey, hl, hxs, hf⟩ := DataW.trod_struct Tryz.underlying65 h
  rw [cellsOf_65] at hl
  have h0 : DataW.trod enc Tryz.prog W base sp hd n 3 ((cs.drop 0).take (Tryz.prog.cellsOf 3)) = xs[0]? := hf 0 _ rfl
  have h1 : DataW.trod enc Tryz.prog W base sp hd n 4 ((cs.drop 1).take (Tryz.prog.cellsOf 4)) = xs[1]? := hf 1 _ rfl
  have h2 : DataW.trod enc Tryz.prog W base sp hd n 63 ((cs.drop 2).take (Tryz.prog.cellsOf 63)) = xs[2]? := hf 2 _ rfl
  have h3 : DataW.trod enc Tryz.prog W base sp hd n 9 ((cs.drop 3).take (Tryz.prog.cellsOf 9)) = xs[3]? := hf 3 _ rfl
  match cs, hl with
  | [c0, c1, c2, c3], _ =>
    match xs, hxs with
    | [y0, y1, y2, y3], _ =>
      simp only [cellsOf_3, cellsOf_4, cellsOf_9, cellsOf_63, List.drop, List.take, List.getElem?_cons_zero, List.getElem?_cons_succ] at h0 h1 h2 h3
      obtain ⟨a, e0, _, w0⟩ := DataW.trod_int Tryz.underlying3 h0
      obtain ⟨b, e1, _⟩ := DataW.trod_bool Tryz.underlying4 h1
      obtain ⟨v, es, e2, hrow, hes, hel⟩ := open_row Tryz.underlying63 cellsOf_99 (by decide) PEnt.cells (fun _ x => I64 x.num) (fun _ _ _ _ h => h) (fun _ => rfl) (fun _ _ _ h => open_ent h) h2
      obtain ⟨s, e3, _, w3⟩ := DataW.trod_string Tryz.underlying9 h3
      simp only [List.cons.injEq, and_true] at e0 e1 e2 e3
      have hp : Rows.uptoBulk y2.1 ≤ Rows.uptoBulk y.1 := by
        rw [ey]
        exact bulk_agg (by simp)
      exact ⟨⟨⟨a, b, v, s, hrow.one⟩, ⟨a, b, es, s⟩, ⟨rfl, rfl, rfl, hrow⟩⟩, by rw [e0, e1, e2, e3]; rfl, i64_wf w0, hes, Nat.le_trans hel hp⟩
/-- A state's numbers, whatever its sizes. -/
def PSt.nums64 (S : PSt) : Prop := (∀ x ∈ S.ins, I64 x.num ∧ ∀ e ∈ x.ents, I64 e.num) ∧ (∀ d ∈ S.op, I64 d.core ∧ I64 d.fd ∧ I64 d.num) ∧ ∀ m ∈ S.made, I64 m
def PSt.lens (S : PSt) (n : Nat) : Prop := S.ins.length ≤ n ∧ S.op.length ≤ n ∧ S.made.length ≤ n ∧ ∀ x ∈ S.ins, x.ents.length ≤ n
theorem open_state {fuel : Nat} {cs : List Value} {y : DataW H × List MemPlace} (h : DataW.trod enc Tryz.prog W base sp hd fuel 27 cs = some y) : ∃ (iv ov mv : Value) (S : PSt), cs = [iv, ov, mv] ∧ StRead W iv ov mv S ∧ S.nums64 ∧ S.lens (Rows.uptoBulk y.1) := by
  obtain ⟨xs, n, _, ey, hl, hxs, hf⟩ := DataW.trod_struct Tryz.underlying27 h
  rw [cellsOf_27] at hl
  have h0 : DataW.trod enc Tryz.prog W base sp hd n 23 ((cs.drop 0).take (Tryz.prog.cellsOf 23)) = xs[0]? := hf 0 _ rfl
  have h1 : DataW.trod enc Tryz.prog W base sp hd n 24 ((cs.drop 1).take (Tryz.prog.cellsOf 24)) = xs[1]? := hf 1 _ rfl
  have h2 : DataW.trod enc Tryz.prog W base sp hd n 25 ((cs.drop 2).take (Tryz.prog.cellsOf 25)) = xs[2]? := hf 2 _ rfl
  match cs, hl with
  | [c0, c1, c2], _ =>
    match xs, hxs with
    | [y0, y1, y2], _ =>
      simp only [cellsOf_23, cellsOf_24, cellsOf_25, List.drop, List.take, List.getElem?_cons_zero, List.getElem?_cons_succ] at h0 h1 h2
      obtain ⟨iv, zs, e0, hr0, hg0, hl0⟩ := open_row (α := RIn W) Tryz.underlying23 cellsOf_65 (by decide) (fun z => z.r.cells) (fun n z => I64 z.x.num ∧ (∀ e ∈ z.x.ents, I64 e.num) ∧ z.x.ents.length ≤ n) (fun _ _ _ h g => ⟨g.1, g.2.1, Nat.le_trans g.2.2 h⟩) (fun _ => rfl) (fun _ _ _ h => open_in h) h0
      obtain ⟨ov, ds, e1, hr1, hg1, hl1⟩ := open_row Tryz.underlying24 cellsOf_88 (by decide) PDesc.cells (fun _ x => I64 x.core ∧ I64 x.fd ∧ I64 x.num) (fun _ _ _ _ h => h) (fun _ => rfl) (fun _ _ _ h => open_desc h) h1
      obtain ⟨mv, ms, e2, hr2, hg2, hl2⟩ := open_row Tryz.underlying25 cellsOf_3 (by decide) intCells (fun _ => I64) (fun _ _ _ _ h => h) (fun _ => rfl) (fun _ _ _ h => by
        obtain ⟨a, e0, _, w0⟩ := DataW.trod_int Tryz.underlying3 h
        exact ⟨a, e0, i64_wf w0⟩) h2
      simp only [List.cons.injEq, and_true] at e0 e1 e2
      have p0 : Rows.uptoBulk y0.1 ≤ Rows.uptoBulk y.1 := by rw [ey]; exact bulk_agg (by simp)
      have p1 : Rows.uptoBulk y1.1 ≤ Rows.uptoBulk y.1 := by rw [ey]; exact bulk_agg (by simp)
      have p2 : Rows.uptoBulk y2.1 ≤ Rows.uptoBulk y.1 := by rw [ey]; exact bulk_agg (by simp)
      refine ⟨iv, ov, mv, ⟨zs.map RIn.x, ds, ms⟩, by rw [e0, e1, e2], ⟨hr1, hr2, zs.map RIn.r, by rw [List.map_map]; exact hr0, by simp, fun q r x hq hx => ?_⟩, ⟨fun x hx => ?_, hg1, hg2⟩, ⟨by rw [List.length_map]; exact Nat.le_trans hl0 p0, Nat.le_trans hl1 p1, Nat.le_trans hl2 p2, fun x hx => ?_⟩⟩
      · simp only [List.getElem?_map] at hq hx
        rcases e : zs[q]? with _ | z
        · rw [e] at hq; cases hq
        · rw [e] at hq hx
          cases hq
          cases hx
          exact z.is
      · obtain ⟨z, hz, rfl⟩ := List.mem_map.1 hx
        exact ⟨(hg0 z hz).1, (hg0 z hz).2.1⟩
      · obtain ⟨z, hz, rfl⟩ := List.mem_map.1 hx
        exact Nat.le_trans (hg0 z hz).2.2 p0
theorem open_call {fuel : Nat} {cs : List Value} {y : DataW H × List MemPlace} (h : DataW.trod enc Tryz.prog W base sp hd fuel 29 cs = some y) :
    ∃ (k c f o n : Int) (p q d : ByteArray), cs = [.int .i64 k, .int .i64 c, .int .i64 f, .int .i64 o, .int .i64 n, .string p, .string q, .string d] ∧ (I64 k ∧ I64 c ∧ I64 f ∧ I64 o ∧ I64 n) ∧ p.size ≤ maxLen ∧ q.size ≤ maxLen ∧ d.size ≤ maxLen := by
  obtain ⟨xs, n, _, _, hl, hxs, hf⟩ := DataW.trod_struct Tryz.underlying29 h
  rw [cellsOf_29] at hl
  have h0 : DataW.trod enc Tryz.prog W base sp hd n 3 ((cs.drop 0).take (Tryz.prog.cellsOf 3)) = xs[0]? := hf 0 _ rfl
  have h1 : DataW.trod enc Tryz.prog W base sp hd n 3 ((cs.drop 1).take (Tryz.prog.cellsOf 3)) = xs[1]? := hf 1 _ rfl
  have h2 : DataW.trod enc Tryz.prog W base sp hd n 3 ((cs.drop 2).take (Tryz.prog.cellsOf 3)) = xs[2]? := hf 2 _ rfl
  have h3 : DataW.trod enc Tryz.prog W base sp hd n 3 ((cs.drop 3).take (Tryz.prog.cellsOf 3)) = xs[3]? := hf 3 _ rfl
  have h4 : DataW.trod enc Tryz.prog W base sp hd n 3 ((cs.drop 4).take (Tryz.prog.cellsOf 3)) = xs[4]? := hf 4 _ rfl
  have h5 : DataW.trod enc Tryz.prog W base sp hd n 9 ((cs.drop 5).take (Tryz.prog.cellsOf 9)) = xs[5]? := hf 5 _ rfl
  have h6 : DataW.trod enc Tryz.prog W base sp hd n 9 ((cs.drop 6).take (Tryz.prog.cellsOf 9)) = xs[6]? := hf 6 _ rfl
  have h7 : DataW.trod enc Tryz.prog W base sp hd n 9 ((cs.drop 7).take (Tryz.prog.cellsOf 9)) = xs[7]? := hf 7 _ rfl
  match cs, hl with
  | [c0, c1, c2, c3, c4, c5, c6, c7], _ =>
    match xs, hxs with
    | [y0, y1, y2, y3, y4, y5, y6, y7], _ =>
      simp only [cellsOf_3, cellsOf_9, List.drop, List.take, List.getElem?_cons_zero, List.getElem?_cons_succ] at h0 h1 h2 h3 h4 h5 h6 h7
      obtain ⟨a0, e0, _, w0⟩ := DataW.trod_int Tryz.underlying3 h0
      obtain ⟨a1, e1, _, w1⟩ := DataW.trod_int Tryz.underlying3 h1
      obtain ⟨a2, e2, _, w2⟩ := DataW.trod_int Tryz.underlying3 h2
      obtain ⟨a3, e3, _, w3⟩ := DataW.trod_int Tryz.underlying3 h3
      obtain ⟨a4, e4, _, w4⟩ := DataW.trod_int Tryz.underlying3 h4
      obtain ⟨a5, e5, _, w5⟩ := DataW.trod_string Tryz.underlying9 h5
      obtain ⟨a6, e6, _, w6⟩ := DataW.trod_string Tryz.underlying9 h6
      obtain ⟨a7, e7, _, w7⟩ := DataW.trod_string Tryz.underlying9 h7
      simp only [List.cons.injEq, and_true] at e0 e1 e2 e3 e4 e5 e6 e7
      exact ⟨a0, a1, a2, a3, a4, a5, a6, a7, by rw [e0, e1, e2, e3, e4, e5, e6, e7], ⟨i64_wf w0, i64_wf w1, i64_wf w2, i64_wf w3, i64_wf w4⟩, w5, w6, w7⟩
end
end Go.Proofs.YtjkenolgkkknaaaGreatDoor
