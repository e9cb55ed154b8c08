/- The reference's search from the root: Reached. Conditions: none. One more in a sorted list, as the reference lays it: one pass with a mark. Conditions: none. append of rows onto a slice of the call's own. Conditions: none. The reference's put: an entry more in a directory of a state of the call's own. Conditions: none. The reference's Parse at a path of one name of one byte. Conditions: none. The reference's Find, Parent and full at one name below the root. Conditions: none. The reference's full: has a directory MaxSlots names of a name's bucket, but for one? Conditions: none. The reference's fail and grab. Conditions: none. The reference's Copy. Conditions: none. The reference's make1, where it makes a name below the root. Conditions: none. The reference's opened, where it opens a file below the root. Conditions: none. -/
import Derived.Test.YtmkapobnfigedaaGreatDoorEd16
import Derived.Test.YtmkapobnfigedaaGreatDoorEd13
import Derived.Test.YtmkapobnfigedaaGreatDoorEd11
set_option linter.unusedVariables false
set_option linter.unusedSimpArgs false
namespace Go.Proofs.YtmkapobnfigedaaGreatDoor
open Go.RowKit
end Go.Proofs.YtmkapobnfigedaaGreatDoor
namespace Go.Proofs.YtmkapobnfigedaaGreatDoor
open Go.RowKit
end Go.Proofs.YtmkapobnfigedaaGreatDoor
namespace Go.Proofs.YtmkapobnfigedaaGreatDoor
open Go.RowKit
theorem run_append_none {P : Program} (w : World) (t ty e : TypeId) (i : TypeInfo) (ht : P.underlying t = some (.slice e)) (hi : P.info? e = some i) (n cap c : Nat) (a : Option Addr) (hn : n ≤ cap) :
    (Builtin.append_ #[t, t] ty #[.slice a n cap, .slice none 0 c]).run P w = .ok (.slice a n cap) w := by
  rcases a with _ | a
  · simp [Builtin.append_, run_underlying ht, sizeOf, typeInfo, hi, Builtin.lenOf, hn, run_firstCells_none, Builtin.firstCells, loadCells, loadCellsFrom]
  · simp [Builtin.append_, run_underlying ht, sizeOf, typeInfo, hi, Builtin.lenOf, hn, run_firstCells_none, Builtin.firstCells, loadCells, loadCellsFrom, storeCells]
theorem rows_cells {w : World} {k n cap : Nat} {a : Option Addr} {rows : List (List Value)} (h : RowAt w k (.slice a n cap) rows) (hk : 0 < k) (hu : ∀ cs ∈ rows, cs.length = k) (ad : Addr) (had : a = some ad) : ∀ j u, rows.flatten[j]? = some u → w.cell? (ad.add j) = some u := by
  intro j u hj
  obtain ⟨a', cap', he, hm, hr⟩ := h
  simp only [Value.slice.injEq] at he
  obtain ⟨rfl, rfl, rfl⟩ := he
  subst had
  have hl := flat_len k rows hu
  obtain ⟨hjl, _⟩ := List.getElem?_eq_some_iff.1 hj
  rw [hl] at hjl
  have h0 : 0 < rows.length := by
    rcases hz : rows.length with _ | m
    · rw [hz] at hjl; omega
    · omega
  obtain ⟨b, off, he, hb, hc⟩ := hr h0
  simp only [Option.some.injEq] at he
  subst he
  have hj2 : j = j / k * k + j % k := by rw [Nat.mul_comm]; exact (Nat.div_add_mod j k).symm
  have htk : j % k < k := Nat.mod_lt _ hk
  have hq : j / k < rows.length := Nat.div_lt_of_lt_mul (by rwa [Nat.mul_comm])
  have hlen := hu rows[j / k] (List.getElem_mem hq)
  have h1 := flat_at k rows hu (j / k) (j % k) htk
  rw [← hj2, hj, List.getElem?_eq_getElem hq] at h1
  have h2 := hc (j / k) rows[j / k] (List.getElem?_eq_getElem hq) (j % k) u h1.symm
  rw [Addr.add_lit]
  rw [show off + j = off + j / k * k + j % k by omega]
  exact h2
/-- What an append of rows leaves. -/
def Grew (B : Nat) (e : TypeId) (k : Nat) (w : World) (v : Value) (rows : List (List Value)) (v' : Value) (w' : World) : Prop :=
  OwnP B w' e k v' rows ∧ Keep (fun g => v.ownBlock = some g) w w' ∧ (v'.ownBlock = v.ownBlock ∨ v'.ownBlock = some w.heap.size)
theorem run_append_P {P : Program} (w : World) (B : Nat) (t ty e : TypeId) (k bytes : Nat) (i : TypeInfo) (z : Value) (ht : P.underlying t = some (.slice e)) (hi : P.info? e = some i) (hz : i.zero = some z) (hsize : i.size = k) (hby : i.bytes = bytes) (hzs : z.cells.size = k) (hk : 0 < k)
    (v x : Value) (rows more : List (List Value)) (hu : ∀ cs ∈ rows, cs.length = k) (hum : ∀ cs ∈ more, cs.length = k) (h1 : ∀ cs ∈ more, ∀ u ∈ cs, u.oneCell' = true) (ho : OwnP B w e k v rows) (hx : RowAt w k x more) (h63 : rows.length + more.length ≤ maxLen) (hb : (rows.length + more.length) * bytes ≤ 140737488355328) (hB : B ≤ w.heap.size) :
    ∃ v' w', (Builtin.append_ #[t, t] ty #[v, x]).run P w = .ok v' w' ∧ Grew B e k w v (rows ++ more) v' w' := by
  have hx' := hx
  obtain ⟨a, cap, rfl, hm, hr⟩ := hx'
  rcases a with _ | ad
  · have h0 : more = [] := by
      rcases hz2 : more.length with _ | m
      · exact List.eq_nil_of_length_eq_zero hz2
      · obtain ⟨b, off, he, _⟩ := hr (by omega)
        cases he
    subst h0
    have hr2 : (Builtin.append_ #[t, t] ty #[v, .slice none ([] : List (List Value)).length cap]).run P w = .ok v w := by
      rcases ho with ⟨rfl, rfl⟩ | ⟨g, cap', arr, rfl, hg, hbk, hn, _⟩
      · exact run_append_none w t ty e i ht hi 0 0 cap none (Nat.le_refl _)
      · exact run_append_none w t ty e i ht hi _ cap' cap _ hn
    refine ⟨v, w, hr2, by rw [List.append_nil]; exact ho, Keep.refl _ _, .inl rfl⟩
  · obtain ⟨v', w', hr2, hown, hgr, _, hat⟩ := run_append_own_at (P := P) w B t ty e i z k bytes ht hi hz hsize hby hzs hk v rows.length rows.flatten (ho.own hk hu) ad more.length cap more.flatten (flat_len k more hum) (rows_cells hx hk hum ad rfl) (fun u hu2 => by
      obtain ⟨cs, hcs, hu3⟩ := List.mem_flatten.1 hu2
      exact h1 cs hcs u hu3) h63 hb hB
    refine ⟨v', w', hr2, ?_, (Keep.refl _ w).grown hgr (fun g hg => .inl hg), hat⟩
    refine OwnP.of_own ?_ hk (fun cs hcs => (List.mem_append.1 hcs).elim (hu cs) (hum cs))
    rw [List.length_append, List.flatten_append]
    exact hown
theorem wpList_append_P {P : Program} (w : World) {ops : Array Oper} {rest : List Oper} {o : Oper} {a : Act} {Q : Exit → Act → World → Prop} (hgd : o.guard = none) (s y : Operand) (t : TypeId)
    (hop : o.op = .call { callee := .builtin .append, args := #[s, y], argTypes := #[t, t] })
    (B : Nat) (e : TypeId) (k bytes : Nat) (i : TypeInfo) (z : Value) (ht : P.underlying t = some (.slice e)) (hi : P.info? e = some i) (hz : i.zero = some z) (hsize : i.size = k) (hby : i.bytes = bytes) (hzs : z.cells.size = k) (hk : 0 < k)
    (v x : Value) (rows more : List (List Value)) (hs : a.eval s = v) (hy : a.eval y = x) (hu : ∀ cs ∈ rows, cs.length = k) (hum : ∀ cs ∈ more, cs.length = k) (h1 : ∀ cs ∈ more, ∀ u ∈ cs, u.oneCell' = true) (ho : OwnP B w e k v rows) (hx : RowAt w k x more) (h63 : rows.length + more.length ≤ maxLen) (hb : (rows.length + more.length) * bytes ≤ 140737488355328) (hB : B ≤ w.heap.size)
    (h : ∀ v' w', Grew B e k w v (rows ++ more) v' w' → wpList P ops Q rest (a.put o.dst v') w') :
    wpList P ops Q (o :: rest) a w := by
  refine wpList_plain hgd fun K hK => ?_
  obtain ⟨v', w', hr, hg⟩ := run_append_P (P := P) w B t o.type e k bytes i z ht hi hz hsize hby hzs hk v x rows more hu hum h1 ho hx h63 hb hB
  unfold Oper.wp execOp
  simp only [hop, resolve, invoke, builtin, Sem.run_bind, Sem.run_pure, Result.andThen_ok, List.map_toArray, List.map_cons, List.map_nil, hs, hy, hr]
  exact hK _ _ (h v' w' hg)
theorem eff_append_P {P : Program} {o : Oper} {a : Act} {w : World} {K : Value → World → Prop} (s y : Operand) (t : TypeId)
    (hop : o.op = .call { callee := .builtin .append, args := #[s, y], argTypes := #[t, t] })
    (B : Nat) (e : TypeId) (k bytes : Nat) (i : TypeInfo) (z : Value) (ht : P.underlying t = some (.slice e)) (hi : P.info? e = some i) (hz : i.zero = some z) (hsize : i.size = k) (hby : i.bytes = bytes) (hzs : z.cells.size = k) (hk : 0 < k)
    (v x : Value) (rows more : List (List Value)) (hs : a.eval s = v) (hy : a.eval y = x) (hu : ∀ cs ∈ rows, cs.length = k) (hum : ∀ cs ∈ more, cs.length = k) (h1 : ∀ cs ∈ more, ∀ u ∈ cs, u.oneCell' = true) (ho : OwnP B w e k v rows) (hx : RowAt w k x more) (h63 : rows.length + more.length ≤ maxLen) (hb : (rows.length + more.length) * bytes ≤ 140737488355328) (hB : B ≤ w.heap.size)
    (h : ∀ v' w', Grew B e k w v (rows ++ more) v' w' → K v' w') : o.eff P a w K := by
  obtain ⟨v', w', hr, hg⟩ := run_append_P (P := P) w B t o.type e k bytes i z ht hi hz hsize hby hzs hk v x rows more hu hum h1 ho hx h63 hb hB
  unfold Oper.eff execOp
  simp only [hop, resolve, invoke, builtin, Sem.run_bind, Sem.run_pure, Result.andThen_ok, List.map_toArray, List.map_cons, List.map_nil, hs, hy, hr]
  exact h v' w' hg
/-- One row in a block of its own. -/
theorem RowAt.single {w : World} {b : Nat} {t : TypeId} {cs : List Value} (h : Blk w b cs.toArray t) (k cap : Nat) : RowAt w k (.slice (some ⟨b, 0, none⟩) 1 cap) [cs] := by
  refine ⟨_, _, rfl, by unfold maxLen; simp, fun _ => ⟨b, 0, rfl, h.lt.lt, fun q c hq u x hu => ?_⟩⟩
  rcases q with _ | q
  · simp only [List.getElem?_cons_zero, Option.some.injEq] at hq
    subst hq
    rw [h.cell]
    simpa using hu
  · simp at hq
theorem str_len : ∀ (zs : List ByteArray), ∀ cs ∈ zs.map (fun n => [Value.string n]), cs.length = 1 := by
  intro zs cs h
  obtain ⟨r, _, rfl⟩ := List.mem_map.1 h
  rfl
end Go.Proofs.YtmkapobnfigedaaGreatDoor
namespace Go.Proofs.YtmkapobnfigedaaGreatDoor
open Go.RowKit
theorem OwnP.below {B : Nat} {w w' : World} {e : TypeId} {k : Nat} {v : Value} {rows : List (List Value)} (h : OwnP B w e k v rows) (hb : Below w.heap.size w w') : OwnP B w' e k v rows := h.keep (Keep.of_below hb (fun _ => False)) (fun _ _ h => h)
theorem Grew.on {B : Nat} {e : TypeId} {k : Nat} {w w' : World} {v v' : Value} {rows rows' : List (List Value)} (h : Grew B e k w v rows v' w') (ho : OwnP B w e k v rows') (hB : B ≤ w.heap.size) : Below B w w' := h.2.1.below hB (fun i hi hg => by have := ho.ge hg; omega)
/-- The first cell of an owned slice's block. -/
theorem StOwn.ins_form {B : Nat} {w : World} {iv ov mv : Value} {S : PSt} (h : StOwn B w iv ov mv S) (h0 : 0 < S.ins.length) : ∃ bi cap, iv = .slice (some ⟨bi, 0, none⟩) S.ins.length cap := by
  obtain ⟨_, _, is, h3, h4, _⟩ := h
  rcases h3 with ⟨_, h1⟩ | ⟨g, cap, arr, rfl, _⟩
  · rw [List.map_eq_nil_iff] at h1
    rw [h1] at h4
    simp at h4
    omega
  · exact ⟨g, cap, by rw [List.length_map, h4]⟩
end Go.Proofs.YtmkapobnfigedaaGreatDoor
namespace Go.Proofs.YtmkapobnfigedaaGreatDoor
open Go.RowKit
/-- A path of one byte below the root, and its name. -/
def p1 (c : UInt8) : ByteArray := ⟨#[47, c]⟩
def n1 (c : UInt8) : ByteArray := ⟨#[c]⟩
end Go.Proofs.YtmkapobnfigedaaGreatDoor
namespace Go.Proofs.YtmkapobnfigedaaGreatDoor
open Go.RowKit
end Go.Proofs.YtmkapobnfigedaaGreatDoor
namespace Go.Proofs.YtmkapobnfigedaaGreatDoor
open Go.RowKit
end Go.Proofs.YtmkapobnfigedaaGreatDoor
namespace Go.Proofs.YtmkapobnfigedaaGreatDoor
open Go.RowKit
theorem StOwn.on {B : Nat} {w w1 : World} {iv ov mv : Value} {S : PSt} (h : StOwn B w iv ov mv S) (hb : Below w.heap.size w w1) : StOwn B w1 iv ov mv S := h.keep (Keep.of_below hb (fun _ => False)) (fun _ h => h.elim)
end Go.Proofs.YtmkapobnfigedaaGreatDoor
namespace Go.Proofs.YtmkapobnfigedaaGreatDoor
open Go.RowKit
theorem blk_on {w w' : World} {b : Nat} {c : Array Value} {t : TypeId} (h : Blk w b c t) (hb : Below w.heap.size w w') : Blk w' b c t := (Keep.of_below hb (fun _ => False)).blk h (fun h => h)
end Go.Proofs.YtmkapobnfigedaaGreatDoor
namespace Go.Proofs.YtmkapobnfigedaaGreatDoor
open Go.RowKit
theorem StOwn.made_at {B : Nat} {w : World} {iv ov : Value} {S : PSt} {gm cap : Nat} (h : StOwn B w iv ov (.slice (some ⟨gm, 0, none⟩) S.made.length cap) S) {k : Nat} {m : Int} (hm : S.made[k]? = some m) : w.cell? ⟨gm, k, none⟩ = some (.int .i64 m) ∧ w.frozen? ⟨gm, k, none⟩ = false ∧ BlockLt gm w := by
  rcases h.2.1 with ⟨h1, _⟩ | ⟨g, cap', arr, he, _, hb, _, _, _, hr⟩
  · cases h1
  · simp only [Value.slice.injEq, Option.some.injEq, Addr.mk.injEq] at he
    obtain ⟨⟨rfl, -, -⟩, -, -⟩ := he
    refine ⟨?_, hb.frozen k, hb.lt⟩
    rw [hb.cell]
    have := hr k (intCells m) (by rw [List.getElem?_map, hm]; rfl) 0 _ rfl
    rw [Nat.mul_one, Nat.add_zero] at this
    exact this
end Go.Proofs.YtmkapobnfigedaaGreatDoor
namespace Go.Proofs.YtmkapobnfigedaaGreatDoor
open Go.RowKit
end Go.Proofs.YtmkapobnfigedaaGreatDoor
