/- One more in a sorted list, as the reference lays it: one pass with a mark. Conditions: none. append of rows onto a slice of the call's own. Conditions: none. The reference's put: an entry more in a directory of a state of the call's own. Conditions: none. The reference's Parse at a path of one name of one byte. Conditions: none. The reference's Find, Parent and full at one name below the root. Conditions: none. The reference's full: has a directory MaxSlots names of a name's bucket, but for one? Conditions: none. The reference's fail and grab. Conditions: none. The reference's Copy. Conditions: none. The reference's make1, where it makes a name below the root. Conditions: none. The reference's opened, where it opens a file below the root. Conditions: none. The reference's byFd at a Write of 200 zeros into a file without bytes. Conditions: none. Bytes of the model: in, Piece, Lay. Conditions: none. doer.bytes at Read and Size. Conditions: none. doer.open. Conditions: none. doer.bytes at Write, where the file does not outgrow its bound. Conditions: none. doer.tell at List. Conditions: none. Stat, List and Links where the path is refused; Links. Conditions: none. -/
import Derived.Test.YtmkapobnfigedaaGreatDoorEl38
import Derived.Test.YtmkapobnfigedaaGreatDoorEl28
import Derived.Test.YtmkapobnfigedaaGreatDoorEl24
import Derived.Lib.BufferWrite
import Derived.Lib.SlBytesRow
import Derived.Test.YtmkapobnfigedaaGreatDoorEl32
import Derived.Test.YtmkapobnfigedaaGreatDoorEl23
import Derived.Test.YtmkapobnfigedaaGreatDoorEl31
set_option linter.unusedVariables false
set_option linter.unusedSimpArgs false
namespace Go.Proofs.YtmkapobnfigedaaGreatDoor
open Go.RowKit
end Go.Proofs.YtmkapobnfigedaaGreatDoor
namespace Go.Proofs.YtmkapobnfigedaaGreatDoor
open Go.RowKit
theorem run_append_none {P : Program} (w : World) (t ty e : TypeId) (i : TypeInfo) (ht : P.underlying t = some (.slice e)) (hi : P.info? e = some i) (n cap c : Nat) (a : Option Addr) (hn : n ≤ cap) :
 (Builtin.append_ #[t, t] ty #[.slice a n cap, .slice none 0 c]).run P w = .ok (.slice a n cap) w := by
 rcases a with _ | a
 · simp [Builtin.append_, run_underlying ht, sizeOf, typeInfo, hi, Builtin.lenOf, hn, run_firstCells_none, Builtin.firstCells, loadCells, loadCellsFrom]
 · simp [Builtin.append_, run_underlying ht, sizeOf, typeInfo, hi, Builtin.lenOf, hn, run_firstCells_none, Builtin.firstCells, loadCells, loadCellsFrom, storeCells]
theorem rows_cells {w : World} {k n cap : Nat} {a : Option Addr} {rows : List (List Value)} (h : RowAt w k (.slice a n cap) rows) (hk : 0 < k) (hu : ∀ cs ∈ rows, cs.length = k) (ad : Addr) (had : a = some ad) : ∀ j u, rows.flatten[j]? = some u → w.cell? (ad.add j) = some u := by
 intro j u hj
 obtain ⟨a', cap', he, hm, hr⟩ := h
 simp only [Value.slice.injEq] at he
 obtain ⟨rfl, rfl, rfl⟩ := he
 subst had
 have hl := flat_len k rows hu
 obtain ⟨hjl, _⟩ := List.getElem?_eq_some_iff.1 hj
 rw [hl] at hjl
 have h0 : 0 < rows.length := by
  rcases hz : rows.length with _ | m
  · rw [hz] at hjl; omega
  · omega
 obtain ⟨b, off, he, hb, hc⟩ := hr h0
 simp only [Option.some.injEq] at he
 subst he
 have hj2 : j = j / k * k + j % k := by rw [Nat.mul_comm]; exact (Nat.div_add_mod j k).symm
 have htk : j % k < k := Nat.mod_lt _ hk
 have hq : j / k < rows.length := Nat.div_lt_of_lt_mul (by rwa [Nat.mul_comm])
 have hlen := hu rows[j / k] (List.getElem_mem hq)
 have h1 := flat_at k rows hu (j / k) (j % k) htk
 rw [← hj2, hj, List.getElem?_eq_getElem hq] at h1
 have h2 := hc (j / k) rows[j / k] (List.getElem?_eq_getElem hq) (j % k) u h1.symm
 rw [Addr.add_lit]
 rw [show off + j = off + j / k * k + j % k by omega]
 exact h2
def Grew (B : Nat) (e : TypeId) (k : Nat) (w : World) (v : Value) (rows : List (List Value)) (v' : Value) (w' : World) : Prop :=
 OwnP B w' e k v' rows ∧ Keep (fun g => v.ownBlock = some g) w w' ∧ (v'.ownBlock = v.ownBlock ∨ v'.ownBlock = some w.heap.size)
theorem run_append_P {P : Program} (w : World) (B : Nat) (t ty e : TypeId) (k bytes : Nat) (i : TypeInfo) (z : Value) (ht : P.underlying t = some (.slice e)) (hi : P.info? e = some i) (hz : i.zero = some z) (hsize : i.size = k) (hby : i.bytes = bytes) (hzs : z.cells.size = k) (hk : 0 < k)
 (v x : Value) (rows more : List (List Value)) (hu : ∀ cs ∈ rows, cs.length = k) (hum : ∀ cs ∈ more, cs.length = k) (h1 : ∀ cs ∈ more, ∀ u ∈ cs, u.oneCell' = true) (ho : OwnP B w e k v rows) (hx : RowAt w k x more) (h63 : rows.length + more.length ≤ maxLen) (hb : (rows.length + more.length) * bytes ≤ 140737488355328) (hB : B ≤ w.heap.size) :
 ∃ v' w', (Builtin.append_ #[t, t] ty #[v, x]).run P w = .ok v' w' ∧ Grew B e k w v (rows ++ more) v' w' := by
 have hx' := hx
 obtain ⟨a, cap, rfl, hm, hr⟩ := hx'
 rcases a with _ | ad
 · have h0 : more = [] := by
    rcases hz2 : more.length with _ | m
    · exact List.eq_nil_of_length_eq_zero hz2
    · obtain ⟨b, off, he, _⟩ := hr (by omega); cases he
   subst h0; have hr2 : (Builtin.append_ #[t, t] ty #[v, .slice none ([] : List (List Value)).length cap]).run P w = .ok v w := by
    rcases ho with ⟨rfl, rfl⟩ | ⟨g, cap', arr, rfl, hg, hbk, hn, _⟩
    · exact run_append_none w t ty e i ht hi 0 0 cap none (Nat.le_refl _)
    · exact run_append_none w t ty e i ht hi _ cap' cap _ hn
   refine ⟨v, w, hr2, by rw [List.append_nil]; exact ho, Keep.refl _ _, .inl rfl⟩
 · obtain ⟨v', w', hr2, hown, hgr, _, hat⟩ := run_append_own_at (P := P) w B t ty e i z k bytes ht hi hz hsize hby hzs hk v rows.length rows.flatten (ho.own hk hu) ad more.length cap more.flatten (flat_len k more hum) (rows_cells hx hk hum ad rfl) (fun u hu2 => by
    obtain ⟨cs, hcs, hu3⟩ := List.mem_flatten.1 hu2; exact h1 cs hcs u hu3) h63 hb hB
   refine ⟨v', w', hr2, ?_, (Keep.refl _ w).grown hgr (fun g hg => .inl hg), hat⟩; refine OwnP.of_own ?_ hk (fun cs hcs => (List.mem_append.1 hcs).elim (hu cs) (hum cs)); rw [List.length_append, List.flatten_append]; exact hown
theorem wpList_append_P {P : Program} (w : World) {ops : Array Oper} {rest : List Oper} {o : Oper} {a : Act} {Q : Exit → Act → World → Prop} (hgd : o.guard = none) (s y : Operand) (t : TypeId)
 (hop : o.op = .call { callee := .builtin .append, args := #[s, y], argTypes := #[t, t] })
 (B : Nat) (e : TypeId) (k bytes : Nat) (i : TypeInfo) (z : Value) (ht : P.underlying t = some (.slice e)) (hi : P.info? e = some i) (hz : i.zero = some z) (hsize : i.size = k) (hby : i.bytes = bytes) (hzs : z.cells.size = k) (hk : 0 < k)
 (v x : Value) (rows more : List (List Value)) (hs : a.eval s = v) (hy : a.eval y = x) (hu : ∀ cs ∈ rows, cs.length = k) (hum : ∀ cs ∈ more, cs.length = k) (h1 : ∀ cs ∈ more, ∀ u ∈ cs, u.oneCell' = true) (ho : OwnP B w e k v rows) (hx : RowAt w k x more) (h63 : rows.length + more.length ≤ maxLen) (hb : (rows.length + more.length) * bytes ≤ 140737488355328) (hB : B ≤ w.heap.size)
 (h : ∀ v' w', Grew B e k w v (rows ++ more) v' w' → wpList P ops Q rest (a.put o.dst v') w') :
 wpList P ops Q (o :: rest) a w := by
 refine wpList_plain hgd fun K hK => ?_
 obtain ⟨v', w', hr, hg⟩ := run_append_P (P := P) w B t o.type e k bytes i z ht hi hz hsize hby hzs hk v x rows more hu hum h1 ho hx h63 hb hB
 unfold Oper.wp execOp
 simp only [hop, resolve, invoke, builtin, Sem.run_bind, Sem.run_pure, Result.andThen_ok, List.map_toArray, List.map_cons, List.map_nil, hs, hy, hr]
 exact hK _ _ (h v' w' hg)
theorem eff_append_P {P : Program} {o : Oper} {a : Act} {w : World} {K : Value → World → Prop} (s y : Operand) (t : TypeId)
 (hop : o.op = .call { callee := .builtin .append, args := #[s, y], argTypes := #[t, t] })
 (B : Nat) (e : TypeId) (k bytes : Nat) (i : TypeInfo) (z : Value) (ht : P.underlying t = some (.slice e)) (hi : P.info? e = some i) (hz : i.zero = some z) (hsize : i.size = k) (hby : i.bytes = bytes) (hzs : z.cells.size = k) (hk : 0 < k)
 (v x : Value) (rows more : List (List Value)) (hs : a.eval s = v) (hy : a.eval y = x) (hu : ∀ cs ∈ rows, cs.length = k) (hum : ∀ cs ∈ more, cs.length = k) (h1 : ∀ cs ∈ more, ∀ u ∈ cs, u.oneCell' = true) (ho : OwnP B w e k v rows) (hx : RowAt w k x more) (h63 : rows.length + more.length ≤ maxLen) (hb : (rows.length + more.length) * bytes ≤ 140737488355328) (hB : B ≤ w.heap.size)
 (h : ∀ v' w', Grew B e k w v (rows ++ more) v' w' → K v' w') : o.eff P a w K := by
 obtain ⟨v', w', hr, hg⟩ := run_append_P (P := P) w B t o.type e k bytes i z ht hi hz hsize hby hzs hk v x rows more hu hum h1 ho hx h63 hb hB
 unfold Oper.eff execOp
 simp only [hop, resolve, invoke, builtin, Sem.run_bind, Sem.run_pure, Result.andThen_ok, List.map_toArray, List.map_cons, List.map_nil, hs, hy, hr]
 exact h v' w' hg
theorem RowAt.single {w : World} {b : Nat} {t : TypeId} {cs : List Value} (h : Blk w b cs.toArray t) (k cap : Nat) : RowAt w k (.slice (some ⟨b, 0, none⟩) 1 cap) [cs] := by
 refine ⟨_, _, rfl, by unfold maxLen; simp, fun _ => ⟨b, 0, rfl, h.lt.lt, fun q c hq u x hu => ?_⟩⟩
 rcases q with _ | q
 · simp only [List.getElem?_cons_zero, Option.some.injEq] at hq; subst hq; rw [h.cell]; simpa using hu
 · simp at hq
theorem str_len : ∀ (zs : List ByteArray), ∀ cs ∈ zs.map (fun n => [Value.string n]), cs.length = 1 := by
 intro zs cs h
 obtain ⟨r, _, rfl⟩ := List.mem_map.1 h
 rfl
theorem app3 {w : World} {ops : Array Oper} {rest : List Oper} {o : Oper} {a : Act} {Q : Exit → Act → World → Prop} (hgd : o.guard = none) (s y : Operand)
 (hop : o.op = .call { callee := .builtin .append, args := #[s, y], argTypes := #[24, 24] }) (B : Nat) (v x : Value) (zs more : List Int) (hs : a.eval s = v) (hy : a.eval y = x) (ho : OwnP B w 3 1 v (zs.map intCells)) (hx : RowAt w 1 x (more.map intCells)) (hl : zs.length + more.length ≤ 1000000000000) (hB : B ≤ w.heap.size)
 (h : ∀ v' w', Grew B 3 1 w v ((zs ++ more).map intCells) v' w' → wpList Tryz.prog ops Q rest (a.put o.dst v') w') :
 wpList Tryz.prog ops Q (o :: rest) a w := by
 obtain ⟨i, hi, hz, h1, h2⟩ := info_parts info3
 refine wpList_append_P w hgd s y 24 hop B 3 1 8 i _ Tryz.underlying24 hi hz h1 h2 rfl (by decide) v x (zs.map intCells) (more.map intCells) hs hy (int_len _) (int_len _) (int_one _) ho hx ?_ ?_ hB ?_
 · rw [List.length_map, List.length_map]; unfold maxLen; omega
 · rw [List.length_map, List.length_map]; omega
 · intro v' w' hg; rw [← List.map_append] at hg; exact h v' w' hg
end Go.Proofs.YtmkapobnfigedaaGreatDoor
namespace Go.Proofs.YtmkapobnfigedaaGreatDoor
open Go.RowKit
theorem OwnP.below {B : Nat} {w w' : World} {e : TypeId} {k : Nat} {v : Value} {rows : List (List Value)} (h : OwnP B w e k v rows) (hb : Below w.heap.size w w') : OwnP B w' e k v rows := h.keep (Keep.of_below hb (fun _ => False)) (fun _ _ h => h)
theorem Grew.on {B : Nat} {e : TypeId} {k : Nat} {w w' : World} {v v' : Value} {rows rows' : List (List Value)} (h : Grew B e k w v rows v' w') (ho : OwnP B w e k v rows') (hB : B ≤ w.heap.size) : Below B w w' := h.2.1.below hB (fun i hi hg => by have := ho.ge hg; omega)
theorem StOwn.ins_form {B : Nat} {w : World} {iv ov mv : Value} {S : PSt} (h : StOwn B w iv ov mv S) (h0 : 0 < S.ins.length) : ∃ bi cap, iv = .slice (some ⟨bi, 0, none⟩) S.ins.length cap := by
 obtain ⟨_, _, is, h3, h4, _⟩ := h
 rcases h3 with ⟨_, h1⟩ | ⟨g, cap, arr, rfl, _⟩
 · rw [List.map_eq_nil_iff] at h1; rw [h1] at h4; simp at h4; omega
 · exact ⟨g, cap, by rw [List.length_map, h4]⟩
end Go.Proofs.YtmkapobnfigedaaGreatDoor
namespace Go.Proofs.YtmkapobnfigedaaGreatDoor
open Go.RowKit
def p1 (c : UInt8) : ByteArray := ⟨#[47, c]⟩
def n1 (c : UInt8) : ByteArray := ⟨#[c]⟩
end Go.Proofs.YtmkapobnfigedaaGreatDoor
namespace Go.Proofs.YtmkapobnfigedaaGreatDoor
open Go.RowKit
end Go.Proofs.YtmkapobnfigedaaGreatDoor
namespace Go.Proofs.YtmkapobnfigedaaGreatDoor
open Go.RowKit
end Go.Proofs.YtmkapobnfigedaaGreatDoor
namespace Go.Proofs.YtmkapobnfigedaaGreatDoor
open Go.RowKit
theorem StOwn.on {B : Nat} {w w1 : World} {iv ov mv : Value} {S : PSt} (h : StOwn B w iv ov mv S) (hb : Below w.heap.size w w1) : StOwn B w1 iv ov mv S := h.keep (Keep.of_below hb (fun _ => False)) (fun _ h => h.elim)
end Go.Proofs.YtmkapobnfigedaaGreatDoor
namespace Go.Proofs.YtmkapobnfigedaaGreatDoor
open Go.RowKit
theorem blk_on {w w' : World} {b : Nat} {c : Array Value} {t : TypeId} (h : Blk w b c t) (hb : Below w.heap.size w w') : Blk w' b c t := (Keep.of_below hb (fun _ => False)).blk h (fun h => h)
end Go.Proofs.YtmkapobnfigedaaGreatDoor
namespace Go.Proofs.YtmkapobnfigedaaGreatDoor
open Go.RowKit
theorem StOwn.made_at {B : Nat} {w : World} {iv ov : Value} {S : PSt} {gm cap : Nat} (h : StOwn B w iv ov (.slice (some ⟨gm, 0, none⟩) S.made.length cap) S) {k : Nat} {m : Int} (hm : S.made[k]? = some m) : w.cell? ⟨gm, k, none⟩ = some (.int .i64 m) ∧ w.frozen? ⟨gm, k, none⟩ = false ∧ BlockLt gm w := by
 rcases h.2.1 with ⟨h1, _⟩ | ⟨g, cap', arr, he, _, hb, _, _, _, hr⟩
 · cases h1
 · simp only [Value.slice.injEq, Option.some.injEq, Addr.mk.injEq] at he; obtain ⟨⟨rfl, -, -⟩, -, -⟩ := he; refine ⟨?_, hb.frozen k, hb.lt⟩; rw [hb.cell]; have := hr k (intCells m) (by rw [List.getElem?_map, hm]; rfl) 0 _ rfl; rw [Nat.mul_one, Nat.add_zero] at this; exact this
end Go.Proofs.YtmkapobnfigedaaGreatDoor
namespace Go.Proofs.YtmkapobnfigedaaGreatDoor
open Go.RowKit
end Go.Proofs.YtmkapobnfigedaaGreatDoor
namespace Go.Proofs.YtmkapobnfigedaaGreatDoor
open Go.RowKit
theorem info5' : (Tryz.prog.info? 5).map (fun i => (i.zero, i.size, i.bytes)) = some (some (.int .u8 0), 1, 1) := by kernel_rfl
set_option maxRecDepth 100000 in
theorem StOwn.setData {B : Nat} {w : World} {ov mv : Value} {S : PSt} {bi cap K : Nat} {x : PIn} (h : StOwn B w (.slice (some ⟨bi, 0, none⟩) S.ins.length cap) ov mv S) (hx : S.ins[K]? = some x) (d : ByteArray) :
 StOwn B (w.setCell ⟨bi, K * 4 + 3, none⟩ (.string d)) (.slice (some ⟨bi, 0, none⟩) S.ins.length cap) ov mv { S with ins := S.ins.set K { x with data := d } } ∧ B ≤ bi ∧ ∃ c, Blk w bi c 68 := by
 obtain ⟨h1, h2, is, h3, h4, h5, h6⟩ := h
 obtain ⟨hKl, _⟩ := List.getElem?_eq_some_iff.1 hx
 have hr : is[K]? = some is[K] := List.getElem?_eq_getElem (by omega)
 obtain ⟨a1, a2, a3, a4⟩ := h5 K _ x hr hx
 rcases h3 with ⟨h0, _⟩ | ⟨g, cap', arr, heq, hgB, hgb, hnc, hcm, hsz, hri⟩
 · simp at h0
 simp only [Value.slice.injEq, Option.some.injEq, Addr.mk.injEq] at heq
 obtain ⟨⟨rfl, -, -⟩, hl, rfl⟩ := heq
 have hS : Keep (fun k => k = bi) w (w.setCell ⟨bi, K * 4 + 3, none⟩ (.string d)) := Keep.setCell (S := fun k => k = bi) (p := ⟨bi, K * 4 + 3, none⟩) (Keep.refl _ _) (.inl rfl) _
 have far : ∀ {e : TypeId} {k : Nat} {v : Value} {rows : List (List Value)}, OwnP B w e k v rows → e ≠ 68 → OwnP B (w.setCell ⟨bi, K * 4 + 3, none⟩ (.string d)) e k v rows := by
  intro e k v rows ho hee; exact ho.keep hS (fun g hg hh => ho.ne_blk hgb hee hg hh)
 have hil : K < is.length := by omega
 have hmset : (is.map IRec.cells).set K (is[K].cells.set 3 (.string d)) = (is.set K ⟨is[K].num, is[K].dir, is[K].ev, d, is[K].one⟩).map IRec.cells := by
  rw [List.map_set]; rfl
 have hKs : K * 4 + 3 < arr.size := by
  rw [List.length_map] at hnc; omega
 refine ⟨⟨far h1 (by decide), far h2 (by decide), is.set K ⟨is[K].num, is[K].dir, is[K].ev, d, is[K].one⟩, .inr ⟨bi, cap, arr.setIfInBounds (K * 4 + 3) (.string d), ?_, hgB, hgb.set_ _ _, ?_, hcm, by rw [Array.size_setIfInBounds]; exact hsz, ?_⟩, ?_, ?_, ?_⟩, hgB, _, hgb⟩
 · rw [List.length_map, List.length_set, h4]
 · rw [List.length_map, List.length_set]; rw [List.length_map] at hnc; exact hnc
 · rw [← hmset]; exact hri.set (irec_len _) (by rw [List.getElem?_map, hr]; rfl) (by decide) hKs _
 · show (is.set K _).length = (S.ins.set K _).length; rw [List.length_set, List.length_set, h4]
 · intro q r x' hq hx'; have hx' : (S.ins.set K { x with data := d })[q]? = some x' := hx'; by_cases e : K = q
   · subst e; rw [List.getElem?_set_self hil] at hq; rw [List.getElem?_set_self hKl] at hx'; cases hq; cases hx'; exact ⟨a1, a2, rfl, far a4 (by decide)⟩
   · rw [List.getElem?_set_ne e] at hq hx'; obtain ⟨b1, b2, b3, b4⟩ := h5 q r x' hq hx'; exact ⟨b1, b2, b3, far b4 (by decide)⟩
 · intro p q r r' hpq hp hq k hk; have old : ∀ (j : Nat) (rb : IRec), (is.set K ⟨is[K].num, is[K].dir, is[K].ev, d, is[K].one⟩)[j]? = some rb → ∃ ro, is[j]? = some ro ∧ ro.ev = rb.ev := by
    intro j rb hj; by_cases e : K = j
    · subst e; rw [List.getElem?_set_self hil] at hj; cases hj; exact ⟨_, hr, rfl⟩
    · rw [List.getElem?_set_ne e] at hj; exact ⟨rb, hj, rfl⟩
   obtain ⟨o1, p1, e1⟩ := old p r hp; obtain ⟨o2, p2, e2⟩ := old q r' hq; rw [← e1] at hk; rw [← e2]; exact h6 p q o1 o2 hpq p1 p2 k hk
end Go.Proofs.YtmkapobnfigedaaGreatDoor
namespace Go.Proofs.YtmkapobnfigedaaGreatDoor
open Go.RowKit
def inM (x : Int) : Bool := decide (0 ≤ x) && decide (x ≤ 256)
theorem in126 (x : Int) (w : World) : Calls Tryz.prog 183 #[.int .i64 x] w fun e w' => e = .returned (.bool (inM x)) ∧ Below w.heap.size w w' := by
 unfold inM
 by_cases h : 0 ≤ x
 · have hb : decide (0 ≤ x) = true := decide_eq_true h
   go_enter Tryz.func183, Tryz.ntmps183
   go_wp2_with fail; go_ret; exact ⟨by first | rfl | simp [hb], bel _ _⟩
 · have hb : decide (0 ≤ x) = false := decide_eq_false h
   go_enter Tryz.func183, Tryz.ntmps183
   go_wp2_with fail; go_ret; exact ⟨by first | rfl | simp [hb], bel _ _⟩
def pieceM (s : ByteArray) (o n : Nat) : ByteArray := if s.size ≤ o then ⟨#[]⟩ else s.extract o (min s.size (o + n))
set_option maxRecDepth 100000 in
set_option maxHeartbeats 2000000 in
theorem piece127 (s : ByteArray) (o n : Nat) (w : World) (hs : s.size ≤ 1000000000) (ho : o ≤ 1000000000) (hn : n ≤ 1000000000) :
 Calls Tryz.prog 184 #[.string s, .int .i64 o, .int .i64 n] w fun e w' => e = .returned (.string (pieceM s o n)) ∧ Below w.heap.size w w' := by
 unfold pieceM
 by_cases h : s.size ≤ o
 · rw [if_pos h]; have hI : (s.size : Int) ≤ o := by omega
   go_enter Tryz.func184, Tryz.ntmps184
   go_wp2_with fail; go_ret; exact ⟨rfl, bel _ _⟩
 · rw [if_neg h]; have hI : ¬ (s.size : Int) ≤ o := by omega
   have e : (min (s.size : Int) ((o : Int) + n)).toNat = min s.size (o + n) := by omega
   go_enter Tryz.func184, Tryz.ntmps184
   go_wp2_with fail; go_ret; exact ⟨rfl, bel _ _⟩
def byteAr (l : List UInt8) : Array Value := (Lib.byteCells l).toArray
theorem byteAr_size (l : List UInt8) : (byteAr l).size = l.length := by unfold byteAr; simp [Lib.byteCells_length]
theorem mkN (n : Nat) (hn : n ≤ 1000000000) (u : World) : (Instr.makeSlice 147 (.int .i64 n) (.int .i64 n)).run Tryz.prog u = .ok (.slice (some ⟨u.heap.size, 0, none⟩) n n) (u.alloc (.cells (byteAr (List.replicate n 0)) 5)) := by
 obtain ⟨i, hi, hz, h1, h2⟩ := info_parts info5'
 have := run_make u (P := Tryz.prog) 147 5 i _ Tryz.underlying147 hi hz .i64 .i64 n n (by omega) (Int.le_refl _) (by rw [h2]; omega) (by omega)
 rw [h1] at this
 rw [this]
 have e : madeCells (Value.int IntKind.u8 0).cells ((n : Int).toNat * 1) = byteAr (List.replicate n 0) := by
  apply Array.toList_inj.1; have h3 : (Value.int IntKind.u8 0).cells = #[.int .u8 0] := rfl; rw [h3, toList_madeCells_one]; unfold byteAr Lib.byteCells; simp
 rw [e]
 rfl
theorem cpN (w : World) (ty : TypeId) (g o n cap : Nat) (l : List UInt8) (s : ByteArray) (h : Blk w g (byteAr l) 5) (hle : s.size ≤ n) (hfit : o + s.size ≤ l.length) :
 (Builtin.copy_ #[147, 9] ty #[.slice (some ⟨g, o, none⟩) n cap, .string s]).run Tryz.prog w = .ok (.int .i64 s.size) (w.setRow g (byteAr (l.take o ++ s.data.toList ++ l.drop (o + s.size)))) := by
 obtain ⟨i, hi, hz, h1, h2⟩ := info_parts info5'
 have := Lib.run_copy_row_string (P := Tryz.prog) w 147 9 ty 5 g o n cap s (byteAr l) 5 Tryz.underlying147 (by rw [hi]; simp [h1]) h hle (by rw [byteAr_size]; exact hfit)
 rw [this]
 have e : ((byteAr l).toList.take o ++ Lib.byteCells s.data.toList ++ (byteAr l).toList.drop (o + s.size)).toArray = byteAr (l.take o ++ s.data.toList ++ l.drop (o + s.size)) := by
  unfold byteAr Lib.byteCells; simp [List.map_take, List.map_drop]
 rw [e]
 rfl
theorem cvN (w : World) (g n cap : Nat) (l : List UInt8) (h : Blk w g (byteAr l) 5) (hn : l.length = n) : (convert 147 9 (.slice (some ⟨g, 0, none⟩) n cap)).run Tryz.prog w = .ok (.string ⟨l.toArray⟩) w := by
 have hs : (⟨l.toArray⟩ : ByteArray).size = n := by rw [← hn]; rfl
 have := Lib.run_convert_whole (P := Tryz.prog) w 147 5 9 Tryz.underlying147 Tryz.underlying5 Tryz.underlying9 g 0 ⟨l.toArray⟩ (fun i hi => by
  rw [h.cell, Nat.zero_add]; have hi2 : i < l.length := hi; unfold byteAr Lib.byteCells; simp [hi2]; rfl) cap
 rw [hs] at this
 exact this
theorem blk_setRow {w : World} {g : Nat} {a : Array Value} {t : TypeId} (h : Blk w g a t) (a' : Array Value) : Blk (w.setRow g a') g a' t := setRow_heap w g a a' t _ h
def layL (had : List UInt8) (off : Nat) (data : List UInt8) : List UInt8 :=
 (had ++ List.replicate (max had.length (off + data.length) - had.length) 0).take off ++ data ++ (had ++ List.replicate (max had.length (off + data.length) - had.length) 0).drop (off + data.length)
def layM (had : ByteArray) (off : Nat) (data : ByteArray) : ByteArray := if data.size = 0 then had else ⟨(layL had.data.toList off data.data.toList).toArray⟩
theorem below_row {B g : Nat} {w0 w : World} (hb : Below B w0 w) (hBg : B ≤ g) (cs : Array Value) : Below B w0 (w.setRow g cs) :=
 hb.trans ⟨rfl, rfl, rfl, by simp [World.setRow], fun k hk => setRow_other w g k cs (by omega)⟩
theorem str_list (s : ByteArray) : s.toList = s.data.toList := ByteArray.toList_eq s
theorem str_empty {s : ByteArray} (h : s.size = 0) : s.toList.isEmpty = true := by
 rw [str_list]
 rcases s with ⟨⟨l⟩⟩
 have : l = [] := List.eq_nil_of_length_eq_zero h
 subst this
 rfl
theorem str_some {s : ByteArray} (h : ¬ s.size = 0) : s.toList.isEmpty = false := by
 rw [str_list]
 rcases s with ⟨⟨l⟩⟩
 rcases l with _ | ⟨a, l⟩
 · exact absurd rfl h
 · rfl
set_option maxRecDepth 100000 in
set_option maxHeartbeats 2000000 in
theorem lay128 (had data : ByteArray) (off : Nat) (w : World) (hh : had.size ≤ 1000000) (hd : data.size ≤ 1000000) (ho : off ≤ 1000000) :
 Calls Tryz.prog 185 #[.string had, .int .i64 off, .string data] w fun e w' => e = .returned (.string (layM had off data)) ∧ Below w.heap.size w w' := by
 unfold layM
 by_cases h0 : data.size = 0
 · rw [if_pos h0]; have hem := str_empty h0
   go_enter Tryz.func185, Tryz.ntmps185
   go_wp2_with fail; go_ret; exact ⟨rfl, bel _ _⟩
 · rw [if_neg h0]; have hne : data.toList.isEmpty = false := str_some h0; obtain ⟨M, hM⟩ : ∃ M : Nat, (off : Int) + data.size = M := ⟨off + data.size, by omega⟩
   obtain ⟨N, hN⟩ : ∃ N : Nat, max (had.size : Int) (M : Int) = N := ⟨max had.size M, by omega⟩
   have hwM : IntKind.i64.wrap (M : Int) = M := I64.wrap ⟨by omega, by omega⟩; have hwM2 : wrap64 (M : Int) = M := by rw [← IntWalk.i64_left]; exact hwM
   have hmk := fun u => mkN N (by omega) u
   go_enter Tryz.func185, Tryz.ntmps185
   go_upto_region 4 with fail
   refine abs_world (F := fun W => Blk W w.heap.size (byteAr (List.replicate N 0)) 5 ∧ Below w.heap.size w W) ⟨Blk.new _ _ _, bel _ _⟩ ?_; obtain ⟨g, hg⟩ : ∃ g, w.heap.size = g := ⟨_, rfl⟩
   rw [hg]; rintro W ⟨hB, hbW⟩; have iG := hB.lt; have hds : data.data.toList.length = data.size := rfl; have hhs : had.data.toList.length = had.size := rfl; have hcp := fun ty => cpN W ty g 0 N N (List.replicate N 0) had hB (by omega) (by rw [List.length_replicate]; omega)
   obtain ⟨L1, hL1⟩ : ∃ L, (List.replicate N 0).take 0 ++ had.data.toList ++ (List.replicate N (0 : UInt8)).drop (0 + had.size) = L := ⟨_, rfl⟩
   rw [hL1] at hcp; have hlen1 : L1.length = N := by rw [← hL1]; simp [hhs]; omega
   have HW := Lib.hid (And.intro hB (And.intro hbW hL1)); have HG := Lib.hid hg; clear hB hbW hL1 hg hmk
   go_upto_region 5 with fail
   refine abs_world (F := fun W2 => Blk W2 g (byteAr L1) 5 ∧ Below g w W2) ⟨blk_setRow HW.out.1 _, below_row HW.out.2.1 (Nat.le_refl _) _⟩ ?_; clear hcp iG; rintro W2 ⟨hB2, hbW2⟩; have iG := hB2.lt; have hoN : off ≤ N := by omega
   have hcp := fun ty => cpN W2 ty g off (N - off) (N - off) L1 data hB2 (by omega) (by omega)
   obtain ⟨L2, hL2⟩ : ∃ L, L1.take off ++ data.data.toList ++ L1.drop (off + data.size) = L := ⟨_, rfl⟩
   rw [hL2] at hcp; have hlen2 : L2.length = N := by rw [← hL2]; simp [hds, hlen1]; omega
   have HW2 := Lib.hid (And.intro hB2 (And.intro hbW2 hL2)); clear hB2 hbW2 hL2
   go_upto_region 6 with fail
   refine abs_world (F := fun W3 => Blk W3 g (byteAr L2) 5 ∧ Below g w W3) ⟨blk_setRow HW2.out.1 _, below_row HW2.out.2.1 (Nat.le_refl _) _⟩ ?_; clear hcp iG; rintro W3 ⟨hB3, hbW3⟩; have iG := hB3.lt; have hcv := cvN W3 g N N L2 hB3 hlen2; have HW3 := Lib.hid (And.intro hB3 hbW3); have hfin : layL had.data.toList off data.data.toList = L2 := by
    have e1 := HW.out.2.2; have e2 := HW2.out.2.2; rw [← e2, ← e1]; unfold layL; have hNn : N = max had.size (off + data.size) := by omega
    simp only [List.take_zero, List.nil_append, Nat.zero_add, List.drop_replicate, hds, hhs, hNn]
   have HFI := Lib.hid hfin; clear hB3 hbW3 hfin; go_wp2_with fail; go_ret; exact ⟨by rw [HFI.out]; rfl, by rw [HG.out]; exact HW3.out.2⟩
end Go.Proofs.YtmkapobnfigedaaGreatDoor
namespace Go.Proofs.YtmkapobnfigedaaGreatDoor
open Go.RowKit
def fileX (S : PSt) (c : PCall) : Option (Nat × PIn) := if idxM (isFd c) S.op < 0 then none else
 match S.op[(idxM (isFd c) S.op).toNat]? with
 | none => none
 | some y => match S.ins[(findN S.nums y.num).toNat]? with
   | none => none
   | some x => some ((findN S.nums y.num).toNat, x)
theorem fileX_at {S : PSt} {c : PCall} {K : Nat} {x : PIn} (h : fileX S c = some (K, x)) : S.ins[K]? = some x ∧ K < S.ins.length := by
 unfold fileX at h
 split at h
 · cases h
 · split at h
   · cases h
   · split at h
     · cases h
     · rename_i hx
       simp only [Option.some.injEq, Prod.mk.injEq] at h; obtain ⟨rfl, rfl⟩ := h; obtain ⟨hl, _⟩ := List.getElem?_eq_some_iff.1 hx; exact ⟨hx, hl⟩
def fileE (S : PSt) (c : PCall) (bi : Nat) (e : Ending) : Prop := match fileX S c with
 | none => e = thrown 4
 | some y => e = .returned (.tuple #[.pointer (some ⟨bi, y.1 * 4, none⟩), .int .i64 (idxM (isFd c) S.op)])
theorem file_x {w : World} {d b bi cap : Nat} {S : PSt} {c : PCall} (h : DR w d b S c) (hf : Fine S) (hc : w.cell? ⟨b, 0, none⟩ = some (.slice (some ⟨bi, 0, none⟩) S.ins.length cap)) :
 Calls Tryz.prog 143 #[.pointer (some ⟨d, 0, none⟩)] w fun e w' => Below w.heap.size w w' ∧ fileE S c bi e := by
 refine (file73 d b S c w h hf).mono ?_
 rintro e w' ⟨hb, ho⟩
 refine ⟨hb, ?_⟩
 unfold fileE fileX
 rcases ho with ⟨hi, y, bi', off, cap', hy, hc', rfl⟩ | ⟨hi, rfl⟩
 · rw [if_neg (by omega), hy]; rw [hc] at hc'; simp only [Option.some.injEq, Value.slice.injEq, Addr.mk.injEq] at hc'; obtain ⟨⟨rfl, rfl, -⟩, -, -⟩ := hc'; have h0 := hf.opens y (List.mem_of_getElem? hy); have hb2 := findN_bounds S.nums y.num; have hnl : S.nums.length = S.ins.length := by unfold PSt.nums; rw [List.length_map]
   have hlt : (findN S.nums y.num).toNat < S.ins.length := by omega
   simp only [List.getElem?_eq_getElem hlt, Nat.zero_add]
 · rw [if_pos hi]
theorem DoAt.parts {B : Nat} {w : World} {d b : Nat} {S : PSt} {c : PCall} {r : PRes} (h : DoAt B w d b S c r) (h0 : 0 < S.ins.length) :
 ∃ bi cap ov mv nv, B ≤ b ∧ B ≤ d ∧ Blk w d (doCells b c r nv) 136 ∧ Blk w b #[.slice (some ⟨bi, 0, none⟩) S.ins.length cap, ov, mv] 26 ∧ StOwn B w (.slice (some ⟨bi, 0, none⟩) S.ins.length cap) ov mv S ∧ OwnP B w 9 1 nv (r.names.map strCells) := by
 obtain ⟨iv, ov, mv, nv, h1, h2, h3, h4, h5, h6⟩ := h
 obtain ⟨bi, cap, rfl⟩ := h5.ins_form h0
 exact ⟨bi, cap, ov, mv, nv, h1, h2, h3, h4, h5, h6⟩
structure DPart (B : Nat) (w : World) (d b bi cap : Nat) (ov mv nv : Value) (S : PSt) (c : PCall) (r : PRes) : Prop where
 hBb : B ≤ b
 hBd : B ≤ d
 hD : Blk w d (doCells b c r nv) 136
 hb : Blk w b #[.slice (some ⟨bi, 0, none⟩) S.ins.length cap, ov, mv] 26
 st : StOwn B w (.slice (some ⟨bi, 0, none⟩) S.ins.length cap) ov mv S
 nm : OwnP B w 9 1 nv (r.names.map strCells)
theorem DoAt.part {B : Nat} {w : World} {d b : Nat} {S : PSt} {c : PCall} {r : PRes} (h : DoAt B w d b S c r) (h0 : 0 < S.ins.length) : ∃ bi cap ov mv nv, DPart B w d b bi cap ov mv nv S c r := by
 obtain ⟨bi, cap, ov, mv, nv, h1, h2, h3, h4, h5, h6⟩ := h.parts h0
 exact ⟨bi, cap, ov, mv, nv, h1, h2, h3, h4, h5, h6⟩
section
variable {B : Nat} {w w' : World} {d b bi cap : Nat} {ov mv nv : Value} {S : PSt} {c : PCall} {r : PRes}
theorem DPart.at_ (h : DPart B w d b bi cap ov mv nv S c r) : DoAt B w d b S c r := ⟨_, _, _, _, h.hBb, h.hBd, h.hD, h.hb, h.st, h.nm⟩
theorem DPart.below (h : DPart B w d b bi cap ov mv nv S c r) (hb : Below w.heap.size w w') : DPart B w' d b bi cap ov mv nv S c r := by
 have hk : Keep (fun _ => False) w w' := Keep.of_below hb _
 exact ⟨h.hBb, h.hBd, hk.blk h.hD id, hk.blk h.hb id, h.st.keep hk (fun _ h => h.elim), h.nm.keep hk (fun _ _ h => h)⟩
theorem DPart.file (h : DPart B w d b bi cap ov mv nv S c r) (hf : Fine S) : Calls Tryz.prog 143 #[.pointer (some ⟨d, 0, none⟩)] w fun e w' => Below w.heap.size w w' ∧ fileE S c bi e :=
 file_x (DR.of_blk h.hD (SP.of_blk h.hb h.st.read)) hf (h.hb.cell 0)
theorem DPart.dat {K : Nat} {x : PIn} (h : DPart B w d b bi cap ov mv nv S c r) (hx : S.ins[K]? = some x) : BlockLt bi w ∧ w.cell? ⟨bi, K * 4, none⟩ = some (.int .i64 x.num) ∧ w.cell? ⟨bi, K * 4 + 1, none⟩ = some (.bool x.dir) ∧ w.cell? ⟨bi, K * 4 + 3, none⟩ = some (.string x.data) := by
 obtain ⟨a, cap', e1, hai⟩ := h.st.read.ins_at2
 cases e1
 obtain ⟨bi', oi, ev, he, iI0, hoi, her, hci⟩ := hai K x hx
 cases he
 obtain ⟨i2, x0, x1, -, x3⟩ := hci w (Below.refl _ _)
 simp only [Nat.zero_add] at x0 x1 x3
 exact ⟨i2, x0, x1, x3⟩
theorem DPart.res (h : DPart B w d b bi cap ov mv nv S c r) {t : Nat} {u : Value} {r' : PRes} (hc : (doCells b c r nv).setIfInBounds t u = doCells b c r' nv) (hn : r'.names = r.names) : DPart B (w.setCell ⟨d, t, none⟩ u) d b bi cap ov mv nv S c r' := by
 have hKd : Keep (fun k => k = d) w (w.setCell ⟨d, t, none⟩ u) := Keep.setCell (S := fun k => k = d) (p := ⟨d, t, none⟩) (Keep.refl _ _) (.inl rfl) _
 refine ⟨h.hBb, h.hBd, ?_, hKd.blk h.hb (h.hb.ne_ h.hD (by decide)), h.st.keep hKd (fun g hg => by rw [hg]; exact ⟨_, 136, h.hD, by decide, by decide, by decide, by decide⟩), by rw [hn]; exact h.nm.keep hKd (fun g hg => h.nm.ne_blk h.hD (by decide) hg)⟩
 rw [← hc]
 exact h.hD.set_ t u
end
def readM (S : PSt) (c : PCall) (r : PRes) : Except Int (PSt × PRes) := match fileX S c with
 | none => .error 4
 | some y => if (inM c.off && inM c.num) = true then .ok (S, { r with data := pieceM y.2.data c.off.toNat c.num.toNat }) else .error 9
set_option maxRecDepth 100000 in
set_option maxHeartbeats 4000000 in
theorem bytes_read (B d b : Nat) (S : PSt) (c : PCall) (r : PRes) (w : World) (h : DoAt B w d b S c r) (hB : B ≤ w.heap.size) (hf : Fine S) (hk : c.kind = 4) (hsz : ∀ x ∈ S.ins, x.data.size ≤ 1000000) :
 Calls Tryz.prog 146 #[.pointer (some ⟨d, 0, none⟩)] w (RunOut B w d b c (readM S c r)) := by
 obtain ⟨bi, cap, ov, mv, nv, hP⟩ := h.part hf.pos
 have ht := hP.file hf
 have iD := hP.hD.lt
 unfold fileE at ht
 unfold readM
 generalize hX : fileX S c = X at ht ⊢
 rcases X with _ | ⟨K, x⟩
 · simp only at ht ⊢
   go_enter Tryz.func146, Tryz.ntmps146
   go_wp2_with (go_at_call 143; refine ht.mono ?_; rintro e w1 ⟨hb1, rfl⟩)
   exact ⟨rfl, hb1.mono hB, rfl⟩
 · simp only at ht ⊢; obtain ⟨hx, hKl⟩ := fileX_at hX; have hxs := hsz x (List.mem_of_getElem? hx); generalize idxM (isFd c) S.op = I at ht; have HP := Lib.hid hP; clear h hP hX hsz; have hoff := fun ww => in126 c.off ww
   have hnum := fun ww => in126 c.num ww
   generalize hpo : inM c.off = po at hoff ⊢; rcases po with _ | _
   · simp only [Bool.false_and, Bool.false_eq_true, if_false]
     go_enter Tryz.func146, Tryz.ntmps146
     go_upto_region 1 with (go_at_call 143; refine ht.mono ?_; rintro e w1 ⟨hb1, rfl⟩; have HB := Lib.hid hb1; clear hb1)
     refine abs_world (F := fun wA => DPart B wA d b bi cap ov mv nv S c r ∧ Below w.heap.size w wA) ⟨HP.out.below HB.out, HB.out⟩ ?_; clear ht iD HP HB; rintro wA ⟨hA, hbA⟩; have iD := hA.hD.lt; have a1 : wA.cell? ⟨d, 1, none⟩ = some (.int .i64 c.kind) := hA.hD.cell 1; have a4 : wA.cell? ⟨d, 4, none⟩ = some (.int .i64 c.off) := hA.hD.cell 4; have a5 : wA.cell? ⟨d, 5, none⟩ = some (.int .i64 c.num) := hA.hD.cell 5; have a13 : wA.cell? ⟨d, 13, none⟩ = some (.string r.data) := hA.hD.cell 13; have f13 := hA.hD.frozen 13; rw [hk] at a1; obtain ⟨iI, x0, x1, x3⟩ := hA.dat hx; have HA := Lib.hid (And.intro hA hbA); clear hA hbA hx; go_wp2_with (first | (go_at_call 183; with_reducible refine (hoff _).mono ?_; rintro e w' ⟨rfl, hb⟩; obtain ⟨p, rfl⟩ := hb.rest; clear hb) | (go_at_call 183; with_reducible refine (hnum _).mono ?_; rintro e w' ⟨rfl, hb⟩; obtain ⟨p, rfl⟩ := hb.rest; clear hb) | (go_at_call 172; refine (throw_yes _ _).mono ?_; rintro e w' ⟨rfl, hb⟩; obtain ⟨p, rfl⟩ := hb.rest; clear hb))
     exact ⟨rfl, (HA.out.2.trans ((bel wA _).mono HA.out.2.size)).mono hB, rfl⟩
   · generalize hpn : inM c.num = pn at hnum ⊢; rcases pn with _ | _
     · simp only [Bool.and_false, Bool.false_eq_true, if_false]
       go_enter Tryz.func146, Tryz.ntmps146
       go_upto_region 1 with (go_at_call 143; refine ht.mono ?_; rintro e w1 ⟨hb1, rfl⟩; have HB := Lib.hid hb1; clear hb1)
       refine abs_world (F := fun wA => DPart B wA d b bi cap ov mv nv S c r ∧ Below w.heap.size w wA) ⟨HP.out.below HB.out, HB.out⟩ ?_; clear ht iD HP HB; rintro wA ⟨hA, hbA⟩; have iD := hA.hD.lt; have a1 : wA.cell? ⟨d, 1, none⟩ = some (.int .i64 c.kind) := hA.hD.cell 1; have a4 : wA.cell? ⟨d, 4, none⟩ = some (.int .i64 c.off) := hA.hD.cell 4; have a5 : wA.cell? ⟨d, 5, none⟩ = some (.int .i64 c.num) := hA.hD.cell 5; have a13 : wA.cell? ⟨d, 13, none⟩ = some (.string r.data) := hA.hD.cell 13; have f13 := hA.hD.frozen 13; rw [hk] at a1; obtain ⟨iI, x0, x1, x3⟩ := hA.dat hx; have HA := Lib.hid (And.intro hA hbA); clear hA hbA hx; go_wp2_with (first | (go_at_call 183; with_reducible refine (hoff _).mono ?_; rintro e w' ⟨rfl, hb⟩; obtain ⟨p, rfl⟩ := hb.rest; clear hb) | (go_at_call 183; with_reducible refine (hnum _).mono ?_; rintro e w' ⟨rfl, hb⟩; obtain ⟨p, rfl⟩ := hb.rest; clear hb) | (go_at_call 172; refine (throw_yes _ _).mono ?_; rintro e w' ⟨rfl, hb⟩; obtain ⟨p, rfl⟩ := hb.rest; clear hb))
       exact ⟨rfl, (HA.out.2.trans ((bel wA _).mono HA.out.2.size)).mono hB, rfl⟩
     · simp only [Bool.and_self, if_true]; unfold inM at hpo hpn; simp only [Bool.and_eq_true, decide_eq_true_eq] at hpo hpn; obtain ⟨o, ho⟩ : ∃ o : Nat, c.off = o := ⟨c.off.toNat, by omega⟩
       obtain ⟨n, hn⟩ : ∃ n : Nat, c.num = n := ⟨c.num.toNat, by omega⟩
       have hpc := fun ww => piece127 x.data o n ww (by omega) (by omega) (by omega)
       have eo : c.off.toNat = o := by omega
       have en : c.num.toNat = n := by omega
       rw [eo, en]; rw [ho] at hoff; rw [hn] at hnum; generalize pieceM x.data o n = pc at hpc ⊢; have HO := Lib.hid (And.intro ho hn); clear eo en hpo hpn ho hn
       go_enter Tryz.func146, Tryz.ntmps146
       go_upto_region 1 with (go_at_call 143; refine ht.mono ?_; rintro e w1 ⟨hb1, rfl⟩; have HB := Lib.hid hb1; clear hb1)
       refine abs_world (F := fun wA => DPart B wA d b bi cap ov mv nv S c r ∧ Below w.heap.size w wA) ⟨HP.out.below HB.out, HB.out⟩ ?_; clear ht iD HP HB; rintro wA ⟨hA, hbA⟩; have iD := hA.hD.lt; have a1 : wA.cell? ⟨d, 1, none⟩ = some (.int .i64 c.kind) := hA.hD.cell 1; have a4 : wA.cell? ⟨d, 4, none⟩ = some (.int .i64 c.off) := hA.hD.cell 4; have a5 : wA.cell? ⟨d, 5, none⟩ = some (.int .i64 c.num) := hA.hD.cell 5; have a13 : wA.cell? ⟨d, 13, none⟩ = some (.string r.data) := hA.hD.cell 13; have f13 := hA.hD.frozen 13; rw [hk] at a1; rw [HO.out.1] at a4; rw [HO.out.2] at a5; obtain ⟨iI, x0, x1, x3⟩ := hA.dat hx; have HA := Lib.hid (And.intro hA hbA); clear hA hbA hx
       go_upto_region 5 with (first | (go_at_call 183; with_reducible refine (hoff _).mono ?_; rintro e w' ⟨rfl, hb⟩; obtain ⟨p, rfl⟩ := hb.rest; clear hb) | (go_at_call 183; with_reducible refine (hnum _).mono ?_; rintro e w' ⟨rfl, hb⟩; obtain ⟨p, rfl⟩ := hb.rest; clear hb) | (go_at_call 172; refine (throw_no _ _).mono ?_; rintro e w' ⟨rfl, hb⟩; obtain ⟨p, rfl⟩ := hb.rest; clear hb))
       refine wp_region_eff [15, 19] true (fun w' => w'.cell? ⟨d, 4, none⟩ = some (.int .i64 o) ∧ w'.cell? ⟨d, 5, none⟩ = some (.int .i64 n) ∧ w'.cell? ⟨bi, K * 4 + 3, none⟩ = some (.string x.data)) (by kernel_rfl) (by kernel_rfl) ?_ ?_
       · (try dsimp only); (repeat' apply And.intro) <;> go_simp
       repeat
        refine wpL_look rfl rfl ?_; apply Exists.intro; refine ⟨?_, ?_⟩
        focus
         rintro w' ⟨s0, s1, s2⟩; go_simp
         first | done | rfl
        simp only [Act.put, List.setIfInBounds_toArray, List.set_cons_zero, List.set_cons_succ]
       refine wpL_act rfl rfl ?_; refine eff_call 184 #[.string x.data, .int .i64 o, .int .i64 n] ?hr ?_
       case hr =>
        go_simp
        first | done | rfl
       refine (hpc _).mono ?_; rintro e w' ⟨rfl, hb⟩; obtain ⟨q1, rfl⟩ := hb.rest; clear hb; refine ⟨_, rfl, .inl ?_, ?_⟩
       · (try dsimp only); (repeat' apply And.intro) <;> go_simp
       simp only [Act.put, List.setIfInBounds_toArray, List.set_cons_zero, List.set_cons_succ]
       repeat
        refine wpL_look rfl rfl ?_; apply Exists.intro; refine ⟨?_, ?_⟩
        focus
         rintro w' ⟨s0, s1, s2⟩; go_simp
         first | done | rfl
        simp only [Act.put, List.setIfInBounds_toArray, List.set_cons_zero, List.set_cons_succ]
       refine wpL_skip rfl rfl ?_; apply Exists.intro; refine ⟨?_, .inr ⟨rfl, rfl⟩, ?_⟩
       focus
        go_simp; rfl
       simp only [Act.put, List.setIfInBounds_toArray, List.set_cons_zero, List.set_cons_succ]; refine wpL_end ?_; clear a1 a4 a5 a13 f13 x0 x1 x3; go_wp2_with fail; have hbs : Below B w (wA.setCell ⟨d, 13, none⟩ (.string pc)) := (HA.out.2.mono hB).setCell (p := ⟨d, 13, none⟩) HA.out.1.hBd _; exact bodyPost_end (v := .tuple #[]) (by simp [results, go_sem]) rfl ⟨hbs.trans ((bel _ _).mono (Nat.le_trans hB hbs.size)), rfl, ((HA.out.1.res (t := 13) (r' := { r with data := pc }) rfl rfl).below (bel _ _)).at_⟩
def sizeM (S : PSt) (c : PCall) (r : PRes) : Except Int (PSt × PRes) := match fileX S c with
 | none => .error 4
 | some y => .ok (S, { r with num := y.2.data.size })
set_option maxRecDepth 100000 in
set_option maxHeartbeats 4000000 in
theorem bytes_size (B d b : Nat) (S : PSt) (c : PCall) (r : PRes) (w : World) (h : DoAt B w d b S c r) (hB : B ≤ w.heap.size) (hf : Fine S) (hk : c.kind = 7) :
 Calls Tryz.prog 146 #[.pointer (some ⟨d, 0, none⟩)] w (RunOut B w d b c (sizeM S c r)) := by
 obtain ⟨bi, cap, ov, mv, nv, hP⟩ := h.part hf.pos
 have ht := hP.file hf
 have iD := hP.hD.lt
 unfold fileE at ht
 unfold sizeM
 generalize hX : fileX S c = X at ht ⊢
 rcases X with _ | ⟨K, x⟩
 · simp only at ht ⊢
   go_enter Tryz.func146, Tryz.ntmps146
   go_wp2_with (go_at_call 143; refine ht.mono ?_; rintro e w1 ⟨hb1, rfl⟩)
   exact ⟨rfl, hb1.mono hB, rfl⟩
 · simp only at ht ⊢; obtain ⟨hx, hKl⟩ := fileX_at hX; generalize idxM (isFd c) S.op = I at ht; have HP := Lib.hid hP; clear h hP hX
   go_enter Tryz.func146, Tryz.ntmps146
   go_upto_region 1 with (go_at_call 143; refine ht.mono ?_; rintro e w1 ⟨hb1, rfl⟩; have HB := Lib.hid hb1; clear hb1)
   refine abs_world (F := fun wA => DPart B wA d b bi cap ov mv nv S c r ∧ Below w.heap.size w wA) ⟨HP.out.below HB.out, HB.out⟩ ?_; clear ht iD HP HB; rintro wA ⟨hA, hbA⟩; have iD := hA.hD.lt; have a1 : wA.cell? ⟨d, 1, none⟩ = some (.int .i64 c.kind) := hA.hD.cell 1; have a11 : wA.cell? ⟨d, 11, none⟩ = some (.int .i64 r.num) := hA.hD.cell 11; have f11 := hA.hD.frozen 11; rw [hk] at a1; obtain ⟨iI, x0, x1, x3⟩ := hA.dat hx; have HA := Lib.hid (And.intro hA hbA); clear hA hbA hx; go_wp2_with fail; exact bodyPost_end (v := .tuple #[]) (by simp [results, go_sem]) rfl ⟨(HA.out.2.mono hB).setCell (p := ⟨d, 11, none⟩) HA.out.1.hBd _, rfl, (HA.out.1.res (t := 11) (r' := { r with num := x.data.size }) rfl rfl).at_⟩
end Go.Proofs.YtmkapobnfigedaaGreatDoor
namespace Go.Proofs.YtmkapobnfigedaaGreatDoor
open Go.RowKit
def openF (c : Int) : List PDesc → Nat → Nat → Nat → Nat × Nat
 | [], _, f, a => (f, a)
 | o :: r, i, f, a => openF c r (i + 1) (if o.core = c ∧ o.fd = f then f + 1 else f) (if o.core < c ∨ (o.core = c ∧ o.fd = f) then i + 1 else a)
theorem openF_le (c : Int) : ∀ (l : List PDesc) (i f a : Nat), f ≤ i → a ≤ i → (openF c l i f a).1 ≤ i + l.length ∧ (openF c l i f a).2 ≤ i + l.length
 | [], i, f, a, h1, h2 => by unfold openF; simp; omega
 | o :: r, i, f, a, h1, h2 => by
   unfold openF; have := openF_le c r (i + 1) (if o.core = c ∧ o.fd = f then f + 1 else f) (if o.core < c ∨ (o.core = c ∧ o.fd = f) then i + 1 else a) (by split <;> omega) (by split <;> omega); simp only [List.length_cons]; omega
def insD (l : List PDesc) (k : Nat) (y : PDesc) : List PDesc := l.take k ++ y :: l.drop k
def openDo (S : PSt) (c : PCall) (r : PRes) : Except Int (PSt × PRes) :=
 if (walkM S 0 (parseM c.path).2).2 ≠ 0 then .error (walkM S 0 (parseM c.path).2).2 else
 match S.ins[(walkM S 0 (parseM c.path).2).1]? with
 | none => .ok (S, r)
 | some x => if x.dir = true then .error 8 else if 4 ≤ (openF c.core S.op 0 0 0).1 then .error 10 else
   .ok ({ S with op := insD S.op (openF c.core S.op 0 0 0).2 ⟨c.core, (openF c.core S.op 0 0 0).1, x.num⟩ }, { r with fd := (openF c.core S.op 0 0 0).1 })
def PathE (bi : Nat) (W : Nat × Int) (e : Ending) : Prop := (W.2 = 0 ∧ e = .returned (.pointer (some ⟨bi, W.1 * 4, none⟩))) ∨ (W.2 ≠ 0 ∧ e = thrown W.2)
theorem PathE.ok {bi K : Nat} {e : Ending} (h : PathE bi (K, 0) e) : e = .returned (.pointer (some ⟨bi, K * 4, none⟩)) := by
 rcases h with ⟨_, h⟩ | ⟨h, _⟩
 · exact h
 · exact absurd rfl h
theorem PathE.bad {bi K : Nat} {C : Int} {e : Ending} (h : PathE bi (K, C) e) (hC : C ≠ 0) : e = thrown C := by
 rcases h with ⟨h, _⟩ | ⟨_, h⟩
 · exact absurd h hC
 · exact h
section
variable {B : Nat} {w w' : World} {d b bi cap : Nat} {ov mv nv : Value} {S : PSt} {c : PCall} {r : PRes}
theorem DPart.path (h : DPart B w d b bi cap ov mv nv S c r) (hf : Fine S) (s : ByteArray) (hp : (parseM s).1 = 0) (hpl : (parseM s).2.length ≤ 1000000000) :
 Calls Tryz.prog 178 #[.pointer (some ⟨d, 0, none⟩), .string s] w fun e w' => Below w.heap.size w w' ∧ PathE bi (walkM S 0 (parseM s).2) e := by
 refine (at122 d b S c s w (DR.of_blk h.hD (SP.of_blk h.hb h.st.read)) hf hp hpl).mono ?_
 rintro e w' ⟨hb, ho⟩
 refine ⟨hb, ?_⟩
 rcases ho with ⟨hc, bi', off, cap', hc', rfl⟩ | ⟨hc, rfl⟩
 · have h0 := h.hb.cell 0; simp only [List.getElem?_toArray, List.getElem?_cons_zero] at h0; rw [h0] at hc'; simp only [Option.some.injEq, Value.slice.injEq, Addr.mk.injEq] at hc'; obtain ⟨⟨rfl, rfl, -⟩, -, -⟩ := hc'; exact .inl ⟨hc, by rw [Nat.zero_add]⟩
 · exact .inr ⟨hc, rfl⟩
end
theorem StOwn.setOp3 {B : Nat} {w w1 : World} {iv ov ov' mv : Value} {S : PSt} {op' : List PDesc} (h : StOwn B w iv ov mv S) (hk : Keep (fun g => ov.ownBlock = some g) w w1) (ho : OwnP B w1 95 3 ov' (op'.map PDesc.cells)) : StOwn B w1 iv ov' mv { S with op := op' } := by
 obtain ⟨h1, h2, is, h3, h4, h5, h6⟩ := h
 have key : ∀ {e : TypeId} {k : Nat} {v : Value} {rows : List (List Value)}, OwnP B w e k v rows → e ≠ 95 → OwnP B w1 e k v rows := by
  intro e k v rows ho he; refine ho.keep hk (fun g hg hx => ?_); rcases h1 with ⟨h0, _⟩ | ⟨g', cap', cur, h0, _, hb', _⟩
  · rw [h0] at hx; cases hx
  · rw [h0] at hx; simp only [Value.ownBlock, Option.some.injEq] at hx; subst hx; exact ho.ne_blk hb' he hg rfl
 exact ⟨ho, key h2 (by decide), is, key h3 (by decide), h4, fun q r x hr hx => by
  obtain ⟨a1, a2, a3, a4⟩ := h5 q r x hr hx; exact ⟨a1, a2, a3, key a4 (by decide)⟩, h6⟩
set_option maxRecDepth 100000 in
set_option maxHeartbeats 8000000 in
theorem open72 (B d b : Nat) (S : PSt) (c : PCall) (r : PRes) (w : World) (h : DoAt B w d b S c r) (hB : B ≤ w.heap.size) (hf : Fine S) (hop : S.op.length ≤ 100000) (hp : (parseM c.path).1 = 0) (hpl : (parseM c.path).2.length ≤ 1000000000) :
 Calls Tryz.prog 142 #[.pointer (some ⟨d, 0, none⟩)] w (RunOut B w d b c (openDo S c r)) := by
 obtain ⟨bi, cap, ov, mv, nv, hP⟩ := h.part hf.pos
 have ht := hP.path hf c.path hp hpl
 have hlt := walkM_lt hf (parseM c.path).2 0 hf.pos
 have iD := hP.hD.lt
 have d6 : w.cell? ⟨d, 6, none⟩ = some (.string c.path) := hP.hD.cell 6
 have HP := Lib.hid hP
 obtain ⟨RR, hRR⟩ : ∃ RR, openDo S c r = RR := ⟨_, rfl⟩
 rw [hRR]
 unfold openDo at hRR
 generalize walkM S 0 (parseM c.path).2 = W at ht hlt hRR
 obtain ⟨K, C⟩ := W
 simp only at hlt hRR
 clear h hP hp hpl
 by_cases hC : C = 0
 · subst hC; rw [if_neg (by simp)] at hRR; obtain ⟨x, hx⟩ : ∃ x, S.ins[K]? = some x := ⟨_, List.getElem?_eq_getElem hlt⟩
   rw [hx] at hRR; simp only at hRR; have HRR := Lib.hid hRR; clear hRR
   go_enter Tryz.func142, Tryz.ntmps142
   go_upto_region 1 with (go_at_call 178; refine ht.mono ?_; rintro e w1 ⟨hb1, ho⟩; obtain rfl := ho.ok; have HB := Lib.hid hb1; clear hb1 ho)
   refine abs_world (F := fun wA => DPart B wA d b bi cap ov mv nv S c r ∧ Below w.heap.size w wA) ⟨HP.out.below HB.out, HB.out⟩ ?_; clear ht iD HP HB d6; rintro wA ⟨hA, hbA⟩; obtain ⟨iI, x0, x1, x3⟩ := hA.dat hx; obtain ⟨xn, xd, xe, xdat⟩ := x; have HRR := Lib.hid (show (if xd = true then Except.error 8 else if 4 ≤ (openF c.core S.op 0 0 0).1 then Except.error 10 else Except.ok ({ S with op := insD S.op (openF c.core S.op 0 0 0).2 ⟨c.core, (openF c.core S.op 0 0 0).1, xn⟩ }, { r with fd := (openF c.core S.op 0 0 0).1 }) : Except Int (PSt × PRes)) = RR from HRR.out); simp only at x0 x1; rcases xd with _ | _
   · have HA := Lib.hid (And.intro hA hbA); have hopn := openF_le c.core S.op 0 0 0 (Nat.le_refl _) (Nat.le_refl _); obtain ⟨R, hR⟩ : ∃ R, openF c.core S.op 0 0 0 = R := ⟨_, rfl⟩
     rw [hR] at hopn; have HR := Lib.hid hR; have HRR := Lib.hid (show (if 4 ≤ R.1 then Except.error 10 else Except.ok ({ S with op := insD S.op R.2 ⟨c.core, R.1, xn⟩ }, { r with fd := R.1 }) : Except Int (PSt × PRes)) = RR by rw [← HRR.out, hR]; rfl); have iD := hA.hD.lt; have iL := hA.hb.lt; have d0 : wA.cell? ⟨d, 0, none⟩ = some (.pointer (some ⟨b, 0, none⟩)) := hA.hD.cell 0; have d2 : wA.cell? ⟨d, 2, none⟩ = some (.int .i64 c.core) := hA.hD.cell 2; have b1 : wA.cell? ⟨b, 1, none⟩ = some ov := hA.hb.cell 1; obtain ⟨ao, co, rfl, hato⟩ := hA.st.read.1.at_; rw [List.length_map] at b1; have HO := Lib.hid hato; have HA := Lib.hid (show DPart B wA d b bi cap (.slice ao S.op.length co) mv nv S c r ∧ Below w.heap.size w wA by have h := HA.out; rw [List.length_map] at h; exact h); have HX := Lib.hid hx; clear hA hbA hx x3 hR hato; go_wp2_with (go_at_call 172; refine (throw_no _ _).mono ?_; rintro e w' ⟨rfl, hb⟩; obtain ⟨p, rfl⟩ := hb.rest; clear hb)
     go_loopw [3, 4, 27] (fun v3 v4 v27 wr => ∃ (q f a : Nat), v27 = .int .i64 q ∧ v3 = .int .i64 f ∧ v4 = .int .i64 a ∧ q ≤ S.op.length ∧ f ≤ q ∧ a ≤ q ∧ openF c.core (S.op.drop q) q f a = R ∧ Below wA.heap.size wA wr) (fun _ _ v27 _ => (S.op.length - intOf v27).toNat)
     case atStart => exact ⟨0, 0, 0, rfl, rfl, rfl, by omega, by omega, by omega, HR.out, bel _ _⟩
     case round =>
      obtain ⟨q, f, a, rfl, rfl, rfl, hq, hfq, haq, hre, hb⟩ := hrel; have iB : Bel wA wr := ⟨hb⟩
      have iDr : BlockLt d wr := ⟨by have := hb.size; have := iD.lt; omega⟩
      have r0 : wr.cell? ⟨d, 0, none⟩ = some (.pointer (some ⟨b, 0, none⟩)) := (hb.cell (p := ⟨d, 0, none⟩) iD.lt).trans d0; have r2 : wr.cell? ⟨d, 2, none⟩ = some (.int .i64 c.core) := (hb.cell (p := ⟨d, 2, none⟩) iD.lt).trans d2; by_cases hlt : q < S.op.length
      · obtain ⟨y, hy⟩ : ∃ y, S.op[q]? = some y := ⟨_, List.getElem?_eq_getElem hlt⟩
        rw [drop_at hy] at hre; unfold openF at hre; obtain ⟨bo, off, rfl, iG0, iG, hc⟩ := HO.out wr hb q y.cells (by rw [List.getElem?_map, hy]; rfl); have y0 := hc 0 _ rfl; have y1 := hc 1 _ rfl; have y2 := hc 2 _ rfl; rw [Nat.add_zero] at y0; have hwf : IntKind.i64.wrap ((f : Int) + 1) = ((f + 1 : Nat) : Int) := I64.wrap ⟨by omega, by omega⟩; have hwq : IntKind.i64.wrap ((q : Int) + 1) = ((q + 1 : Nat) : Int) := I64.wrap ⟨by omega, by omega⟩; have HRE := Lib.hid hre; clear hc hy hre; by_cases g1 : y.core < c.core
        · have g1b : decide (y.core < c.core) = true := decide_eq_true g1; have g2b : (y.core == c.core) = false := by simp; omega
          have e1 : ¬ (y.core = c.core ∧ y.fd = (f : Int)) := by omega
          go_upto_region 6 with fail
          refine wp_region_quiet_rest (by kernel_rfl) (by kernel_rfl) (WQ.out ?_)
          repeat
           refine WQ_step (fun K hK => ?_); go_simp
           first
            | (refine hK _ ?_; clear hK K)
            | (apply Exists.intro
               refine ⟨fun _ => ?_, hK _ ?_⟩
               focus (fail)
               clear hK K)
          refine WQ_nil ?_; intro w1 hw1; obtain ⟨p, hw1⟩ := hw1; subst hw1; go_wp2_with fail; refine wp_region_quiet_rest (by kernel_rfl) (by kernel_rfl) (WQ.out ?_)
          repeat
           refine WQ_step (fun K hK => ?_); go_simp
           first
            | (refine hK _ ?_; clear hK K)
            | (apply Exists.intro
               refine ⟨fun _ => ?_, hK _ ?_⟩
               focus (fail)
               clear hK K)
          refine WQ_nil ?_; intro w1 hw1; obtain ⟨p, hw1⟩ := hw1; subst hw1; go_wp2_with fail
          go_roundw
          case rel => exact ⟨q + 1, f, q + 1, by go_num, rfl, by go_num, by omega, by omega, by omega, by have := HRE.out; rw [if_neg e1, if_pos (.inl g1)] at this; exact this, bel _ _⟩
          case measure => simp [intOf]; omega
        · have g1b : decide (y.core < c.core) = false := decide_eq_false g1; by_cases g2 : y.core = c.core
          · have g2b : (y.core == c.core) = true := by simpa using g2
            by_cases g3 : y.fd = (f : Int)
            · have g3b : (y.fd == (f : Int)) = true := by simpa using g3
              clear g2 g3
              go_upto_region 6 with fail
              refine wp_region_quiet_rest (by kernel_rfl) (by kernel_rfl) (WQ.out ?_)
              repeat
               refine WQ_step (fun K hK => ?_); go_simp
               first
                | (refine hK _ ?_; clear hK K)
                | (apply Exists.intro
                   refine ⟨fun _ => ?_, hK _ ?_⟩
                   focus (fail)
                   clear hK K)
              refine WQ_nil ?_; intro w1 hw1; obtain ⟨p, hw1⟩ := hw1; subst hw1; go_wp2_with fail; refine wp_region_quiet_rest (by kernel_rfl) (by kernel_rfl) (WQ.out ?_)
              repeat
               refine WQ_step (fun K hK => ?_); go_simp
               first
                | (refine hK _ ?_; clear hK K)
                | (apply Exists.intro
                   refine ⟨fun _ => ?_, hK _ ?_⟩
                   focus (fail)
                   clear hK K)
              refine WQ_nil ?_; intro w1 hw1; obtain ⟨p, hw1⟩ := hw1; subst hw1; go_wp2_with fail
              go_roundw
              case rel => exact ⟨q + 1, f + 1, q + 1, by go_num, by go_num, by go_num, by omega, by omega, by omega, by have := HRE.out; rw [if_pos ⟨by simpa using g2b, by simpa using g3b⟩, if_pos (.inr ⟨by simpa using g2b, by simpa using g3b⟩)] at this; exact this, bel _ _⟩
              case measure => simp [intOf]; omega
            · have g3b : (y.fd == (f : Int)) = false := by simpa using g3
              clear g2
              go_upto_region 6 with fail
              refine wp_region_quiet_rest (by kernel_rfl) (by kernel_rfl) (WQ.out ?_)
              repeat
               refine WQ_step (fun K hK => ?_); go_simp
               first
                | (refine hK _ ?_; clear hK K)
                | (apply Exists.intro
                   refine ⟨fun _ => ?_, hK _ ?_⟩
                   focus (fail)
                   clear hK K)
              refine WQ_nil ?_; intro w1 hw1; obtain ⟨p, hw1⟩ := hw1; subst hw1; go_wp2_with fail; refine wp_region_quiet_rest (by kernel_rfl) (by kernel_rfl) (WQ.out ?_)
              repeat
               refine WQ_step (fun K hK => ?_); go_simp
               first
                | (refine hK _ ?_; clear hK K)
                | (apply Exists.intro
                   refine ⟨fun _ => ?_, hK _ ?_⟩
                   focus (fail)
                   clear hK K)
              refine WQ_nil ?_; intro w1 hw1; obtain ⟨p, hw1⟩ := hw1; subst hw1; go_wp2_with fail
              go_roundw
              case rel => exact ⟨q + 1, f, a, by go_num, rfl, rfl, by omega, by omega, by omega, by have := HRE.out; rw [if_neg (fun h => g3 h.2), if_neg (fun h => h.elim (fun h => absurd h (by omega)) (fun h => g3 h.2))] at this; exact this, bel _ _⟩
              case measure => simp [intOf]; omega
          · have g2b : (y.core == c.core) = false := by simpa using g2
            go_upto_region 6 with fail
            refine wp_region_quiet_rest (by kernel_rfl) (by kernel_rfl) (WQ.out ?_)
            repeat
             refine WQ_step (fun K hK => ?_); go_simp
             first
              | (refine hK _ ?_; clear hK K)
              | (apply Exists.intro
                 refine ⟨fun _ => ?_, hK _ ?_⟩
                 focus (fail)
                 clear hK K)
            refine WQ_nil ?_; intro w1 hw1; obtain ⟨p, hw1⟩ := hw1; subst hw1; go_wp2_with fail; refine wp_region_quiet_rest (by kernel_rfl) (by kernel_rfl) (WQ.out ?_)
            repeat
             refine WQ_step (fun K hK => ?_); go_simp
             first
              | (refine hK _ ?_; clear hK K)
              | (apply Exists.intro
                 refine ⟨fun _ => ?_, hK _ ?_⟩
                 focus (fail)
                 clear hK K)
            refine WQ_nil ?_; intro w1 hw1; obtain ⟨p, hw1⟩ := hw1; subst hw1; go_wp2_with fail
            go_roundw
            case rel => exact ⟨q + 1, f, a, by go_num, rfl, rfl, by omega, by omega, by omega, by have := HRE.out; rw [if_neg (fun h => g2 h.1), if_neg (fun h => h.elim (fun h => absurd h (by omega)) (fun h => g2 h.1))] at this; exact this, bel _ _⟩
            case measure => simp [intOf]; omega
      · rw [List.drop_of_length_le (by omega)] at hre; unfold openF at hre; subst hre; have hP := HA.out.1.below hb; have hbw : Below w.heap.size w wr := HA.out.2.trans (hb.mono HA.out.2.size); by_cases hf4 : 4 ≤ f
        · obtain rfl : RR = .error 10 := by rw [← HRR.out]; exact if_pos hf4
          have hf4I : (4 : Int) ≤ f := by omega
          have HP := Lib.hid hbw; clear hP hbw HA HRR HR; go_wp2_with (go_at_call 172; refine (throw_yes _ _).mono ?_; rintro e w' ⟨rfl, hb⟩; obtain ⟨p, rfl⟩ := hb.rest; clear hb)
          exact ⟨rfl, (HP.out.trans ((bel wr _).mono HP.out.size)).mono hB, rfl⟩
        · obtain rfl : RR = .ok ({ S with op := insD S.op a ⟨c.core, f, xn⟩ }, { r with fd := f }) := by rw [← HRR.out]; exact if_neg hf4
          have hf4I : ¬ (4 : Int) ≤ f := by omega
          obtain ⟨iI, x0, -, -⟩ := hP.dat (HX.out); simp only at x0; have b1 : wr.cell? ⟨b, 1, none⟩ = some (.slice ao S.op.length co) := by have := hP.hb.cell 1; simpa using this
          have iLr := hP.hb.lt; have HP := Lib.hid (And.intro hP hbw); clear hP hbw HRR HR
          go_upto_region 12 with (go_at_call 172; refine (throw_no _ _).mono ?_; rintro e w' ⟨rfl, hb⟩; obtain ⟨p, rfl⟩ := hb.rest; clear hb)
          refine abs_world (F := fun wz => DPart B wz d b bi cap (.slice ao S.op.length co) mv nv S c r ∧ Below w.heap.size w wz) ⟨HP.out.1.below (bel wr _), HP.out.2.trans ((bel wr _).mono HP.out.2.size)⟩ ?_; clear iI x0 b1 iLr HP r0 r2 iDr d0 d2 iD iL hb iB HA HO; rintro wz ⟨hz, hbz⟩; have iD := hz.hD.lt; have iL := hz.hb.lt; have d0 : wz.cell? ⟨d, 0, none⟩ = some (.pointer (some ⟨b, 0, none⟩)) := hz.hD.cell 0; have d2 : wz.cell? ⟨d, 2, none⟩ = some (.int .i64 c.core) := hz.hD.cell 2; have b1 : wz.cell? ⟨b, 1, none⟩ = some (.slice ao S.op.length co) := by have := hz.hb.cell 1; simpa using this
          obtain ⟨iI, x0, -, -⟩ := hz.dat HX.out; simp only at x0; obtain ⟨u1, u2, is, u3, u4, u5, u6⟩ := hz.st; have hBz : B ≤ wz.heap.size := Nat.le_trans hB hbz.size; have haf : a ≤ S.op.length := by omega
          have hins : ∀ ww gv, Below wz.heap.size wz ww → wz.heap.size ≤ gv → Blk ww gv #[.int .i64 c.core, .int .i64 f, .int .i64 xn] 95 → Calls Tryz.prog 179 #[.slice ao S.op.length co, .int .i64 a, .slice (some ⟨gv, 0, none⟩) 1 1] ww _ := fun ww gv hb hg hgv =>
           insert123 B _ (S.op.map PDesc.cells) a gv [.int .i64 c.core, .int .i64 f, .int .i64 xn] ww (u1.keep (Keep.of_below hb (fun _ => False)) (fun _ _ h => h)) (pdesc_len _) (pdesc_one _) (by rw [List.length_map]; omega) (by rw [List.length_map]; omega) hgv rfl (by intro u hu; simp only [List.mem_cons, List.not_mem_nil, or_false] at hu; rcases hu with rfl | rfl | rfl <;> rfl) (fun e => by have := u1.lt e; omega) (Nat.le_trans hBz hb.size)
          have HZ := Lib.hid (And.intro hz (And.intro hbz hins)); clear hz hbz hins u1 u2 u3 u4 u5 u6; refine wp_region_eff [23, 24, 27] true (fun w' => w'.cell? ⟨d, 0, none⟩ = some (.pointer (some ⟨b, 0, none⟩)) ∧ w'.cell? ⟨d, 2, none⟩ = some (.int .i64 c.core) ∧ w'.cell? ⟨b, 1, none⟩ = some (.slice ao S.op.length co) ∧ w'.cell? ⟨bi, K * 4, none⟩ = some (.int .i64 xn)) (by kernel_rfl) (by kernel_rfl) ?_ ?_
          · (try dsimp only); (repeat' apply And.intro) <;> go_simp
          repeat
           refine wpL_look rfl rfl ?_; apply Exists.intro; refine ⟨?_, ?_⟩
           focus
            rintro w' ⟨s0, s1, s2, s3⟩; go_simp
            first | done | rfl
           simp only [Act.put, List.setIfInBounds_toArray, List.set_cons_zero, List.set_cons_succ]
          refine wpL_do rfl rfl ?_; apply Exists.intro; apply Exists.intro; refine ⟨?_, ?_, ?_⟩
          focus
           go_simp; exact ⟨rfl, rfl⟩
          focus
           refine .inl ⟨?_, ?_, ?_, ?_⟩ <;> go_simp
          simp only [Act.put, List.setIfInBounds_toArray, List.set_cons_zero, List.set_cons_succ]; refine wpL_act rfl rfl ?_; refine eff_call 179 #[.slice ao S.op.length co, .int .i64 a, .slice (some ⟨wz.heap.size, 0, none⟩) 1 1] ?hr ?_
          case hr =>
           go_simp
           first | done | rfl
          refine (HZ.out.2.2 (wz.drew.alloc (.cells #[.int .i64 c.core, .int .i64 f, .int .i64 xn] 95)) wz.heap.size (bel wz _) (Nat.le_refl _) (Blk.new_i _ _ _ _)).mono ?_; rintro e w5 ⟨v', rfl, ho5, hk5, _⟩; obtain ⟨hz, hbz, -⟩ := HZ.out; have hk45 := (Keep.of_below (bel wz (wz.drew.alloc (.cells #[.int .i64 c.core, .int .i64 f, .int .i64 xn] 95))) (fun g => (Value.slice ao S.op.length co).ownBlock = some g)).trans hk5 (fun _ _ h => h); have hst5 := hz.st.setOp3 (op' := insD S.op a ⟨c.core, f, xn⟩) hk45 (by unfold insD; rw [List.map_append, List.map_cons, List.map_take, List.map_drop]; exact ho5); have hnb : ∀ {g : Nat} {cc : Array Value} {t : TypeId}, Blk wz g cc t → t ≠ 95 → ¬ (Value.slice ao S.op.length co).ownBlock = some g := fun hb ht hg => hz.st.1.ne_blk hb (fun e => ht e.symm) hg rfl
          have hD5 := hk45.blk hz.hD (hnb hz.hD (by decide)); have hB5 := hk45.blk hz.hb (hnb hz.hb (by decide)); have hN5 := hz.nm.keep hk45 (fun g hg h => by
           rcases hz.nm with ⟨h0, _⟩ | ⟨g', cap', cur, h0, _, hb', _⟩
           · rw [h0] at hg; cases hg
           · rw [h0] at hg; simp only [Value.ownBlock, Option.some.injEq] at hg; subst hg; exact hnb hb' (by decide) h)
          have hbw5 : Below B w w5 := (hbz.mono hB).trans (hk45.below hBz (fun i hi h => by have := hz.st.1.ge h; omega)); have y0 : w5.cell? ⟨d, 0, none⟩ = some (.pointer (some ⟨b, 0, none⟩)) := hD5.cell 0; have y2 : w5.cell? ⟨d, 2, none⟩ = some (.int .i64 c.core) := hD5.cell 2; have y1 : w5.cell? ⟨b, 1, none⟩ = some (.slice ao S.op.length co) := by have := hB5.cell 1; simpa using this
          have fy1 := hB5.frozen 1; have jD := hD5.lt; have jB := hB5.lt; have z10 : w5.cell? ⟨d, 10, none⟩ = some (.int .i64 r.fd) := hD5.cell 10; have fz10 := hD5.frozen 10; have ndb : ¬ d = b := hD5.ne_ hB5 (by decide); have nbd : ¬ b = d := fun e => ndb e.symm
          have hins5 : ∃ c, Blk wz bi c 68 := by
           obtain ⟨_, _, is, u3, _⟩ := hz.st; rcases u3 with ⟨h0, _⟩ | ⟨g', _, arr, h0, _, hb', _⟩
           · simp at h0
           · simp only [Value.slice.injEq, Option.some.injEq, Addr.mk.injEq] at h0; obtain ⟨⟨rfl, -, -⟩, -, -⟩ := h0; exact ⟨_, hb'⟩
          obtain ⟨cc, hcc⟩ := hins5; have hI5 := hk45.blk hcc (hnb hcc (by decide)); have iI5 := hI5.lt; have x5 : w5.cell? ⟨bi, K * 4, none⟩ = some (.int .i64 xn) := by rw [hI5.cell, ← hcc.cell]; exact x0
          obtain ⟨va, vn, vc, rfl⟩ := ho5.form; have H5 := Lib.hid (And.intro hst5 (And.intro hD5 (And.intro hB5 (And.intro hN5 (And.intro hbw5 (And.intro hz.hBb hz.hBd)))))); clear hst5 hD5 hB5 hN5 hk45 hk5 ho5 hnb hz hbz hcc hI5 hbw5 HZ; refine ⟨_, rfl, .inl ⟨y0, y2, y1, x5⟩, ?_⟩; simp only [Act.put, List.setIfInBounds_toArray, List.set_cons_zero, List.set_cons_succ]
          repeat
           refine wpL_look rfl rfl ?_; apply Exists.intro; refine ⟨?_, ?_⟩
           focus
            rintro w' ⟨s0, s1, s2, s3⟩; go_simp
            first | done | rfl
           simp only [Act.put, List.setIfInBounds_toArray, List.set_cons_zero, List.set_cons_succ]
          refine wpL_skip rfl rfl ?_; apply Exists.intro; refine ⟨?_, .inr ⟨rfl, rfl⟩, ?_⟩
          focus
           go_simp; rfl
          simp only [Act.put]; refine wpL_end ?_; clear d0 d2 b1 x0 iD iL iI x5 iI5 y2; go_wp2_with fail; obtain ⟨hst5, hD5, hB5, hN5, hbw5, e1, e2⟩ := H5.out; have hKb : Keep (fun g => g = b) w5 (w5.setCell ⟨b, 1, none⟩ (.slice va vn vc)) := Keep.setCell (S := fun g => g = b) (p := ⟨b, 1, none⟩) (Keep.refl _ _) (.inl rfl) _; have hfin : DoAt B ((w5.setCell ⟨b, 1, none⟩ (.slice va vn vc)).setCell ⟨d, 10, none⟩ (.int .i64 f)) d b { S with op := insD S.op a ⟨c.core, f, xn⟩ } c { r with fd := f } := by
           have hp : DPart B (w5.setCell ⟨b, 1, none⟩ (.slice va vn vc)) d b bi cap (.slice va vn vc) mv nv { S with op := insD S.op a ⟨c.core, f, xn⟩ } c r := ⟨e1, e2, hKb.blk hD5 (hD5.ne_ hB5 (by decide)), by have := hB5.set_ 1 (.slice va vn vc); simpa using this, hst5.keep hKb (fun g hg => by rw [hg]; exact ⟨_, 26, hB5, by decide, by decide, by decide, by decide⟩), hN5.keep hKb (fun g hg => hN5.ne_blk hB5 (by decide) hg)⟩
           exact (hp.res (t := 10) (r' := { r with fd := f }) rfl rfl).at_
          have hbf : Below B w ((w5.setCell ⟨b, 1, none⟩ (.slice va vn vc)).setCell ⟨d, 10, none⟩ (.int .i64 f)) := (hbw5.setCell (p := ⟨b, 1, none⟩) e1 _).setCell (p := ⟨d, 10, none⟩) e2 _; exact bodyPost_end (v := .tuple #[]) (by simp [results, go_sem]) rfl ⟨hbf, rfl, hfin⟩
   · obtain rfl : RR = .error 8 := by rw [← HRR.out]; rfl
     have HA := Lib.hid hbA; clear hA hbA hx x3; go_wp2_with (go_at_call 172; refine (throw_yes _ _).mono ?_; rintro e w' ⟨rfl, hb⟩; obtain ⟨p, rfl⟩ := hb.rest; clear hb)
     exact ⟨rfl, (HA.out.trans ((bel wA _).mono HA.out.size)).mono hB, rfl⟩
 · rw [if_pos hC] at hRR; subst hRR
   go_enter Tryz.func142, Tryz.ntmps142
   go_wp2_with (go_at_call 178; refine ht.mono ?_; rintro e w1 ⟨hb1, ho⟩; obtain rfl := ho.bad hC)
   exact ⟨rfl, hb1.mono hB, rfl⟩
end Go.Proofs.YtmkapobnfigedaaGreatDoor
namespace Go.Proofs.YtmkapobnfigedaaGreatDoor
open Go.RowKit
theorem DPart.setData {B : Nat} {w : World} {d b bi cap K : Nat} {ov mv nv : Value} {S : PSt} {c : PCall} {r : PRes} {x : PIn} (h : DPart B w d b bi cap ov mv nv S c r) (hx : S.ins[K]? = some x) (z : ByteArray) :
 DPart B (w.setCell ⟨bi, K * 4 + 3, none⟩ (.string z)) d b bi cap ov mv nv { S with ins := S.ins.set K { x with data := z } } c r := by
 obtain ⟨h1, h2, cc, h3⟩ := h.st.setData hx z
 have hK : Keep (fun k => k = bi) w (w.setCell ⟨bi, K * 4 + 3, none⟩ (.string z)) := Keep.setCell (S := fun k => k = bi) (p := ⟨bi, K * 4 + 3, none⟩) (Keep.refl _ _) (.inl rfl) _
 refine ⟨h.hBb, h.hBd, hK.blk h.hD (h.hD.ne_ h3 (by decide)), ?_, ?_, h.nm.keep hK (fun g hg e => h.nm.ne_blk h3 (by decide) hg e)⟩
 · show Blk _ b #[.slice (some ⟨bi, 0, none⟩) (S.ins.set K { x with data := z }).length cap, ov, mv] 26; rw [List.length_set]; exact hK.blk h.hb (h.hb.ne_ h3 (by decide))
 · show StOwn B _ (.slice (some ⟨bi, 0, none⟩) (S.ins.set K { x with data := z }).length cap) ov mv _; rw [List.length_set]; exact h1
theorem DPart.ge_bi {B : Nat} {w : World} {d b bi cap K : Nat} {ov mv nv : Value} {S : PSt} {c : PCall} {r : PRes} {x : PIn} (h : DPart B w d b bi cap ov mv nv S c r) (hx : S.ins[K]? = some x) : B ≤ bi ∧ ∃ cc, Blk w bi cc 68 := by
 obtain ⟨h1, h2, h3⟩ := h.st.setData hx x.data
 exact ⟨h2, h3⟩
def writeM (S : PSt) (c : PCall) (r : PRes) : Except Int (PSt × PRes) := match fileX S c with
 | none => .error 4
 | some y => .ok ({ S with ins := S.ins.set y.1 { y.2 with data := layM y.2.data c.off.toNat c.data } }, { r with num := c.data.size })
set_option maxRecDepth 100000 in
set_option maxHeartbeats 4000000 in
theorem bytes_write (B d b : Nat) (S : PSt) (c : PCall) (r : PRes) (w : World) (h : DoAt B w d b S c r) (hB : B ≤ w.heap.size) (hf : Fine S) (hk : c.kind = 5) (hoff0 : 0 ≤ c.off) (hsum : c.off + c.data.size ≤ 256) (hsz : ∀ x ∈ S.ins, x.data.size ≤ 1000000) :
 Calls Tryz.prog 146 #[.pointer (some ⟨d, 0, none⟩)] w (RunOut B w d b c (writeM S c r)) := by
 obtain ⟨bi, cap, ov, mv, nv, hP⟩ := h.part hf.pos
 have ht := hP.file hf
 have iD := hP.hD.lt
 unfold fileE at ht
 unfold writeM
 generalize hX : fileX S c = X at ht ⊢
 rcases X with _ | ⟨K, x⟩
 · simp only at ht ⊢
   go_enter Tryz.func146, Tryz.ntmps146
   go_wp2_with (go_at_call 143; refine ht.mono ?_; rintro e w1 ⟨hb1, rfl⟩)
   exact ⟨rfl, hb1.mono hB, rfl⟩
 · simp only at ht ⊢; obtain ⟨hx, hKl⟩ := fileX_at hX; have hxs := hsz x (List.mem_of_getElem? hx); generalize idxM (isFd c) S.op = I at ht; have HP := Lib.hid hP; have hoff := fun ww => in126 c.off ww
   have hnum := fun ww => in126 (c.data.size : Int) ww
   rw [show inM c.off = true by unfold inM; simp; omega] at hoff; rw [show inM (c.data.size : Int) = true by unfold inM; simp; omega] at hnum; obtain ⟨o, ho⟩ : ∃ o : Nat, c.off = o := ⟨c.off.toNat, by omega⟩
   have hla := fun ww => lay128 x.data c.data o ww (by omega) (by omega) (by omega)
   have eo : c.off.toNat = o := by omega
   rw [eo]; rw [ho] at hoff hsum; generalize layM x.data o c.data = z at hla ⊢; have HO := Lib.hid ho; clear h hP hX hsz eo ho hoff0; have hsz : (c.data.size : Int) ≤ 256 := by omega
   have hgt : decide ((256 : Int) < (o : Int) + c.data.size) = false := decide_eq_false (by omega); have hwr : IntKind.i64.wrap ((o : Int) + c.data.size) = (o : Int) + c.data.size := I64.wrap ⟨by omega, by omega⟩; have hgt2 : (o : Int) + c.data.size ≤ 256 := by omega
   go_enter Tryz.func146, Tryz.ntmps146
   go_upto_region 1 with (go_at_call 143; refine ht.mono ?_; rintro e w1 ⟨hb1, rfl⟩; have HB := Lib.hid hb1; clear hb1)
   refine abs_world (F := fun wA => DPart B wA d b bi cap ov mv nv S c r ∧ Below w.heap.size w wA) ⟨HP.out.below HB.out, HB.out⟩ ?_; clear ht iD HP HB; rintro wA ⟨hA, hbA⟩; have iD := hA.hD.lt; have a1 : wA.cell? ⟨d, 1, none⟩ = some (.int .i64 c.kind) := hA.hD.cell 1; have a4 : wA.cell? ⟨d, 4, none⟩ = some (.int .i64 c.off) := hA.hD.cell 4; have a8 : wA.cell? ⟨d, 8, none⟩ = some (.string c.data) := hA.hD.cell 8; have a11 : wA.cell? ⟨d, 11, none⟩ = some (.int .i64 r.num) := hA.hD.cell 11; have f11 := hA.hD.frozen 11; rw [hk] at a1; rw [HO.out] at a4; obtain ⟨iI, x0, x1, x3⟩ := hA.dat hx; obtain ⟨hge, cc, hcc⟩ := hA.ge_bi hx; have f3 := hcc.frozen (K * 4 + 3); have nbd : ¬ bi = d := hcc.ne_ hA.hD (by decide); have nbd2 : ¬ d = bi := fun e => nbd e.symm
   have HA := Lib.hid (And.intro hA (And.intro hbA (And.intro hx hge))); clear hA hbA hx hge hcc
   go_upto_region 8 with (first | (go_at_call 183; with_reducible refine (hoff _).mono ?_; rintro e w' ⟨rfl, hb⟩; obtain ⟨p, rfl⟩ := hb.rest; clear hb) | (go_at_call 183; with_reducible refine (hnum _).mono ?_; rintro e w' ⟨rfl, hb⟩; obtain ⟨p, rfl⟩ := hb.rest; clear hb) | (go_at_call 172; refine (throw_no _ _).mono ?_; rintro e w' ⟨rfl, hb⟩; obtain ⟨p, rfl⟩ := hb.rest; clear hb))
   refine wp_region_quiet_rest (by kernel_rfl) (by kernel_rfl) (WQ.out ?_)
   repeat
    refine WQ_step (fun K hK => ?_); go_simp
    first
     | (refine hK _ ?_; clear hK K)
     | (apply Exists.intro
        refine ⟨fun _ => ?_, hK _ ?_⟩
        focus (((with_reducible refine calls_in (throw_no _ _) (fun w' hb => ?_); first | exact hb.rest | exact rest1 hb | exact rest2 hb)))
        clear hK K)
   refine WQ_nil ?_; intro w1 hw1; obtain ⟨p, hw1⟩ := hw1; subst hw1
   go_upto_region 9 with fail
   refine wp_region_eff [15, 18] true (fun w' => w'.cell? ⟨d, 4, none⟩ = some (.int .i64 o) ∧ w'.cell? ⟨d, 8, none⟩ = some (.string c.data) ∧ w'.cell? ⟨bi, K * 4 + 3, none⟩ = some (.string x.data)) (by kernel_rfl) (by kernel_rfl) ?_ ?_
   · (try dsimp only); (repeat' apply And.intro) <;> go_simp
   repeat
    refine wpL_look rfl rfl ?_; apply Exists.intro; refine ⟨?_, ?_⟩
    focus
     rintro w' ⟨s0, s1, s2⟩; go_simp
     first | done | rfl
    simp only [Act.put, List.setIfInBounds_toArray, List.set_cons_zero, List.set_cons_succ]
   refine wpL_act rfl rfl ?_; refine eff_call 185 #[.string x.data, .int .i64 o, .string c.data] ?hr ?_
   case hr =>
    go_simp
    first | done | rfl
   refine (hla _).mono ?_; rintro e w' ⟨rfl, hb⟩; obtain ⟨q1, rfl⟩ := hb.rest; clear hb; refine ⟨_, rfl, .inl ?_, ?_⟩
   · (try dsimp only); (repeat' apply And.intro) <;> go_simp
   simp only [Act.put, List.setIfInBounds_toArray, List.set_cons_zero, List.set_cons_succ]
   repeat
    refine wpL_look rfl rfl ?_; apply Exists.intro; refine ⟨?_, ?_⟩
    focus
     rintro w' ⟨s0, s1, s2⟩; go_simp
     first | done | rfl
    simp only [Act.put, List.setIfInBounds_toArray, List.set_cons_zero, List.set_cons_succ]
   refine wpL_skip rfl rfl ?_; apply Exists.intro; refine ⟨?_, .inr ⟨rfl, rfl⟩, ?_⟩
   focus
    go_simp; rfl
   simp only [Act.put, List.setIfInBounds_toArray, List.set_cons_zero, List.set_cons_succ]; refine wpL_end ?_; clear a4 x0 x1 x3; go_wp2_with fail; have hbs : Below B w ((wA.setCell ⟨bi, K * 4 + 3, none⟩ (.string z)).setCell ⟨d, 11, none⟩ (.int .i64 c.data.size)) := ((HA.out.2.1.mono hB).setCell (p := ⟨bi, K * 4 + 3, none⟩) HA.out.2.2.2 _).setCell (p := ⟨d, 11, none⟩) HA.out.1.hBd _; exact bodyPost_end (v := .tuple #[]) (by simp [results, go_sem]) rfl ⟨hbs.trans ((bel _ _).mono (Nat.le_trans hB hbs.size)), rfl, (((HA.out.1.setData HA.out.2.2.1 z).res (t := 11) (r' := { r with num := c.data.size }) rfl rfl).below (bel _ _)).at_⟩
end Go.Proofs.YtmkapobnfigedaaGreatDoor
namespace Go.Proofs.YtmkapobnfigedaaGreatDoor
open Go.RowKit
theorem OwnP.blk_of {B : Nat} {w : World} {e : TypeId} {k : Nat} {v : Value} {rows : List (List Value)} (h : OwnP B w e k v rows) {g : Nat} (hg : v.ownBlock = some g) : ∃ cc, Blk w g cc e := by
 rcases h with ⟨h0, _⟩ | ⟨g', cap', cur, h0, _, hb', _⟩
 · rw [h0] at hg; cases hg
 · rw [h0] at hg; simp only [Value.ownBlock, Option.some.injEq] at hg; subst hg; exact ⟨_, hb'⟩
section
variable {B : Nat} {w w' : World} {d b bi cap : Nat} {ov mv nv : Value} {S : PSt} {c : PCall} {r : PRes}
theorem DPart.ents {K : Nat} {x : PIn} (h : DPart B w d b bi cap ov mv nv S c r) (hx : S.ins[K]? = some x) : ∃ ev, w.cell? ⟨bi, K * 4 + 2, none⟩ = some ev ∧ OwnP B w 97 2 ev (x.ents.map PEnt.cells) := by
 obtain ⟨_, _, is, h3, h4, h5, _⟩ := h.st
 obtain ⟨hl, _⟩ := List.getElem?_eq_some_iff.1 hx
 obtain ⟨rr, hrr⟩ : ∃ rr, is[K]? = some rr := ⟨_, List.getElem?_eq_getElem (by omega)⟩
 obtain ⟨a1, a2, a3, a4⟩ := h5 K rr x hrr hx
 refine ⟨rr.ev, ?_, a4⟩
 obtain ⟨a, c', he, hat⟩ := h3.row.at_
 obtain ⟨g, off, he2, _, _, hc⟩ := hat w (Below.refl _ _) K rr.cells (by rw [List.getElem?_map, hrr]; rfl)
 subst he2
 simp only [Value.slice.injEq, Option.some.injEq, Addr.mk.injEq] at he
 obtain ⟨⟨rfl, rfl, -⟩, -, -⟩ := he
 have := hc 2 _ rfl
 simpa using this
theorem DPart.named {s : ByteArray} {v' : Value} (h : DPart B w d b bi cap ov mv nv S c r) (hg : Grew B 9 1 w nv ((r.names ++ [s]).map strCells) v' w') : DPart B (w'.setCell ⟨d, 14, none⟩ v') d b bi cap ov mv v' S c { r with names := r.names ++ [s] } := by
 obtain ⟨ho, hk, hat⟩ := hg
 have hnb : ∀ {g : Nat} {cc : Array Value} {t : TypeId}, Blk w g cc t → t ≠ 9 → ¬ nv.ownBlock = some g := fun hb ht hg => h.nm.ne_blk hb (fun e => ht e.symm) hg rfl
 have hD := hk.blk h.hD (hnb h.hD (by decide))
 have hb := hk.blk h.hb (hnb h.hb (by decide))
 have hst := h.st.keep hk (fun g hg => by
  obtain ⟨cc, hcc⟩ := h.nm.blk_of hg; exact ⟨_, 9, hcc, by decide, by decide, by decide, by decide⟩)
 have hKd : Keep (fun k => k = d) w' (w'.setCell ⟨d, 14, none⟩ v') := Keep.setCell (S := fun k => k = d) (p := ⟨d, 14, none⟩) (Keep.refl _ _) (.inl rfl) _
 refine ⟨h.hBb, h.hBd, ?_, hKd.blk hb (hb.ne_ hD (by decide)), hst.keep hKd (fun g hg => by rw [hg]; exact ⟨_, 136, hD, by decide, by decide, by decide, by decide⟩), ho.keep hKd (fun g hg => ho.ne_blk hD (by decide) hg)⟩
 exact hD.set_ 14 v'
theorem DPart.named_ents {rows : List (List Value)} {ev : Value} {s : ByteArray} {v' : Value} (h : DPart B w d b bi cap ov mv nv S c r) (hg : Grew B 9 1 w nv ((r.names ++ [s]).map strCells) v' w') (he : OwnP B w 97 2 ev rows) : OwnP B (w'.setCell ⟨d, 14, none⟩ v') 97 2 ev rows := by
 obtain ⟨ho, hk, hat⟩ := hg
 have h1 : OwnP B w' 97 2 ev rows := he.keep hk (fun g hg hh => by
  obtain ⟨cc, hcc⟩ := h.nm.blk_of hh; exact he.ne_blk hcc (by decide) hg rfl)
 have hD := hk.blk h.hD (fun hh => by
  obtain ⟨cc, hcc⟩ := h.nm.blk_of hh; exact h.hD.ne_ hcc (by decide) rfl)
 have hKd : Keep (fun k => k = d) w' (w'.setCell ⟨d, 14, none⟩ v') := Keep.setCell (S := fun k => k = d) (p := ⟨d, 14, none⟩) (Keep.refl _ _) (.inl rfl) _
 exact h1.keep hKd (fun g hg => h1.ne_blk hD (by decide) hg)
end
theorem take_succ_at {α : Type} {l : List α} {q : Nat} {x : α} (h : l[q]? = some x) : l.take (q + 1) = l.take q ++ [x] := by
 rw [List.take_add_one, h]
 rfl
def listM (S : PSt) (c : PCall) (r : PRes) : Except Int (PSt × PRes) :=
 if (walkM S 0 (parseM c.path).2).2 ≠ 0 then .error (walkM S 0 (parseM c.path).2).2 else
 match S.ins[(walkM S 0 (parseM c.path).2).1]? with
 | none => .ok (S, r)
 | some x => if x.dir = true then .ok (S, { r with names := r.names ++ x.ents.map PEnt.name }) else .error 7
set_option maxRecDepth 100000 in
set_option maxHeartbeats 8000000 in
theorem tell_list (B d b : Nat) (S : PSt) (c : PCall) (r : PRes) (w : World) (h : DoAt B w d b S c r) (hB : B ≤ w.heap.size) (hf : Fine S) (hk : c.kind = 12) (hrn : r.names.length ≤ 1000000000) (hp : (parseM c.path).1 = 0) (hpl : (parseM c.path).2.length ≤ 1000000000) :
 Calls Tryz.prog 150 #[.pointer (some ⟨d, 0, none⟩)] w (RunOut B w d b c (listM S c r)) := by
 obtain ⟨i9x, hi9, h90, h91, h92⟩ := info_parts info9
 obtain ⟨bi, cap, ov, mv, nv, hP⟩ := h.part hf.pos
 have ht := hP.path hf c.path hp hpl
 have hlt := walkM_lt hf (parseM c.path).2 0 hf.pos
 have iD := hP.hD.lt
 have d1 : w.cell? ⟨d, 1, none⟩ = some (.int .i64 c.kind) := hP.hD.cell 1
 have d6 : w.cell? ⟨d, 6, none⟩ = some (.string c.path) := hP.hD.cell 6
 rw [hk] at d1
 have HP := Lib.hid hP
 obtain ⟨RR, hRR⟩ : ∃ RR, listM S c r = RR := ⟨_, rfl⟩
 rw [hRR]
 unfold listM at hRR
 generalize walkM S 0 (parseM c.path).2 = W at ht hlt hRR
 obtain ⟨K, C⟩ := W
 simp only at hlt hRR
 clear h hP hp hpl
 by_cases hC : C = 0
 · subst hC; rw [if_neg (by simp)] at hRR; obtain ⟨x, hx⟩ : ∃ x, S.ins[K]? = some x := ⟨_, List.getElem?_eq_getElem hlt⟩
   rw [hx] at hRR; simp only at hRR; have hel : x.ents.length ≤ 1000000000 := (hf.wf.2.2.2.1 x (List.mem_of_getElem? hx)).2.1; have HRR := Lib.hid hRR; clear hRR
   go_enter Tryz.func150, Tryz.ntmps150
   go_upto_region 1 with (go_at_call 178; refine ht.mono ?_; rintro e w1 ⟨hb1, ho⟩; obtain rfl := ho.ok; have HB := Lib.hid hb1; clear hb1 ho)
   refine abs_world (F := fun wA => DPart B wA d b bi cap ov mv nv S c r ∧ Below w.heap.size w wA) ⟨HP.out.below HB.out, HB.out⟩ ?_; clear ht iD HP HB d6 d1; rintro wA ⟨hA, hbA⟩; have iD := hA.hD.lt; have d1 : wA.cell? ⟨d, 1, none⟩ = some (.int .i64 c.kind) := hA.hD.cell 1; rw [hk] at d1; obtain ⟨iI, x0, x1, x3⟩ := hA.dat hx; obtain ⟨ev, x2, hev⟩ := hA.ents hx; obtain ⟨xn, xd, xe, xdat⟩ := x; simp only at x0 x1 x2 hev hel; have HX := Lib.hid (And.intro hA (And.intro hbA hev)); have HRR := Lib.hid (show (if xd = true then Except.ok (S, { r with names := r.names ++ xe.map PEnt.name }) else Except.error 7 : Except Int (PSt × PRes)) = RR from HRR.out); rcases xd with _ | _
   · obtain rfl : RR = .error 7 := by rw [← HRR.out]; rfl
     clear hA hbA hev hx x2 x3; go_wp2_with (go_at_call 172; refine (throw_yes _ _).mono ?_; rintro e w' ⟨rfl, hb⟩; obtain ⟨p, rfl⟩ := hb.rest; clear hb)
     exact ⟨rfl, (HX.out.2.1.trans ((bel wA _).mono HX.out.2.1.size)).mono hB, rfl⟩
   · obtain rfl : RR = .ok (S, { r with names := r.names ++ xe.map PEnt.name }) := by rw [← HRR.out]; rfl
     obtain ⟨ae, ce, rfl, -⟩ := hev.row.at_; rw [List.length_map] at x2; have HX := Lib.hid (show DPart B wA d b bi cap ov mv nv S c r ∧ Below w.heap.size w wA ∧ OwnP B wA 97 2 (.slice ae xe.length ce) (xe.map PEnt.cells) by have h := HX.out; rw [List.length_map] at h; exact h); clear hA hbA hev hx x3 HRR; go_wp2_with (go_at_call 172; refine (throw_no _ _).mono ?_; rintro e w' ⟨rfl, hb⟩; obtain ⟨p, rfl⟩ := hb.rest; clear hb)
     go_loopw [50] (fun v50 wr => ∃ (q : Nat) (nv' : Value), v50 = .int .i64 q ∧ q ≤ xe.length ∧ DPart B wr d b bi cap ov mv nv' S c { r with names := r.names ++ (xe.take q).map PEnt.name } ∧ OwnP B wr 97 2 (.slice ae xe.length ce) (xe.map PEnt.cells) ∧ Below B w wr) (fun v50 _ => (xe.length - intOf v50).toNat)
     case atStart => exact ⟨0, nv, rfl, by omega, by simpa using HX.out.1.below (bel wA (wA.junk p)), HX.out.2.2.keep (Keep.of_below (bel wA (wA.junk p)) (fun _ => False)) (fun _ _ h => h), (HX.out.2.1.trans ((bel wA (wA.junk p)).mono HX.out.2.1.size)).mono hB⟩
     case round =>
      obtain ⟨q, nv', rfl, hq, hP, hev, hb⟩ := hrel; have iDr := hP.hD.lt; by_cases hlt : q < xe.length
      · obtain ⟨e, he⟩ : ∃ e, xe[q]? = some e := ⟨_, List.getElem?_eq_getElem hlt⟩
        obtain ⟨a', c', e', hat⟩ := hev.row.at_; simp only [Value.slice.injEq] at e'; obtain ⟨rfl, -, rfl⟩ := e'; obtain ⟨bo, off, rfl, iG0, iG, hc⟩ := hat wr (Below.refl _ _) q e.cells (by rw [List.getElem?_map, he]; rfl); have y0 := hc 0 _ rfl; have y1 := hc 1 _ rfl; rw [Nat.add_zero] at y0; have d14 : wr.cell? ⟨d, 14, none⟩ = some nv' := hP.hD.cell 14; have f14 := hP.hD.frozen 14; have hnl : (r.names ++ (xe.take q).map PEnt.name).length ≤ 2000000000 := by simp; omega
        have hno := hP.nm.one; obtain ⟨an, nn, cn, rfl⟩ := hP.nm.form; have HR := Lib.hid (And.intro hP (And.intro hev (And.intro hb he))); have hqI : (q : Int) < xe.length := by omega
        have hBr : B ≤ wr.heap.size := by have := hP.hBd; have := iDr.lt; omega
        clear hP hev hb he hat hc
        go_upto_region 9 with fail
        refine abs_world (F := fun wz => DPart B wz d b bi cap ov mv (.slice an nn cn) S c { r with names := r.names ++ (xe.take q).map PEnt.name } ∧ OwnP B wz 97 2 (.slice (some ⟨bo, off, none⟩) xe.length ce) (xe.map PEnt.cells) ∧ Below B w wz ∧ Blk wz wr.heap.size #[.string e.name, .int .i64 e.num] 97) ⟨HR.out.1.below (bel wr _), HR.out.2.1.keep (Keep.of_below (bel wr _) (fun _ => False)) (fun _ _ h => h), HR.out.2.2.1.trans ((bel wr _).mono hBr), Blk.new _ _ _⟩ ?_; obtain ⟨g4, hg4⟩ : ∃ g, wr.heap.size = g := ⟨_, rfl⟩
        rw [hg4]; clear y0 y1 d14 f14 iG iDr; rintro wz ⟨hP, hev, hb, h4⟩; have iDz := hP.hD.lt; have d14 : wz.cell? ⟨d, 14, none⟩ = some (.slice an nn cn) := hP.hD.cell 14; have i4 := h4.lt; have z0 := h4.cell 0; simp at z0; have hBz : B ≤ wz.heap.size := by have := hP.hBd; have := iDz.lt; omega
        have HZ := Lib.hid (And.intro hP (And.intro hev hb)); have H4 := Lib.hid h4; clear hP hev hb h4; refine wp_region_eff [8, 9, 13] true (fun w' => w'.cell? ⟨d, 14, none⟩ = some (.slice an nn cn) ∧ w'.cell? ⟨g4, 0, none⟩ = some (.string e.name)) (by kernel_rfl) (by kernel_rfl) ?_ ?_
        · (try dsimp only); (repeat' apply And.intro) <;> go_simp
        repeat
         refine wpL_look rfl rfl ?_; apply Exists.intro; refine ⟨?_, ?_⟩
         focus
          rintro w' ⟨s0, s1⟩; go_simp
          first | done | rfl
         simp only [Act.put, List.setIfInBounds_toArray, List.set_cons_zero, List.set_cons_succ]
        refine wpL_do rfl rfl ?_; apply Exists.intro; apply Exists.intro; refine ⟨?_, ?_, ?_⟩
        focus
         go_simp; exact ⟨rfl, rfl⟩
        focus
         refine .inl ?_
         (try dsimp only); (repeat' apply And.intro) <;> go_simp
        simp only [Act.put, List.setIfInBounds_toArray, List.set_cons_zero, List.set_cons_succ]; refine wpL_act rfl rfl ?_; refine eff_append_P (.tmp 59) (.tmp 62) 50 ?e00 B 9 1 16 i9x _ Tryz.underlying50 hi9 h90 h91 h92 ?e9 ?e10 (.slice an nn cn) (.slice (some ⟨wz.heap.size, 0, none⟩) 1 1) ((r.names ++ (xe.take q).map PEnt.name).map strCells) [strCells e.name] ?e1 ?e3 ?e2 ?e4 ?e5 ?e6 ?e11 ?e12 ?e13 ?e14 ?_
        case e00 => rfl
        case e9 => rfl
        case e10 => decide
        case e1 => rfl
        case e3 => rfl
        case e2 => exact str_len _
        case e4 => intro cs hcs; simp at hcs; subst hcs; rfl
        case e5 => intro cs hcs u hu; simp at hcs; subst hcs; simp [strCells] at hu; subst hu; rfl
        case e6 => exact (HZ.out.1.below (bel wz (wz.drew.alloc (Obj.cells #[.string e.name] 9)))).nm
        case e11 => exact RowAt.single (Blk.new wz.drew #[.string e.name] 9) 1 1
        case e12 => rw [List.length_map]; unfold maxLen; simp at hnl ⊢; omega
        case e13 => rw [List.length_map]; simp at hnl ⊢; omega
        case e14 => simp; omega
        intro v' w5 hg5; have hP1 := HZ.out.1.below (bel wz (wz.drew.alloc (Obj.cells #[.string e.name] 9))); have hg6 : Grew B 9 1 (wz.drew.alloc (Obj.cells #[.string e.name] 9)) (.slice an nn cn) ((({ r with names := r.names ++ (xe.take q).map PEnt.name } : PRes).names ++ [e.name]).map strCells) v' w5 := by
         rw [List.map_append]; exact hg5
        have hfin := hP1.named hg6; have hevf := hP1.named_ents hg6 (HZ.out.2.1.keep (Keep.of_below (bel wz (wz.drew.alloc (Obj.cells #[.string e.name] 9))) (fun _ => False)) (fun _ _ h => h)); have hnb : ∀ {g : Nat} {cc : Array Value} {t : TypeId}, Blk (wz.drew.alloc (Obj.cells #[.string e.name] 9)) g cc t → t ≠ 9 → ¬ (Value.slice an nn cn).ownBlock = some g := fun hb ht hg => hP1.nm.ne_blk hb (fun e => ht e.symm) hg rfl
        have hD5 := hg5.2.1.blk hP1.hD (hnb hP1.hD (by decide)); have t14 : w5.cell? ⟨d, 14, none⟩ = some (.slice an nn cn) := hD5.cell 14; have ft14 := hD5.frozen 14; have iD5 := hD5.lt; obtain ⟨va, vn, vc, rfl⟩ := hg5.1.form; have hbf : Below B w (w5.setCell ⟨d, 14, none⟩ (.slice va vn vc)) := (HZ.out.2.2.trans (((bel wz (wz.drew.alloc (Obj.cells #[.string e.name] 9))).mono hBz).trans (hg5.2.1.below (by simp; omega) (fun i hi h => by have := hP1.nm.ge h; omega)))).setCell (p := ⟨d, 14, none⟩) HZ.out.1.hBd _; have h45 := hg5.2.1.blk (blk_on H4.out (bel wz (wz.drew.alloc (Obj.cells #[.string e.name] 9)))) (hnb (blk_on H4.out (bel wz (wz.drew.alloc (Obj.cells #[.string e.name] 9)))) (by decide)); have t4 : w5.cell? ⟨g4, 0, none⟩ = some (.string e.name) := by have := h45.cell 0; simpa using this
        have i45 := h45.lt; have HF := Lib.hid (And.intro hfin (And.intro hevf hbf)); clear hg5 hg6 hfin hevf hbf hP1 hnb hD5 h45; refine ⟨.inl ⟨t14, t4⟩, ?_⟩; simp only [Act.put, List.setIfInBounds_toArray, List.set_cons_zero, List.set_cons_succ]
        repeat
         refine wpL_look rfl rfl ?_; apply Exists.intro; refine ⟨?_, ?_⟩
         focus
          rintro w' ⟨s0, s1⟩; go_simp
          first | done | rfl
         simp only [Act.put, List.setIfInBounds_toArray, List.set_cons_zero, List.set_cons_succ]
        refine wpL_skip rfl rfl ?_; apply Exists.intro; refine ⟨?_, .inr ⟨rfl, rfl⟩, ?_⟩
        focus
         go_simp; rfl
        simp only [Act.put, List.setIfInBounds_toArray, List.set_cons_zero, List.set_cons_succ]; refine wpL_end ?_; clear t14 ft14 t4 i45 d14 i4 z0 iDz; go_wp2_with fail
        go_roundw
        case rel => exact ⟨q + 1, _, by go_num, by omega, by have h := HF.out.1; rw [show (({ r with names := r.names ++ (xe.take q).map PEnt.name } : PRes).names ++ [e.name]) = r.names ++ (xe.take (q + 1)).map PEnt.name by rw [take_succ_at HR.out.2.2.2]; simp] at h; exact h, HF.out.2.1, HF.out.2.2⟩
        case measure => simp [intOf]; omega
      · have hqe : q = xe.length := by omega
        subst hqe; rw [List.take_of_length_le (Nat.le_refl _)] at hP; have HR := Lib.hid (And.intro hP hb); clear hP hb hev; go_wp2_with fail; exact bodyPost_end (v := .tuple #[]) (by simp [results, go_sem]) rfl ⟨HR.out.2, rfl, HR.out.1.at_⟩
 · rw [if_pos hC] at hRR; subst hRR
   go_enter Tryz.func150, Tryz.ntmps150
   go_wp2_with (go_at_call 178; refine ht.mono ?_; rintro e w1 ⟨hb1, ho⟩; obtain rfl := ho.bad hC)
   exact ⟨rfl, hb1.mono hB, rfl⟩
end Go.Proofs.YtmkapobnfigedaaGreatDoor
namespace Go.Proofs.YtmkapobnfigedaaGreatDoor
open Go.RowKit
theorem parse_len {s : ByteArray} (h : (parseM s).1 = 0) : (parseM s).2.length ≤ 4 := by
 unfold parseM at h ⊢
 by_cases h1 : 64 < s.size
 · rw [if_pos h1] at h; cases h
 · rw [if_neg h1] at h ⊢; by_cases h2 : 0 < s.size
   · rw [dif_pos h2] at h ⊢; by_cases h3 : (((s[0]'h2).toNat : Int) == 47) = false
     · rw [if_pos h3] at h; cases h
     · rw [if_neg h3] at h ⊢; by_cases h4 : s.size = 1
       · rw [if_pos h4]; exact Nat.zero_le _
       · rw [if_neg h4] at h ⊢; simp only at h ⊢; generalize parseFrom s (s ++ ⟨#[47]⟩) (s ++ ⟨#[47]⟩ : ByteArray).size 0 1 [] = r at h ⊢; by_cases h5 : r.1 = 0 ∧ 4 < r.2.length
         · rw [if_pos h5] at h; cases h
         · rw [if_neg h5] at h ⊢; omega
   · rw [dif_neg h2] at h; cases h
set_option maxRecDepth 100000 in
set_option maxHeartbeats 2000000 in
theorem tell_x (B d b : Nat) (S : PSt) (c : PCall) (r : PRes) (w : World) (h : DoAt B w d b S c r) (hB : B ≤ w.heap.size) (hp : (parseM c.path).1 ≠ 0) :
 Calls Tryz.prog 150 #[.pointer (some ⟨d, 0, none⟩)] w (RunOut B w d b c (.error (codeM (parseM c.path).1))) := by
 have hat : ∀ ww, Below w.heap.size w ww → Calls Tryz.prog 178 #[.pointer (some ⟨d, 0, none⟩), .string c.path] ww _ := fun ww hb => at122x d b S c c.path ww (h.read.below hb (Nat.le_refl _)) hp
 obtain ⟨iv, ov, mv, nv, hBb, hBd, hD, hbk, hst, hnv⟩ := h
 have iD := hD.lt
 have d6 : w.cell? ⟨d, 6, none⟩ = some (.string c.path) := hD.cell 6
 clear hD hbk hst hnv
 go_enter Tryz.func150, Tryz.ntmps150
 go_wp2_with (go_at_call 178; refine (hat _ (bel _ _)).mono ?_; rintro e w1 ⟨rfl, hb1⟩)
 exact ⟨rfl, hb1.mono hB, rfl⟩
def countM (S : PSt) (c : PCall) (r : PRes) : Except Int (PSt × PRes) :=
 if (walkM S 0 (parseM c.path).2).2 ≠ 0 then .error (walkM S 0 (parseM c.path).2).2 else
 match S.ins[(walkM S 0 (parseM c.path).2).1]? with
 | none => .ok (S, r)
 | some x => if x.dir = true then .error 8 else .ok (S, { r with num := linksM S x.num })
set_option maxRecDepth 100000 in
set_option maxHeartbeats 8000000 in
theorem tell_links (B d b : Nat) (S : PSt) (c : PCall) (r : PRes) (w : World) (h : DoAt B w d b S c r) (hB : B ≤ w.heap.size) (hf : Fine S) (hk : c.kind = 14) (hp : (parseM c.path).1 = 0) :
 Calls Tryz.prog 150 #[.pointer (some ⟨d, 0, none⟩)] w (RunOut B w d b c (countM S c r)) := by
 obtain ⟨bi, cap, ov, mv, nv, hP⟩ := h.part hf.pos
 have ht := hP.path hf c.path hp (Nat.le_trans (parse_len hp) (by decide))
 have hlt := walkM_lt hf (parseM c.path).2 0 hf.pos
 have iD := hP.hD.lt
 have d1 : w.cell? ⟨d, 1, none⟩ = some (.int .i64 c.kind) := hP.hD.cell 1
 have d6 : w.cell? ⟨d, 6, none⟩ = some (.string c.path) := hP.hD.cell 6
 rw [hk] at d1
 have HP := Lib.hid hP
 obtain ⟨RR, hRR⟩ : ∃ RR, countM S c r = RR := ⟨_, rfl⟩
 rw [hRR]
 unfold countM at hRR
 generalize walkM S 0 (parseM c.path).2 = W at ht hlt hRR
 obtain ⟨K, C⟩ := W
 simp only at hlt hRR
 clear h hP hp
 by_cases hC : C = 0
 · subst hC; rw [if_neg (by simp)] at hRR; obtain ⟨x, hx⟩ : ∃ x, S.ins[K]? = some x := ⟨_, List.getElem?_eq_getElem hlt⟩
   rw [hx] at hRR; simp only at hRR; have HRR := Lib.hid hRR; clear hRR
   go_enter Tryz.func150, Tryz.ntmps150
   go_upto_region 1 with (go_at_call 178; refine ht.mono ?_; rintro e w1 ⟨hb1, ho⟩; obtain rfl := ho.ok; have HB := Lib.hid hb1; clear hb1 ho)
   refine abs_world (F := fun wA => DPart B wA d b bi cap ov mv nv S c r ∧ Below w.heap.size w wA) ⟨HP.out.below HB.out, HB.out⟩ ?_; clear ht iD HP HB d6 d1; rintro wA ⟨hA, hbA⟩; have iD := hA.hD.lt; have iL := hA.hb.lt; have d1 : wA.cell? ⟨d, 1, none⟩ = some (.int .i64 c.kind) := hA.hD.cell 1; rw [hk] at d1; obtain ⟨iI, x0, x1, x3⟩ := hA.dat hx; have HX := Lib.hid (And.intro hA hbA); generalize hdd : x.dir = xd at x1; rcases xd with _ | _
   · obtain rfl : RR = .ok (S, { r with num := linksM S x.num }) := by rw [← HRR.out, hdd]; rfl
     have d0 : wA.cell? ⟨d, 0, none⟩ = some (.pointer (some ⟨b, 0, none⟩)) := hA.hD.cell 0; have d11 : wA.cell? ⟨d, 11, none⟩ = some (.int .i64 r.num) := hA.hD.cell 11; have f11 := hA.hD.frozen 11; have b0 : wA.cell? ⟨b, 0, none⟩ = some (.slice (some ⟨bi, 0, none⟩) S.ins.length cap) := hA.hb.cell 0; have b1 : wA.cell? ⟨b, 1, none⟩ = some ov := hA.hb.cell 1; have b2 : wA.cell? ⟨b, 2, none⟩ = some mv := hA.hb.cell 2; have hov := hA.st.read.1.one; have hmv := hA.st.read.2.1.one; have hcl : ∀ ww, Below wA.heap.size wA ww → Calls Tryz.prog 181 #[.agg #[.slice (some ⟨bi, 0, none⟩) S.ins.length cap, ov, mv], .int .i64 x.num] ww fun e w' => e = .returned (.int .i64 (linksM S x.num)) ∧ Below ww.heap.size ww w' := fun ww hb => links82 _ ov mv S x.num ww (hA.st.read.below hb (Nat.le_refl _)) hf.wf
     obtain ⟨ln, hln⟩ : ∃ l, linksM S x.num = l := ⟨_, rfl⟩
     rw [hln] at hcl; have HLN := Lib.hid hln; clear hln; clear hA hbA hx HRR hdd x3
     go_upto_region 3 with (go_at_call 172; refine (throw_no _ _).mono ?_; rintro e w' ⟨rfl, hb⟩; obtain ⟨p, rfl⟩ := hb.rest; clear hb)
     refine wp_region_eff [11, 15] true (fun w' => w'.cell? ⟨d, 0, none⟩ = some (.pointer (some ⟨b, 0, none⟩)) ∧ w'.cell? ⟨b, 0, none⟩ = some (.slice (some ⟨bi, 0, none⟩) S.ins.length cap) ∧ w'.cell? ⟨b, 1, none⟩ = some ov ∧ w'.cell? ⟨b, 2, none⟩ = some mv ∧ w'.cell? ⟨bi, K * 4, none⟩ = some (.int .i64 x.num)) (by kernel_rfl) (by kernel_rfl) ?_ ?_
     · (try dsimp only); (repeat' apply And.intro) <;> go_simp
     repeat
      refine wpL_look rfl rfl ?_; apply Exists.intro; refine ⟨?_, ?_⟩
      focus
       rintro w' ⟨s0, s1, s2, s3, s4⟩; go_simp
       first | done | rfl
      simp only [Act.put, List.setIfInBounds_toArray, List.set_cons_zero, List.set_cons_succ]
     refine wpL_act rfl rfl ?_; refine eff_call 181 #[.agg #[.slice (some ⟨bi, 0, none⟩) S.ins.length cap, ov, mv], .int .i64 x.num] ?hr ?_
     case hr =>
      go_simp
      first | done | rfl
     refine (hcl _ (bel _ _)).mono ?_; rintro e w' ⟨rfl, hb⟩; obtain ⟨q1, rfl⟩ := hb.rest; clear hb; refine ⟨_, rfl, .inl ?_, ?_⟩
     · (try dsimp only); (repeat' apply And.intro) <;> go_simp
     simp only [Act.put, List.setIfInBounds_toArray, List.set_cons_zero, List.set_cons_succ]
     repeat
      refine wpL_look rfl rfl ?_; apply Exists.intro; refine ⟨?_, ?_⟩
      focus
       rintro w' ⟨s0, s1, s2, s3, s4⟩; go_simp
       first | done | rfl
      simp only [Act.put, List.setIfInBounds_toArray, List.set_cons_zero, List.set_cons_succ]
     refine wpL_skip rfl rfl ?_; apply Exists.intro; refine ⟨?_, .inr ⟨rfl, rfl⟩, ?_⟩
     focus
      go_simp; rfl
     simp only [Act.put, List.setIfInBounds_toArray, List.set_cons_zero, List.set_cons_succ]; refine wpL_end ?_; clear d0 d1 d11 f11 b0 b1 b2 x0 x1; go_wp2_with fail; have hln := HLN.out; subst hln; have hbs : Below B w (wA.setCell ⟨d, 11, none⟩ (.int .i64 (linksM S x.num : Nat))) := (HX.out.2.mono hB).setCell (p := ⟨d, 11, none⟩) HX.out.1.hBd _; exact bodyPost_end (v := .tuple #[]) (by simp [results, go_sem]) rfl ⟨hbs.trans ((bel _ _).mono (Nat.le_trans hB hbs.size)), rfl, ((HX.out.1.res (t := 11) (r' := { r with num := linksM S x.num }) rfl rfl).below (bel _ _)).at_⟩
   · obtain rfl : RR = .error 8 := by rw [← HRR.out, hdd]; rfl
     clear hA hbA hx x3 hdd; go_wp2_with (go_at_call 172; refine (throw_yes _ _).mono ?_; rintro e w' ⟨rfl, hb⟩; obtain ⟨p, rfl⟩ := hb.rest; clear hb)
     exact ⟨rfl, (HX.out.2.trans ((bel wA _).mono HX.out.2.size)).mono hB, rfl⟩
 · rw [if_pos hC] at hRR; subst hRR
   go_enter Tryz.func150, Tryz.ntmps150
   go_wp2_with (go_at_call 178; refine ht.mono ?_; rintro e w1 ⟨hb1, ho⟩; obtain rfl := ho.bad hC)
   exact ⟨rfl, hb1.mono hB, rfl⟩
end Go.Proofs.YtmkapobnfigedaaGreatDoor
