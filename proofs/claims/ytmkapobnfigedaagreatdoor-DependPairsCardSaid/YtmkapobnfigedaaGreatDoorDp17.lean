/- Part of the proof of a law of chapter 15. Conditions: none. -/
import Derived.Test.YtmkapobnfigedaaGreatDoorDp16
set_option linter.unusedVariables false
set_option linter.unusedSimpArgs false
set_option maxRecDepth 100000
set_option maxHeartbeats 8000000
namespace Go.Proofs.YtmkapobnfigedaaGreatDoor
open Go.RowKit
def insF {α : Type} (p : α → Bool) (x : α) : List α → Bool → List α → List α
 | [], d, zs => if d = true then zs else zs ++ [x]
 | e :: r, d, zs => if d = true then insF p x r true (zs ++ [e]) else if p e = true then insF p x r true (zs ++ [x] ++ [e]) else insF p x r false (zs ++ [e])
theorem insF_drop {α : Type} (p : α → Bool) (x : α) (es : List α) (q : Nat) (e : α) (d : Bool) (zs : List α) (h : es[q]? = some e) :
 insF p x (es.drop q) d zs = if d = true then insF p x (es.drop (q + 1)) true (zs ++ [e]) else if p e = true then insF p x (es.drop (q + 1)) true (zs ++ [x] ++ [e]) else insF p x (es.drop (q + 1)) false (zs ++ [e]) := by
 obtain ⟨hl, rfl⟩ := gI.1 h
 rw [List.drop_eq_getElem_cons hl, insF]
theorem insF_end {α : Type} (p : α → Bool) (x : α) (es : List α) (q : Nat) (d : Bool) (zs : List α) (h : ¬ q < es.length) : insF p x (es.drop q) d zs = if d = true then zs else zs ++ [x] := by
 rw [List.drop_of_length_le (by omega), insF]
def fullF (b : Int) (but : ByteArray) : List PEnt → Int → Int
 | [], a => a
 | e :: r, a => fullF b but r (if (!(e.name.toList == but.toList) && bucketR e.name == b) = true then a + 1 else a)
theorem run_append_none {P : Program} (w : World) (t ty e : TypeId) (i : TypeInfo) (ht : P.underlying t = some (.slice e)) (hi : P.info? e = some i) (n cap c : Nat) (a : Option Addr) (hn : n ≤ cap) :
 (Builtin.append_ #[t, t] ty #[.slice a n cap, .slice none 0 c]).run P w = .ok (.slice a n cap) w := by
 rcases a with _ | a
 · simp [Builtin.append_, run_underlying ht, sizeOf, typeInfo, hi, Builtin.lenOf, hn, run_firstCells_none, Builtin.firstCells, loadCells, loadCellsFrom]
 · simp [Builtin.append_, run_underlying ht, sizeOf, typeInfo, hi, Builtin.lenOf, hn, run_firstCells_none, Builtin.firstCells, loadCells, loadCellsFrom, storeCells]
theorem rows_cells {w : World} {k n cap : Nat} {a : Option Addr} {rows : List (List Value)} (h : RowAt w k (.slice a n cap) rows) (hk : 0 < k) (hu : ∀ cs ∈ rows, cs.length = k) (ad : Addr) (had : a = some ad) : ∀ j u, rows.flatten[j]? = some u → w.cell? (ad.add j) = some u := by
 intro j u hj
 obtain ⟨a', cap', he, hm, hr⟩ := h
 simp only [Value.slice.injEq] at he
 obtain ⟨rfl, rfl, rfl⟩ := he
 subst had
 have hl := flat_len k rows hu
 obtain ⟨hjl, _⟩ := gI.1 hj
 rw [hl] at hjl
 have h0 : 0 < rows.length := by
  rcases hz : rows.length with _ | m
  · rw [hz] at hjl; omega
  · omega
 obtain ⟨b, off, he, hb, hc⟩ := hr h0
 simp only [Option.some.injEq] at he
 subst he
 have hj2 : j = j / k * k + j % k := by rw [Nat.mul_comm]; exact (Nat.div_add_mod j k).symm
 have htk : j % k < k := Nat.mod_lt _ hk
 have hq : j / k < rows.length := Nat.div_lt_of_lt_mul (by rwa [Nat.mul_comm])
 have hlen := hu rows[j / k] (List.getElem_mem hq)
 have h1 := flat_at k rows hu (j / k) (j % k) htk
 rw [← hj2, hj, gE hq] at h1
 have h2 := hc (j / k) rows[j / k] (gE hq) (j % k) u h1.symm
 rw [Addr.add_lit]
 rw [show off + j = off + j / k * k + j % k by omega]
 exact h2
def Grew (B : Nat) (e : TypeId) (k : Nat) (w : World) (v : Value) (rows : List (List Value)) (v' : Value) (w' : World) : Prop :=
 OwnP B w' e k v' rows ∧ Keep (fun g => v.ownBlock = some g) w w' ∧ (v'.ownBlock = v.ownBlock ∨ v'.ownBlock = some w.heap.size)
theorem run_append_P {P : Program} (w : World) (B : Nat) (t ty e : TypeId) (k bytes : Nat) (i : TypeInfo) (z : Value) (ht : P.underlying t = some (.slice e)) (hi : P.info? e = some i) (hz : i.zero = some z) (hsize : i.size = k) (hby : i.bytes = bytes) (hzs : z.cells.size = k) (hk : 0 < k)
 (v x : Value) (rows more : List (List Value)) (hu : ∀ cs ∈ rows, cs.length = k) (hum : ∀ cs ∈ more, cs.length = k) (h1 : ∀ cs ∈ more, ∀ u ∈ cs, u.oneCell' = true) (ho : OwnP B w e k v rows) (hx : RowAt w k x more) (h63 : rows.length + more.length ≤ maxLen) (hb : (rows.length + more.length) * bytes ≤ 140737488355328) (hB : B ≤ w.heap.size) :
 ∃ v' w', (Builtin.append_ #[t, t] ty #[v, x]).run P w = .ok v' w' ∧ Grew B e k w v (rows ++ more) v' w' := by
 have hx' := hx
 obtain ⟨a, cap, rfl, hm, hr⟩ := hx'
 rcases a with _ | ad
 · have h0 : more = [] := by
    rcases hz2 : more.length with _ | m
    · exact List.eq_nil_of_length_eq_zero hz2
    · obtain ⟨b, off, he, _⟩ := hr (by omega); cases he
   subst h0; have hr2 : (Builtin.append_ #[t, t] ty #[v, .slice none ([] : List (List Value)).length cap]).run P w = .ok v w := by
    rcases ho with ⟨rfl, rfl⟩ | ⟨g, cap', arr, rfl, hg, hbk, hn, _⟩
    · exact run_append_none w t ty e i ht hi 0 0 cap none (Nat.le_refl _)
    · exact run_append_none w t ty e i ht hi _ cap' cap _ hn
   refine ⟨v, w, hr2, by rw [List.append_nil]; exact ho, Keep.refl _ _, .inl rfl⟩
 · obtain ⟨v', w', hr2, hown, hgr, _, hat⟩ := run_append_own_at (P := P) w B t ty e i z k bytes ht hi hz hsize hby hzs hk v rows.length rows.flatten (ho.own hk hu) ad more.length cap more.flatten (flat_len k more hum) (rows_cells hx hk hum ad rfl) (fun u hu2 => by
    obtain ⟨cs, hcs, hu3⟩ := List.mem_flatten.1 hu2; exact h1 cs hcs u hu3) h63 hb hB
   refine ⟨v', w', hr2, ?_, (Keep.refl _ w).grown hgr (fun g hg => .inl hg), hat⟩; refine OwnP.of_own ?_ hk (fun cs hcs => (List.mem_append.1 hcs).elim (hu cs) (hum cs)); rw [lP, List.flatten_append]; exact hown
theorem wpList_append_P {P : Program} (w : World) {ops : Array Oper} {rest : List Oper} {o : Oper} {a : Act} {Q : Exit → Act → World → Prop} (hgd : o.guard = none) (s y : Operand) (t : TypeId)
 (hop : o.op = .call { callee := .builtin .append, args := #[s, y], argTypes := #[t, t] })
 (B : Nat) (e : TypeId) (k bytes : Nat) (i : TypeInfo) (z : Value) (ht : P.underlying t = some (.slice e)) (hi : P.info? e = some i) (hz : i.zero = some z) (hsize : i.size = k) (hby : i.bytes = bytes) (hzs : z.cells.size = k) (hk : 0 < k)
 (v x : Value) (rows more : List (List Value)) (hs : a.eval s = v) (hy : a.eval y = x) (hu : ∀ cs ∈ rows, cs.length = k) (hum : ∀ cs ∈ more, cs.length = k) (h1 : ∀ cs ∈ more, ∀ u ∈ cs, u.oneCell' = true) (ho : OwnP B w e k v rows) (hx : RowAt w k x more) (h63 : rows.length + more.length ≤ maxLen) (hb : (rows.length + more.length) * bytes ≤ 140737488355328) (hB : B ≤ w.heap.size)
 (h : ∀ v' w', Grew B e k w v (rows ++ more) v' w' → wpList P ops Q rest (a.put o.dst v') w') :
 wpList P ops Q (o :: rest) a w := by
 refine wpList_plain hgd fun K hK => ?_
 obtain ⟨v', w', hr, hg⟩ := run_append_P (P := P) w B t o.type e k bytes i z ht hi hz hsize hby hzs hk v x rows more hu hum h1 ho hx h63 hb hB
 unfold Oper.wp execOp
 simp only [hop, resolve, invoke, builtin, Sem.run_bind, Sem.run_pure, Result.andThen_ok, List.map_toArray, List.map_cons, List.map_nil, hs, hy, hr]
 exact hK _ _ (h v' w' hg)
theorem eff_append_P {P : Program} {o : Oper} {a : Act} {w : World} {K : Value → World → Prop} (s y : Operand) (t : TypeId)
 (hop : o.op = .call { callee := .builtin .append, args := #[s, y], argTypes := #[t, t] })
 (B : Nat) (e : TypeId) (k bytes : Nat) (i : TypeInfo) (z : Value) (ht : P.underlying t = some (.slice e)) (hi : P.info? e = some i) (hz : i.zero = some z) (hsize : i.size = k) (hby : i.bytes = bytes) (hzs : z.cells.size = k) (hk : 0 < k)
 (v x : Value) (rows more : List (List Value)) (hs : a.eval s = v) (hy : a.eval y = x) (hu : ∀ cs ∈ rows, cs.length = k) (hum : ∀ cs ∈ more, cs.length = k) (h1 : ∀ cs ∈ more, ∀ u ∈ cs, u.oneCell' = true) (ho : OwnP B w e k v rows) (hx : RowAt w k x more) (h63 : rows.length + more.length ≤ maxLen) (hb : (rows.length + more.length) * bytes ≤ 140737488355328) (hB : B ≤ w.heap.size)
 (h : ∀ v' w', Grew B e k w v (rows ++ more) v' w' → K v' w') : o.eff P a w K := by
 obtain ⟨v', w', hr, hg⟩ := run_append_P (P := P) w B t o.type e k bytes i z ht hi hz hsize hby hzs hk v x rows more hu hum h1 ho hx h63 hb hB
 unfold Oper.eff execOp
 simp only [hop, resolve, invoke, builtin, Sem.run_bind, Sem.run_pure, Result.andThen_ok, List.map_toArray, List.map_cons, List.map_nil, hs, hy, hr]
 exact h v' w' hg
theorem RowAt.single {w : World} {b : Nat} {t : TypeId} {cs : List Value} (h : Blk w b cs.toArray t) (k cap : Nat) : RowAt w k (.slice (some ⟨b, 0, none⟩) 1 cap) [cs] := by
 refine ⟨_, _, rfl, by unfold maxLen; simp, fun _ => ⟨b, 0, rfl, h.lt.lt, fun q c hq u x hu => ?_⟩⟩
 rcases q with _ | q
 · simp only [List.getElem?_cons_zero, Option.some.injEq] at hq; subst hq; rw [h.cell]; simpa using hu
 · simp at hq
theorem str_len : ∀ (zs : List ByteArray), ∀ cs ∈ zs.map (fun n => [Value.string n]), cs.length = 1 := by
 intro zs cs h
 obtain ⟨r, _, rfl⟩ := List.mem_map.1 h
 rfl
theorem str_one : ∀ (zs : List ByteArray), ∀ cs ∈ zs.map (fun n => [Value.string n]), ∀ u ∈ cs, u.oneCell' = true := by
 intro zs cs h u hu
 obtain ⟨r, _, rfl⟩ := List.mem_map.1 h
 simp only [List.mem_cons, List.not_mem_nil, or_false] at hu
 subst hu; rfl
theorem app99 {w : World} {ops : Array Oper} {rest : List Oper} {o : Oper} {a : Act} {Q : Exit → Act → World → Prop} (hgd : o.guard = none) (s y : Operand)
 (hop : o.op = .call { callee := .builtin .append, args := #[s, y], argTypes := #[66, 66] }) (B : Nat) (v x : Value) (zs more : List PEnt) (hs : a.eval s = v) (hy : a.eval y = x) (ho : OwnP B w 97 2 v (zs.map PEnt.cells)) (hx : RowAt w 2 x (more.map PEnt.cells)) (hl : zs.length + more.length ≤ 1000000000000) (hB : B ≤ w.heap.size)
 (h : ∀ v' w', Grew B 97 2 w v ((zs ++ more).map PEnt.cells) v' w' → wpList Tryz.prog ops Q rest (a.put o.dst v') w') :
 wpList Tryz.prog ops Q (o :: rest) a w := by
 obtain ⟨i, hi, hz, h1, h2⟩ := info_parts info99
 refine wpList_append_P w hgd s y 66 hop B 97 2 24 i _ Tryz.underlying66 hi hz h1 h2 rfl (by decide) v x (zs.map PEnt.cells) (more.map PEnt.cells) hs hy (pent_len _) (pent_len _) (pent_one _) ho hx ?_ ?_ hB ?_
 · rw [lM, lM]; unfold maxLen; omega
 · rw [lM, lM]; omega
 · intro v' w' hg; rw [← List.map_append] at hg; exact h v' w' hg
theorem app65 {w : World} {ops : Array Oper} {rest : List Oper} {o : Oper} {a : Act} {Q : Exit → Act → World → Prop} (hgd : o.guard = none) (s y : Operand)
 (hop : o.op = .call { callee := .builtin .append, args := #[s, y], argTypes := #[22, 22] }) (B : Nat) (v x : Value) (zs more : List IRec) (hs : a.eval s = v) (hy : a.eval y = x) (ho : OwnP B w 68 4 v (zs.map IRec.cells)) (hx : RowAt w 4 x (more.map IRec.cells)) (hl : zs.length + more.length ≤ 1000000000000) (hB : B ≤ w.heap.size)
 (h : ∀ v' w', Grew B 68 4 w v ((zs ++ more).map IRec.cells) v' w' → wpList Tryz.prog ops Q rest (a.put o.dst v') w') :
 wpList Tryz.prog ops Q (o :: rest) a w := by
 obtain ⟨i, hi, hz, h1, h2⟩ := info_parts info65
 refine wpList_append_P w hgd s y 22 hop B 68 4 56 i _ Tryz.underlying22 hi hz h1 h2 rfl (by decide) v x (zs.map IRec.cells) (more.map IRec.cells) hs hy (irec_len _) (irec_len _) (irec_one _) ho hx ?_ ?_ hB ?_
 · rw [lM, lM]; unfold maxLen; omega
 · rw [lM, lM]; omega
 · intro v' w' hg; rw [← List.map_append] at hg; exact h v' w' hg
theorem app88 {w : World} {ops : Array Oper} {rest : List Oper} {o : Oper} {a : Act} {Q : Exit → Act → World → Prop} (hgd : o.guard = none) (s y : Operand)
 (hop : o.op = .call { callee := .builtin .append, args := #[s, y], argTypes := #[23, 23] }) (B : Nat) (v x : Value) (zs more : List PDesc) (hs : a.eval s = v) (hy : a.eval y = x) (ho : OwnP B w 95 3 v (zs.map PDesc.cells)) (hx : RowAt w 3 x (more.map PDesc.cells)) (hl : zs.length + more.length ≤ 1000000000000) (hB : B ≤ w.heap.size)
 (h : ∀ v' w', Grew B 95 3 w v ((zs ++ more).map PDesc.cells) v' w' → wpList Tryz.prog ops Q rest (a.put o.dst v') w') :
 wpList Tryz.prog ops Q (o :: rest) a w := by
 obtain ⟨i, hi, hz, h1, h2⟩ := info_parts info88
 refine wpList_append_P w hgd s y 23 hop B 95 3 24 i _ Tryz.underlying23 hi hz h1 h2 rfl (by decide) v x (zs.map PDesc.cells) (more.map PDesc.cells) hs hy (pdesc_len _) (pdesc_len _) (pdesc_one _) ho hx ?_ ?_ hB ?_
 · rw [lM, lM]; unfold maxLen; omega
 · rw [lM, lM]; omega
 · intro v' w' hg; rw [← List.map_append] at hg; exact h v' w' hg
theorem app3 {w : World} {ops : Array Oper} {rest : List Oper} {o : Oper} {a : Act} {Q : Exit → Act → World → Prop} (hgd : o.guard = none) (s y : Operand)
 (hop : o.op = .call { callee := .builtin .append, args := #[s, y], argTypes := #[24, 24] }) (B : Nat) (v x : Value) (zs more : List Int) (hs : a.eval s = v) (hy : a.eval y = x) (ho : OwnP B w 3 1 v (zs.map intCells)) (hx : RowAt w 1 x (more.map intCells)) (hl : zs.length + more.length ≤ 1000000000000) (hB : B ≤ w.heap.size)
 (h : ∀ v' w', Grew B 3 1 w v ((zs ++ more).map intCells) v' w' → wpList Tryz.prog ops Q rest (a.put o.dst v') w') :
 wpList Tryz.prog ops Q (o :: rest) a w := by
 obtain ⟨i, hi, hz, h1, h2⟩ := info_parts info3
 refine wpList_append_P w hgd s y 24 hop B 3 1 8 i _ Tryz.underlying24 hi hz h1 h2 rfl (by decide) v x (zs.map intCells) (more.map intCells) hs hy (int_len _) (int_len _) (int_one _) ho hx ?_ ?_ hB ?_
 · rw [lM, lM]; unfold maxLen; omega
 · rw [lM, lM]; omega
 · intro v' w' hg; rw [← List.map_append] at hg; exact h v' w' hg
theorem app9 {w : World} {ops : Array Oper} {rest : List Oper} {o : Oper} {a : Act} {Q : Exit → Act → World → Prop} (hgd : o.guard = none) (s y : Operand)
 (hop : o.op = .call { callee := .builtin .append, args := #[s, y], argTypes := #[50, 50] }) (B : Nat) (v x : Value) (zs more : List ByteArray) (hs : a.eval s = v) (hy : a.eval y = x) (ho : OwnP B w 9 1 v (zs.map (fun n => [Value.string n]))) (hx : RowAt w 1 x (more.map (fun n => [Value.string n]))) (hl : zs.length + more.length ≤ 1000000000000) (hB : B ≤ w.heap.size)
 (h : ∀ v' w', Grew B 9 1 w v ((zs ++ more).map (fun n => [Value.string n])) v' w' → wpList Tryz.prog ops Q rest (a.put o.dst v') w') :
 wpList Tryz.prog ops Q (o :: rest) a w := by
 obtain ⟨i, hi, hz, h1, h2⟩ := info_parts info9
 refine wpList_append_P w hgd s y 50 hop B 9 1 16 i _ Tryz.underlying50 hi hz h1 h2 rfl (by decide) v x (zs.map (fun n => [Value.string n])) (more.map (fun n => [Value.string n])) hs hy (str_len _) (str_len _) (str_one _) ho hx ?_ ?_ hB ?_
 · rw [lM, lM]; unfold maxLen; omega
 · rw [lM, lM]; omega
 · intro v' w' hg; rw [← List.map_append] at hg; exact h v' w' hg
theorem OwnP.below {B : Nat} {w w' : World} {e : TypeId} {k : Nat} {v : Value} {rows : List (List Value)} (h : OwnP B w e k v rows) (hb : Below w.heap.size w w') : OwnP B w' e k v rows := h.keep (Keep.of_below hb (fun _ => False)) (fun _ _ h => h)
theorem Grew.on {B : Nat} {e : TypeId} {k : Nat} {w w' : World} {v v' : Value} {rows rows' : List (List Value)} (h : Grew B e k w v rows v' w') (ho : OwnP B w e k v rows') (hB : B ≤ w.heap.size) : Below B w w' := h.2.1.below hB (fun i hi hg => by have := ho.ge hg; omega)
theorem OwnP.formL {B : Nat} {w : World} {e : TypeId} {k : Nat} {v : Value} {rows : List (List Value)} (h : OwnP B w e k v rows) : ∃ a c, v = .slice a rows.length c := by
 rcases h with ⟨rfl, rfl⟩ | ⟨g, cap, arr, rfl, _⟩
 · exact ⟨_, _, rfl⟩
 · exact ⟨_, _, rfl⟩
theorem StOwn.ins_form {B : Nat} {w : World} {iv ov mv : Value} {S : PSt} (h : StOwn B w iv ov mv S) (h0 : 0 < S.ins.length) : ∃ bi cap, iv = .slice (some ⟨bi, 0, none⟩) S.ins.length cap := by
 obtain ⟨_, _, is, h3, h4, _⟩ := h
 rcases h3 with ⟨_, h1⟩ | ⟨g, cap, arr, rfl, _⟩
 · rw [List.map_eq_nil_iff] at h1; rw [h1] at h4; simp at h4; omega
 · exact ⟨g, cap, by rw [lM, h4]⟩
theorem StOwn.ins_thaw {B : Nat} {w w1 : World} {bi cap K : Nat} {ov mv : Value} {S : PSt} (h : StOwn B w (.slice (some ⟨bi, 0, none⟩) S.ins.length cap) ov mv S) (hK : K < S.ins.length) (hb : Below w.heap.size w w1) : w1.frozen? ⟨bi, K * 4 + 2, none⟩ = false := by
 obtain ⟨_, _, is, h3, h4, _⟩ := h
 have h3 := h3.below hb
 rcases h3 with ⟨h1, _⟩ | ⟨g, cap, arr, he, _, hbk, _⟩
 · cases h1
 · simp only [Value.slice.injEq, Option.some.injEq, Addr.mk.injEq] at he; obtain ⟨⟨rfl, -, -⟩, -, -⟩ := he; exact hbk.frozen _
theorem put97 (B b : Nat) (S : PSt) (iv ov mv : Value) (dir num : Int) (name : ByteArray) (K : Nat) (x : PIn) (w : World) (hb : Blk w b #[iv, ov, mv] 26) (ho : StOwn B w iv ov mv S) (hB : B ≤ w.heap.size) (hwf : S.wf) (hns : name.size ≤ 1000000000) (hat : atR S dir = K) (hx : S.ins[K]? = some x) :
 Calls Tryz.prog 122 #[.pointer (some ⟨b, 0, none⟩), .int .i64 dir, .string name, .int .i64 num] w fun e w' => e = .returned (.tuple #[]) ∧ Below B w w' ∧ Keep (InEn w) w w' ∧ StOwn B w' iv ov mv (S.ents K x (insF (fun e => belowR name e.name) ⟨name, num⟩ x.ents false [])) := by
 obtain ⟨hKl, -⟩ := gI.1 hx
 obtain ⟨bi, cap, rfl⟩ := ho.ins_form (by omega)
 have h51 : ∀ ww, Below w.heap.size w ww → Calls Tryz.prog 85 #[.agg #[.slice (some ⟨bi, 0, none⟩) S.ins.length cap, ov, mv], .int .i64 dir] ww fun e w' => e = .returned (.int .i64 (K : Int)) ∧ Below ww.heap.size ww w' := fun ww hb => by
  have := at51 S _ ov mv dir ww (ho.read.below hb (Nat.le_refl _)) hwf.1; rw [hat] at this; exact this
 obtain ⟨a, cap', e1, hai⟩ := ho.read.ins_at2
 cases e1
 obtain ⟨bi', oi, ev, he, iI0, hoi, her, hci⟩ := hai K x hx
 cases he
 obtain ⟨iI, -, -, x2, -⟩ := hci w (Below.refl _ _)
 rw [Nat.zero_add] at x2
 have HX2 := Lib.hid x2
 have hel := (hwf.2.2.2.1 x (mG hx)).2.1
 obtain ⟨ae, ce, rfl, hae⟩ := her.at_
 rw [lM] at x2
 have iL := hb.lt
 have s0 := hb.cell 0
 have s1 := hb.cell 1
 have s2 := hb.cell 2
 simp at s0 s1 s2
 have hone := ho.1.one
 have hone2 := ho.2.1.one
 obtain ⟨ao, co, rfl⟩ := ho.1.formL
 obtain ⟨am, cm, rfl⟩ := ho.2.1.formL
 simp only [lM] at h51 s1 s2
 have hKI : (K : Int) < S.ins.length := by omega
 have H := Lib.hid (And.intro ho (And.intro hx hb))
 obtain ⟨xn, xd, xe, xs⟩ := x
 simp only at x2 hae hel ⊢
 obtain ⟨R, hR⟩ : ∃ R, insF (fun e => belowR name e.name) ⟨name, num⟩ xe false [] = R := ⟨_, rfl⟩
 rw [hR]
 have HR := Lib.hid hR
 have HA := Lib.hid hae
 have hst : ∀ w2, Below w.heap.size w w2 → BlockLt bi w2 ∧ w2.cell? ⟨bi, K * 4 + 2, none⟩ = some (.slice ae xe.length ce) := by
  intro w2 h2; obtain ⟨i2, -, -, y2, -⟩ := hci w2 h2; rw [Nat.zero_add, lM] at y2; exact ⟨i2, y2⟩
 have HST := Lib.hid hst
 clear hst
 clear ho hx hb her hai hoi hci hR hae hone hone2 hat
 go_enter Tryz.func122, Tryz.ntmps122
 go_upto_region 0 with fail
 refine wp_region_quiet_rest (by kernel_rfl) (by kernel_rfl) (WQ.out ?_)
 repeat
  refine WQ_step (fun K hK => ?_); go_simp
  first
   | (refine hK _ ?_; clear hK K)
   | (apply Exists.intro
      refine ⟨fun _ => ?_, hK _ ?_⟩
      focus ((with_reducible first | refine cI (h51 _ (bel _ _)) | refine cJ (h51 _ (bel _ _))))
      clear hK K)
 refine WN fun p => ?_
 go_wp2_with fail
 go_loopw [9, 10, 11] (fun v9 v10 i wr => ∃ (q : Nat) (d : Bool) (zs : List PEnt), i = .int .i64 q ∧ v10 = .bool d ∧ q ≤ xe.length ∧ zs.length ≤ 2 * q ∧ OwnP w.heap.size wr 97 2 v9 (zs.map PEnt.cells) ∧ insF (fun e => belowR name e.name) ⟨name, num⟩ (xe.drop q) d zs = R ∧ Below w.heap.size w wr) (fun _ _ i _ => (xe.length - intOf i).toNat)
 case atStart => exact ⟨0, false, [], rfl, rfl, by omega, by simp, .inl ⟨rfl, rfl⟩, HR.out, bel _ _⟩
 case round =>
  obtain ⟨q, d, zs, rfl, rfl, hq, hzl, hO, hre, hbw⟩ := hrel; have iB : Bel w wr := ⟨hbw⟩
  obtain ⟨iI2, y2⟩ := HST.out wr hbw; obtain ⟨va, vc, rfl⟩ := hO.formL; generalize hzn : (zs.map PEnt.cells).length = zn at hO ⊢; have HO := Lib.hid (And.intro hO hzn); clear hO hzn; by_cases hlt : q < xe.length
  · obtain ⟨z, hz⟩ : ∃ z, xe[q]? = some z := ⟨_, gE hlt⟩
    rw [insF_drop _ _ _ q z d zs hz] at hre; obtain ⟨be, oe, rfl, iE0, iE, hce⟩ := HA.out wr hbw q z.cells (by rw [gM, hz]; rfl); have c0 := hce 0 _ rfl; have c1 := hce 1 _ rfl; rw [Nat.add_zero] at c0; have hltI : (q : Int) < xe.length := by omega
    have hcz : ∀ w2, Below w.heap.size w w2 → BlockLt be w2 ∧ w2.cell? ⟨be, oe + q * 2, none⟩ = some (.string z.name) ∧ w2.cell? ⟨be, oe + q * 2 + 1, none⟩ = some (.int .i64 z.num) := by
     intro w2 h2; obtain ⟨be', oe', he, _, i2, hc⟩ := HA.out w2 h2 q z.cells (by rw [gM, hz]; rfl); cases he; exact ⟨i2, hc 0 _ rfl, hc 1 _ rfl⟩
    have HCZ := Lib.hid hcz; clear hce hz hcz; rcases d with _ | _
    · rw [if_neg (by decide)] at hre; have h53 : ∀ ww, Calls Tryz.prog 81 #[.string name, .string z.name] ww fun e w' => e = .returned (.bool (belowR name z.name)) ∧ Below ww.heap.size ww w' := fun ww => below53 name z.name (by omega) ww
      generalize belowR name z.name = t at hre h53; rcases t with _ | _
      · rw [if_neg (by decide)] at hre; have HRE := Lib.hid hre; clear hre; go_wp2_with (first | (go_at_call 81; with_reducible refine aT (h53 _) fun p => ?_) | (at_builtin; refine app99 rfl (.tmp 51) (.tmp 59) rfl w.heap.size _ _ zs [z] rfl (by go_simp) (HO.out.1.below (bel wr _)) (RowAt.single (Blk.new_i _ _ _ _) 2 1) (by simp; omega) (bel w _).size ?_))
        intro v' w' hg; have hbg := hg.on (HO.out.1.below (bel wr _)) (bel w _).size; have hb2 := (bel w _).trans hbg; have hO2 : OwnP w.heap.size w' 97 2 v' ((zs ++ [z]).map PEnt.cells) := by have := hg.1; simpa using this
        have H2 := Lib.hid (And.intro hO2 hb2); clear hg hbg hO2 hb2; go_wp2_with fail
        go_roundw
        case rel => exact ⟨q + 1, false, _, by go_num, rfl, by omega, by simp; omega, H2.out.1, HRE.out, H2.out.2⟩
        case measure => simp [intOf]; omega
      · rw [if_pos rfl] at hre; have HRE := Lib.hid hre; clear hre; go_wp2_with (first | (go_at_call 81; with_reducible refine aT (h53 _) fun p => ?_) | (at_builtin; refine app99 rfl (.tmp 45) (.tmp 49) rfl w.heap.size _ _ zs [⟨name, num⟩] rfl (by go_simp) (HO.out.1.below (bel wr _)) (RowAt.single (Blk.new_i _ _ _ _) 2 1) (by simp; omega) (bel w _).size ?_))
        intro v' w' hg; have hbg := hg.on (HO.out.1.below (bel wr _)) (bel w _).size; have hb2 := (bel w _).trans hbg; have hO2 : OwnP w.heap.size w' 97 2 v' ((zs ++ [(⟨name, num⟩ : PEnt)]).map PEnt.cells) := by have := hg.1; simpa using this
        have i2 : Bel w w' := ⟨hb2⟩
        have H2 := Lib.hid hO2; obtain ⟨iE2, d0, d1⟩ := HCZ.out w' hb2; obtain ⟨iI3, z2⟩ := HST.out w' hb2; clear hg hbg hO2 hb2 c0 c1 iE y2 iI2; go_wp2_with (at_builtin; refine app99 rfl (.tmp 51) (.tmp 59) rfl w.heap.size _ _ (zs ++ [(⟨name, num⟩ : PEnt)]) [z] rfl (by go_simp) (H2.out.below (bel w' _)) (RowAt.single (Blk.new_i _ _ _ _) 2 1) (by simp; omega) (bel w _).size ?_)
        intro v' w'' hg; have hbg := hg.on (H2.out.below (bel w' _)) (bel w _).size; have hb2 := (bel w _).trans hbg; have hO2 : OwnP w.heap.size w'' 97 2 v' ((zs ++ [(⟨name, num⟩ : PEnt)] ++ [z]).map PEnt.cells) := by have := hg.1; simpa using this
        have H3 := Lib.hid (And.intro hO2 hb2); clear hg hbg hO2 hb2; go_wp2_with fail
        go_roundw
        case rel => exact ⟨q + 1, true, _, by go_num, rfl, by omega, by simp; omega, H3.out.1, HRE.out, H3.out.2⟩
        case measure => simp [intOf]; omega
    · rw [if_pos rfl] at hre; have HRE := Lib.hid hre; clear hre; go_wp2_with (at_builtin; refine app99 rfl (.tmp 51) (.tmp 59) rfl w.heap.size _ _ zs [z] rfl (by go_simp) (HO.out.1.below (bel wr _)) (RowAt.single (Blk.new_i _ _ _ _) 2 1) (by simp; omega) (bel w _).size ?_)
      intro v' w' hg; have hbg := hg.on (HO.out.1.below (bel wr _)) (bel w _).size; have hb2 := (bel w _).trans hbg; have hO2 : OwnP w.heap.size w' 97 2 v' ((zs ++ [z]).map PEnt.cells) := by have := hg.1; simpa using this
      have H2 := Lib.hid (And.intro hO2 hb2); clear hg hbg hO2 hb2; go_wp2_with fail
      go_roundw
      case rel => exact ⟨q + 1, true, _, by go_num, rfl, by omega, by simp; omega, H2.out.1, HRE.out, H2.out.2⟩
      case measure => simp [intOf]; omega
  · rw [insF_end _ _ _ q d zs hlt] at hre; have hltI : ¬ (q : Int) < xe.length := by omega
    have hfin : ∀ (w1 : World) (v : Value), OwnP w.heap.size w1 97 2 v (R.map PEnt.cells) → Below w.heap.size w w1 → Below B w (w1.setCell ⟨bi, K * 4 + 2, none⟩ v) ∧ Keep (InEn w) w (w1.setCell ⟨bi, K * 4 + 2, none⟩ v) ∧ StOwn B (w1.setCell ⟨bi, K * 4 + 2, none⟩ v) (.slice (some ⟨bi, 0, none⟩) S.ins.length cap) (.slice ao (S.op.map PDesc.cells).length co) (.slice am (S.made.map intCells).length cm) (S.ents K ⟨xn, xd, xe, xs⟩ R) := by
     intro w1 v h1 h2; obtain ⟨ho, hx, hb⟩ := H.out; obtain ⟨r1, r2, r3⟩ := ho.setEnts hx HX2.out (h1.mono hB) (Keep.of_below h2 _) (fun k hk => .inr (h1.ge hk)) hB; exact ⟨r2, r3, r1⟩
    have HFIN := Lib.hid hfin; clear hfin; rcases d with _ | _
    · rw [if_neg (by decide)] at hre; have HRE := Lib.hid hre; clear hre; go_wp2_with (at_builtin; refine app99 rfl (.tmp 63) (.tmp 67) rfl w.heap.size _ _ zs [⟨name, num⟩] rfl (by go_simp) (HO.out.1.below (bel wr _)) (RowAt.single (Blk.new_i _ _ _ _) 2 1) (by simp; omega) (bel w _).size ?_)
      intro v' w' hg; have hbg := hg.on (HO.out.1.below (bel wr _)) (bel w _).size; have hb2 := (bel w _).trans hbg; have i2 : Bel w w' := ⟨hb2⟩
      obtain ⟨iI3, z2⟩ := HST.out w' hb2; have hO2 : OwnP w.heap.size w' 97 2 v' ((zs ++ [(⟨name, num⟩ : PEnt)]).map PEnt.cells) := by have := hg.1; simpa using this
      rw [HRE.out] at hO2; have hf := HFIN.out w' v' hO2 hb2; obtain ⟨va2, vc2, rfl⟩ := hO2.formL; generalize (R.map PEnt.cells).length = zn2 at hf ⊢; have HF := Lib.hid hf; have hfz := H.out.1.ins_thaw hKl hb2; clear hg hbg hO2 hb2 hf; go_wp2_with fail; exact bodyPost_end (v := .tuple #[]) (by simp [results, go_sem]) rfl ⟨rfl, by have := HF.out; first | exact this | (simp only [lM] at this; exact this)⟩
    · rw [if_pos rfl] at hre; subst hre; have hf := HFIN.out wr _ HO.out.1 hbw; have HF := Lib.hid hf; have hfz := H.out.1.ins_thaw hKl hbw; clear hf; go_wp2_with fail; exact bodyPost_end (v := .tuple #[]) (by simp [results, go_sem]) rfl ⟨rfl, by have := HF.out; first | exact this | (simp only [lM] at this; exact this)⟩
def p1 (c : UInt8) : ByteArray := ⟨#[47, c]⟩
def n1 (c : UInt8) : ByteArray := ⟨#[c]⟩
theorem fullF_drop (b : Int) (but : ByteArray) (es : List PEnt) (q : Nat) (e : PEnt) (a : Int) (h : es[q]? = some e) : fullF b but (es.drop q) a = fullF b but (es.drop (q + 1)) (if (!(e.name.toList == but.toList) && bucketR e.name == b) = true then a + 1 else a) := by
 obtain ⟨hl, rfl⟩ := gI.1 h
 rw [List.drop_eq_getElem_cons hl, fullF]
theorem fullF_end (b : Int) (but : ByteArray) (es : List PEnt) (q : Nat) (a : Int) (h : ¬ q < es.length) : fullF b but (es.drop q) a = a := by
 rw [List.drop_of_length_le (by omega), fullF]
theorem full96 (S : PSt) (iv ov mv : Value) (dir : Int) (name but : ByteArray) (K : Nat) (x : PIn) (w : World) (h : StRead w iv ov mv S) (hwf : S.wf) (hat : atR S dir = K) (hx : S.ins[K]? = some x) (hns : name.size ≤ 1000000000) (hes : ∀ e ∈ x.ents, e.name.size ≤ 1000000000) :
 Calls Tryz.prog 121 #[.agg #[iv, ov, mv], .int .i64 dir, .string name, .string but] w fun e w' => e = .returned (.bool (decide (4 ≤ fullF (bucketR name) but x.ents 0))) ∧ Below w.heap.size w w' := by
 have h51 : ∀ ww, Below w.heap.size w ww → Calls Tryz.prog 85 #[.agg #[iv, ov, mv], .int .i64 dir] ww fun e w' => e = .returned (.int .i64 (K : Int)) ∧ Below ww.heap.size ww w' := fun ww hb => by
  have := at51 S iv ov mv dir ww (h.below hb (Nat.le_refl _)) hwf.1; rw [hat] at this; exact this
 obtain ⟨ai, ni, ci, ao, no, co, am, nm', cm, rfl, rfl, rfl⟩ := h.slices
 obtain ⟨a, cap', e1, hai⟩ := h.ins_at2
 cases e1
 obtain ⟨bi, oi, ev, rfl, iI0, hoi, her, hci⟩ := hai K x hx
 have HCI := Lib.hid hci
 obtain ⟨hxl, -⟩ := gI.1 hx
 have hxlI : (K : Int) < S.ins.length := by omega
 have hel := (hwf.2.2.2.1 x (mG hx)).2.1
 obtain ⟨ae, ce, rfl, hae⟩ := her.at_
 rw [lM] at HCI
 have HA := Lib.hid hae
 obtain ⟨R, hR⟩ : ∃ R, fullF (bucketR name) but x.ents 0 = R := ⟨_, rfl⟩
 rw [hR]
 have HR := Lib.hid hR
 have HES := Lib.hid hes
 obtain ⟨xn, xd, xe, xs⟩ := x
 simp only at HCI HA HR HES hel
 obtain ⟨iI, x0, x1, x2, x3⟩ := HCI.out w (Below.refl _ _)
 clear h hai her hoi hci hx hwf hae hR hes
 go_enter Tryz.func121, Tryz.ntmps121
 go_upto_region 2 with fail
 go_cut [10] (fun v10 wx => ∃ g, v10 = .pointer (some ⟨g, 0, none⟩) ∧ Below w.heap.size w wx ∧ Blk wx g #[.int .i64 xn, .bool xd, .slice ae xe.length ce, .string xs] 68)
 case first =>
  go_region_held3 (fun w' => w'.cell? ⟨w.heap.size, 0, none⟩ = some (.slice (some ⟨bi, oi, none⟩) S.ins.length ci) ∧ w'.cell? ⟨w.heap.size, 1, none⟩ = some (.slice ao no co) ∧ w'.cell? ⟨w.heap.size, 2, none⟩ = some (.slice am nm' cm) ∧ w'.cell? ⟨bi, oi + K * 4, none⟩ = some (.int .i64 xn) ∧ w'.cell? ⟨bi, oi + K * 4 + 1, none⟩ = some (.bool xd) ∧ w'.cell? ⟨bi, oi + K * 4 + 2, none⟩ = some (.slice ae xe.length ce) ∧ w'.cell? ⟨bi, oi + K * 4 + 3, none⟩ = some (.string xs))
   (first | (try dsimp only) <;> (repeat' apply And.intro) <;> go_simp)
   (first | (go_at_call 85; refine aT (h51 _ (bel _ _)) fun p => ?_))
  all_goals go_wp2_with fail
  all_goals go_meet
  all_goals (refine ⟨_, rfl, bel _ _, ?_⟩)
  all_goals (repeat (first | exact Blk.new_i _ _ _ _ | refine Blk.alloc ?_ _ | refine Blk.junk ?_ _ | refine Blk.drew ?_))
 case rest =>
  obtain ⟨g, rfl, hbc, hG⟩ := hcut; have HG := Lib.hid (And.intro hG hbc); clear x0 x1 x2 x3 iI hG hbc h51; go_wp2_with fail
  go_loopw [9, 11] (fun v9 i wr => ∃ (q : Nat) (a : Int), i = .int .i64 q ∧ v9 = .int .i64 a ∧ q ≤ xe.length ∧ 0 ≤ a ∧ a ≤ q ∧ fullF (bucketR name) but (xe.drop q) a = R ∧ Below w.heap.size w wr ∧ Blk wr g #[.int .i64 xn, .bool xd, .slice ae xe.length ce, .string xs] 68) (fun _ i _ => (xe.length - intOf i).toNat)
  case atStart => exact ⟨0, 0, rfl, rfl, by omega, by omega, by omega, HR.out, HG.out.2, HG.out.1⟩
  case round =>
   obtain ⟨q, a, rfl, rfl, hq, ha0, haq, hre, hb, hG⟩ := hrel; have iB : Bel w wr := ⟨hb⟩
   have iG := hG.lt; have g2 := hG.cell 2; simp at g2; have HG2 := Lib.hid hG; clear hG; by_cases hlt : q < xe.length
   · obtain ⟨z, hz⟩ : ∃ z, xe[q]? = some z := ⟨_, gE hlt⟩
     rw [fullF_drop _ _ _ q z a hz] at hre; obtain ⟨be, oe, rfl, iE0, iE, hce⟩ := HA.out wr hb q z.cells (by rw [gM, hz]; rfl); have c0 := hce 0 _ rfl; rw [Nat.add_zero] at c0; have hltI : (q : Int) < xe.length := by omega
     have hz9 := HES.out z (mG hz); have h35 : ∀ ww, Calls Tryz.prog 87 #[.string z.name] ww fun e w' => e = .returned (.int .i64 (bucketR z.name)) ∧ Below ww.heap.size ww w' := fun ww => bucket35 z.name hz9 ww
     have h35n : ∀ ww, Calls Tryz.prog 87 #[.string name] ww fun e w' => e = .returned (.int .i64 (bucketR name)) ∧ Below ww.heap.size ww w' := fun ww => bucket35 name hns ww
     generalize hzn : z.name = zn at *; generalize hb1 : (zn.toList == but.toList) = b1 at hre; generalize bucketR zn = k1 at hre h35; generalize bucketR name = k2 at hre h35n; have w1 : IntKind.i64.wrap (a + 1) = a + 1 := I64.wrap ⟨by omega, by omega⟩; clear hce hz hz9; rcases b1 with _ | _
     · by_cases hk : k1 = k2
       · have hkb : (k1 == k2) = true := by simpa using hk
         rw [hkb] at hre; have hre : fullF k2 but (xe.drop (q + 1)) (a + 1) = R := hre; have HRE := Lib.hid hre; clear hre hk; go_wp2_with (first | (go_at_call 87; with_reducible refine aT (h35 _) fun p => ?_) | (go_at_call 87; with_reducible refine aT (h35n _) fun p => ?_))
         go_roundw
         case rel => exact ⟨q + 1, a + 1, by go_num, by go_num, by omega, by omega, by omega, HRE.out, bel _ _, (Keep.of_below (bel wr _) (fun _ => False)).blk HG2.out (fun h => h)⟩
         case measure => simp [intOf]; omega
       · have hkb : (k1 == k2) = false := by simpa using hk
         rw [hkb] at hre; have hre : fullF k2 but (xe.drop (q + 1)) a = R := hre; have HRE := Lib.hid hre; clear hre; go_wp2_with (first | (go_at_call 87; with_reducible refine aT (h35 _) fun p => ?_) | (go_at_call 87; with_reducible refine aT (h35n _) fun p => ?_))
         go_roundw
         case rel => exact ⟨q + 1, a, by go_num, rfl, by omega, by omega, by omega, HRE.out, bel _ _, (Keep.of_below (bel wr _) (fun _ => False)).blk HG2.out (fun h => h)⟩
         case measure => simp [intOf]; omega
     · have hre : fullF k2 but (xe.drop (q + 1)) a = R := hre; have HRE := Lib.hid hre; clear hre; go_wp2_with (first | (go_at_call 87; with_reducible refine aT (h35 _) fun p => ?_) | (go_at_call 87; with_reducible refine aT (h35n _) fun p => ?_))
       go_roundw
       case rel => exact ⟨q + 1, a, by go_num, rfl, by omega, by omega, by omega, HRE.out, bel _ _, (Keep.of_below (bel wr _) (fun _ => False)).blk HG2.out (fun h => h)⟩
       case measure => simp [intOf]; omega
   · rw [fullF_end _ _ _ q a hlt] at hre; subst hre; have hltI : ¬ (q : Int) < xe.length := by omega
     go_wp2_with fail; exact bodyPost_ret (v := .bool (decide (4 ≤ a))) (by simp [results, Tryz.results121, go_sem]) rfl ⟨rfl, bel _ _⟩
def resV (code fd num : Int) : Value := .agg #[.int .i64 code, .int .i64 fd, .int .i64 num, .bool false, .string { data := #[] }, .slice none 0 0]
theorem fail55 (k : Int) (w : World) : Calls Tryz.prog 92 #[.int .i64 k] w fun e w' => e = .returned (resV k 0 0) ∧ Below w.heap.size w w' := by
 go_enter Tryz.func92, Tryz.ntmps92
 go_wp2_with fail
 exact bodyPost_ret (v := resV k 0 0) (by simp [results, Tryz.results92, go_sem, resV]) rfl ⟨rfl, bel _ _⟩
theorem StOwn.on {B : Nat} {w w1 : World} {iv ov mv : Value} {S : PSt} (h : StOwn B w iv ov mv S) (hb : Below w.heap.size w w1) : StOwn B w1 iv ov mv S := h.keep (Keep.of_below hb (fun _ => False)) (fun _ h => h.elim)
theorem StOwn.setOp {B : Nat} {w : World} {iv ov ov' mv : Value} {S : PSt} {zs : List PDesc} (h : StOwn B w iv ov mv S) (ho : OwnP B w 95 3 ov' (zs.map PDesc.cells)) : StOwn B w iv ov' mv { S with op := zs } := ⟨ho, h.2⟩
def aheadD (core fd : Int) (o : PDesc) : Bool := decide (core < o.core) || ((o.core == core) && decide (fd < o.fd))
theorem grab100 (B b : Nat) (S : PSt) (iv ov mv : Value) (core fd num : Int) (w : World) (hb : Blk w b #[iv, ov, mv] 26) (ho : StOwn B w iv ov mv S) (hB : B ≤ w.heap.size) (hBb : B ≤ b) (hol : S.op.length ≤ 1000000000) :
 Calls Tryz.prog 123 #[.pointer (some ⟨b, 0, none⟩), .int .i64 core, .int .i64 fd, .int .i64 num] w fun e w' => e = .returned (.tuple #[]) ∧ Below B w w' ∧ Keep (fun g => g = b) w w' ∧ ∃ ov', Blk w' b #[iv, ov', mv] 26 ∧ StOwn B w' iv ov' mv { S with op := insF (aheadD core fd) ⟨core, fd, num⟩ S.op false [] } := by
 have hone := ho.2.1.one
 obtain ⟨ai, ni, ci, ao, no, co, am, nm', cm, rfl, rfl, rfl⟩ := ho.read.slices
 obtain ⟨a, cap', e1, hat⟩ := ho.read.1.at_
 rw [lM] at e1
 cases e1
 have HA := Lib.hid hat
 obtain ⟨R, hR⟩ : ∃ R, insF (aheadD core fd) ⟨core, fd, num⟩ S.op false [] = R := ⟨_, rfl⟩
 rw [hR]
 have HR := Lib.hid hR
 have hst : ∀ w2, Below w.heap.size w w2 → BlockLt b w2 ∧ w2.cell? ⟨b, 1, none⟩ = some (.slice ao S.op.length co) ∧ w2.frozen? ⟨b, 1, none⟩ = false := by
  intro w2 h2; have h3 := (Keep.of_below h2 (fun _ => False)).blk hb (fun h => h); have c1 := h3.cell 1; simp at c1; exact ⟨h3.lt, c1, h3.frozen 1⟩
 have HST := Lib.hid hst
 have HH := Lib.hid (And.intro hb ho)
 clear hat hR hst ho hb hone
 go_enter Tryz.func123, Tryz.ntmps123
 go_wp2_with fail
 go_loopw [9, 10, 11] (fun v9 v10 i wr => ∃ (q : Nat) (d : Bool) (zs : List PDesc), i = .int .i64 q ∧ v10 = .bool d ∧ q ≤ S.op.length ∧ zs.length ≤ 2 * q ∧ OwnP (w.heap.size + 1) wr 95 3 v9 (zs.map PDesc.cells) ∧ insF (aheadD core fd) ⟨core, fd, num⟩ (S.op.drop q) d zs = R ∧ Below w.heap.size w wr ∧ Blk wr w.heap.size #[.int .i64 core, .int .i64 fd, .int .i64 num] 95) (fun _ _ i _ => (S.op.length - intOf i).toNat)
 case atStart => exact ⟨0, false, [], rfl, rfl, by omega, by simp, .inl ⟨rfl, rfl⟩, HR.out, bel _ _, Blk.new w _ 95⟩
 case round =>
  obtain ⟨q, d, zs, rfl, rfl, hq, hzl, hO, hre, hbw, hd8⟩ := hrel; have iB : Bel w wr := ⟨hbw⟩
  have iD := hd8.lt; have hB1 : w.heap.size + 1 ≤ wr.heap.size := iD.lt; obtain ⟨iL, y1, yf⟩ := HST.out wr hbw; have e0 := hd8.cell 0; have e1 := hd8.cell 1; have e2 := hd8.cell 2; simp at e0 e1 e2; obtain ⟨va, vc, rfl⟩ := hO.formL; generalize hzn : (zs.map PDesc.cells).length = zn at hO ⊢; have HO := Lib.hid (And.intro hO (And.intro hzn hd8)); clear hO hzn hd8; by_cases hlt : q < S.op.length
  · obtain ⟨z, hz⟩ : ∃ z, S.op[q]? = some z := ⟨_, gE hlt⟩
    rw [insF_drop _ _ _ q z d zs hz] at hre; obtain ⟨be, oe, rfl, iE0, iE, hce⟩ := HA.out wr hbw q z.cells (by rw [gM, hz]; rfl); have c0 := hce 0 _ rfl; have c1 := hce 1 _ rfl; have c2 := hce 2 _ rfl; rw [Nat.add_zero] at c0; have hltI : (q : Int) < S.op.length := by omega
    clear hce hz; obtain ⟨zc, zf, zm⟩ := z; simp only at c0 c1 c2; rcases d with _ | _
    · rw [if_neg (by decide)] at hre; by_cases hA : core < zc
      · have ha : aheadD core fd ⟨zc, zf, zm⟩ = true := by simp [aheadD, hA]
        rw [ha, if_pos rfl] at hre; have HRE := Lib.hid hre; have hcz : ∀ w2, Below w.heap.size w w2 → BlockLt be w2 := by
         intro w2 h2; exact ⟨Nat.lt_of_lt_of_le iE0.lt h2.size⟩
        clear hre; go_wp2_with (at_builtin; refine app88 rfl (.tmp 53) (.tmp 55) rfl (w.heap.size + 1) _ _ zs [⟨core, fd, num⟩] rfl (by go_simp) (HO.out.1.below (bel wr _)) (RowAt.single (Blk.new_i _ _ _ _) 3 1) (by simp; omega) (Nat.le_trans hB1 (bel wr _).size) ?_)
        intro v' w' hg; have hbg := hg.on (HO.out.1.below (bel wr _)) (Nat.le_trans hB1 (bel wr _).size); have hb2 := (bel w _).trans (hbg.mono (Nat.le_succ _)); have hO2 : OwnP (w.heap.size + 1) w' 95 3 v' ((zs ++ [(⟨core, fd, num⟩ : PDesc)]).map PDesc.cells) := by have := hg.1; simpa using this
        have hd2 := hg.2.1.blk ((Keep.of_below (bel wr _) (fun _ => False)).blk HO.out.2.2 (fun h => h)) (fun h => by have := HO.out.1.ge h; omega); have hz2 := hg.2.1.blk (Blk.alloc (Blk.new_i wr #[.int .i64 zc, .int .i64 zf, .int .i64 zm] 95 wr.heap.size) _) (fun h => by have := HO.out.1.lt h; omega); have i2 : Bel w w' := ⟨hb2⟩
        have iD2 := hd2.lt; have iZ2 := hz2.lt; have f0 := hz2.cell 0; have f1 := hz2.cell 1; have f2 := hz2.cell 2; simp at f0 f1 f2; have hB2 : w.heap.size + 1 ≤ w'.heap.size := iD2.lt; have H2 := Lib.hid (And.intro hO2 hd2); clear hg hbg hO2 hd2 hz2 c0 c1 c2 iE e0 e1 e2 iD y1 yf iL; go_wp2_with (at_builtin; refine app88 rfl (.tmp 57) (.tmp 59) rfl (w.heap.size + 1) _ _ (zs ++ [(⟨core, fd, num⟩ : PDesc)]) [⟨zc, zf, zm⟩] rfl (by go_simp) (H2.out.1.below (bel w' _)) (RowAt.single (Blk.new_i _ _ _ _) 3 1) (by simp; omega) (Nat.le_trans hB2 (bel w' _).size) ?_)
        intro v2 w2 hg; have hbg := hg.on (H2.out.1.below (bel w' _)) (Nat.le_trans hB2 (bel w' _).size); have hb3 := (bel w _).trans (hbg.mono (Nat.le_succ _)); have hO3 : OwnP (w.heap.size + 1) w2 95 3 v2 ((zs ++ [(⟨core, fd, num⟩ : PDesc)] ++ [(⟨zc, zf, zm⟩ : PDesc)]).map PDesc.cells) := by have := hg.1; simpa using this
        have hd3 := hg.2.1.blk ((Keep.of_below (bel w' _) (fun _ => False)).blk H2.out.2 (fun h => h)) (fun h => by have := H2.out.1.ge h; omega); have H3 := Lib.hid (And.intro hO3 (And.intro hb3 hd3)); clear hg hbg hO3 hb3 hd3; go_wp2_with fail
        go_roundw
        case rel => exact ⟨q + 1, true, _, by go_num, rfl, by omega, by simp; omega, H3.out.1, HRE.out, H3.out.2.1, H3.out.2.2⟩
        case measure => simp [intOf]; omega
      · by_cases hC : zc = core
        · subst hC; by_cases hF : fd < zf
          · have ha : aheadD zc fd ⟨zc, zf, zm⟩ = true := by simp [aheadD, hF]
            rw [ha, if_pos rfl] at hre; have HRE := Lib.hid hre; have hcz : ∀ w2, Below w.heap.size w w2 → BlockLt be w2 := by
             intro w2 h2; exact ⟨Nat.lt_of_lt_of_le iE0.lt h2.size⟩
            clear hre; go_wp2_with (at_builtin; refine app88 rfl (.tmp 53) (.tmp 55) rfl (w.heap.size + 1) _ _ zs [⟨zc, fd, num⟩] rfl (by go_simp) (HO.out.1.below (bel wr _)) (RowAt.single (Blk.new_i _ _ _ _) 3 1) (by simp; omega) (Nat.le_trans hB1 (bel wr _).size) ?_)
            intro v' w' hg; have hbg := hg.on (HO.out.1.below (bel wr _)) (Nat.le_trans hB1 (bel wr _).size); have hb2 := (bel w _).trans (hbg.mono (Nat.le_succ _)); have hO2 : OwnP (w.heap.size + 1) w' 95 3 v' ((zs ++ [(⟨zc, fd, num⟩ : PDesc)]).map PDesc.cells) := by have := hg.1; simpa using this
            have hd2 := hg.2.1.blk ((Keep.of_below (bel wr _) (fun _ => False)).blk HO.out.2.2 (fun h => h)) (fun h => by have := HO.out.1.ge h; omega); have hz2 := hg.2.1.blk (Blk.alloc (Blk.new_i wr #[.int .i64 zc, .int .i64 zf, .int .i64 zm] 95 wr.heap.size) _) (fun h => by have := HO.out.1.lt h; omega); have i2 : Bel w w' := ⟨hb2⟩
            have iD2 := hd2.lt; have iZ2 := hz2.lt; have f0 := hz2.cell 0; have f1 := hz2.cell 1; have f2 := hz2.cell 2; simp at f0 f1 f2; have hB2 : w.heap.size + 1 ≤ w'.heap.size := iD2.lt; have H2 := Lib.hid (And.intro hO2 hd2); clear hg hbg hO2 hd2 hz2 c0 c1 c2 iE e0 e1 e2 iD y1 yf iL; go_wp2_with (at_builtin; refine app88 rfl (.tmp 57) (.tmp 59) rfl (w.heap.size + 1) _ _ (zs ++ [(⟨zc, fd, num⟩ : PDesc)]) [⟨zc, zf, zm⟩] rfl (by go_simp) (H2.out.1.below (bel w' _)) (RowAt.single (Blk.new_i _ _ _ _) 3 1) (by simp; omega) (Nat.le_trans hB2 (bel w' _).size) ?_)
            intro v2 w2 hg; have hbg := hg.on (H2.out.1.below (bel w' _)) (Nat.le_trans hB2 (bel w' _).size); have hb3 := (bel w _).trans (hbg.mono (Nat.le_succ _)); have hO3 : OwnP (w.heap.size + 1) w2 95 3 v2 ((zs ++ [(⟨zc, fd, num⟩ : PDesc)] ++ [(⟨zc, zf, zm⟩ : PDesc)]).map PDesc.cells) := by have := hg.1; simpa using this
            have hd3 := hg.2.1.blk ((Keep.of_below (bel w' _) (fun _ => False)).blk H2.out.2 (fun h => h)) (fun h => by have := H2.out.1.ge h; omega); have H3 := Lib.hid (And.intro hO3 (And.intro hb3 hd3)); clear hg hbg hO3 hb3 hd3; go_wp2_with fail
            go_roundw
            case rel => exact ⟨q + 1, true, _, by go_num, rfl, by omega, by simp; omega, H3.out.1, HRE.out, H3.out.2.1, H3.out.2.2⟩
            case measure => simp [intOf]; omega
          · have ha : aheadD zc fd ⟨zc, zf, zm⟩ = false := by simp [aheadD, hF]
            rw [ha, if_neg (by decide)] at hre; have HRE := Lib.hid hre; clear hre; go_wp2_with (at_builtin; refine app88 rfl (.tmp 57) (.tmp 59) rfl (w.heap.size + 1) _ _ zs [⟨zc, zf, zm⟩] rfl (by go_simp) (HO.out.1.below (bel wr _)) (RowAt.single (Blk.new_i _ _ _ _) 3 1) (by simp; omega) (Nat.le_trans hB1 (bel wr _).size) ?_)
            intro v' w' hg; have hbg := hg.on (HO.out.1.below (bel wr _)) (Nat.le_trans hB1 (bel wr _).size); have hb2 := (bel w _).trans (hbg.mono (Nat.le_succ _)); have hO2 : OwnP (w.heap.size + 1) w' 95 3 v' ((zs ++ [(⟨zc, zf, zm⟩ : PDesc)]).map PDesc.cells) := by have := hg.1; simpa using this
            have hd2 := hg.2.1.blk ((Keep.of_below (bel wr _) (fun _ => False)).blk HO.out.2.2 (fun h => h)) (fun h => by have := HO.out.1.ge h; omega); have H2 := Lib.hid (And.intro hO2 (And.intro hb2 hd2)); clear hg hbg hO2 hb2 hd2; go_wp2_with fail
            go_roundw
            case rel => exact ⟨q + 1, false, _, by go_num, rfl, by omega, by simp; omega, H2.out.1, HRE.out, H2.out.2.1, H2.out.2.2⟩
            case measure => simp [intOf]; omega
        · have hCb : (zc == core) = false := by simpa using hC
          have ha : aheadD core fd ⟨zc, zf, zm⟩ = false := by simp [aheadD, hA, hC]
          rw [ha, if_neg (by decide)] at hre; have HRE := Lib.hid hre; clear hre; go_wp2_with (at_builtin; refine app88 rfl (.tmp 57) (.tmp 59) rfl (w.heap.size + 1) _ _ zs [⟨zc, zf, zm⟩] rfl (by go_simp) (HO.out.1.below (bel wr _)) (RowAt.single (Blk.new_i _ _ _ _) 3 1) (by simp; omega) (Nat.le_trans hB1 (bel wr _).size) ?_)
          intro v' w' hg; have hbg := hg.on (HO.out.1.below (bel wr _)) (Nat.le_trans hB1 (bel wr _).size); have hb2 := (bel w _).trans (hbg.mono (Nat.le_succ _)); have hO2 : OwnP (w.heap.size + 1) w' 95 3 v' ((zs ++ [(⟨zc, zf, zm⟩ : PDesc)]).map PDesc.cells) := by have := hg.1; simpa using this
          have hd2 := hg.2.1.blk ((Keep.of_below (bel wr _) (fun _ => False)).blk HO.out.2.2 (fun h => h)) (fun h => by have := HO.out.1.ge h; omega); have H2 := Lib.hid (And.intro hO2 (And.intro hb2 hd2)); clear hg hbg hO2 hb2 hd2; go_wp2_with fail
          go_roundw
          case rel => exact ⟨q + 1, false, _, by go_num, rfl, by omega, by simp; omega, H2.out.1, HRE.out, H2.out.2.1, H2.out.2.2⟩
          case measure => simp [intOf]; omega
    · rw [if_pos rfl] at hre; have HRE := Lib.hid hre; clear hre; go_wp2_with (at_builtin; refine app88 rfl (.tmp 57) (.tmp 59) rfl (w.heap.size + 1) _ _ zs [⟨zc, zf, zm⟩] rfl (by go_simp) (HO.out.1.below (bel wr _)) (RowAt.single (Blk.new_i _ _ _ _) 3 1) (by simp; omega) (Nat.le_trans hB1 (bel wr _).size) ?_)
      intro v' w' hg; have hbg := hg.on (HO.out.1.below (bel wr _)) (Nat.le_trans hB1 (bel wr _).size); have hb2 := (bel w _).trans (hbg.mono (Nat.le_succ _)); have hO2 : OwnP (w.heap.size + 1) w' 95 3 v' ((zs ++ [(⟨zc, zf, zm⟩ : PDesc)]).map PDesc.cells) := by have := hg.1; simpa using this
      have hd2 := hg.2.1.blk ((Keep.of_below (bel wr _) (fun _ => False)).blk HO.out.2.2 (fun h => h)) (fun h => by have := HO.out.1.ge h; omega); have H2 := Lib.hid (And.intro hO2 (And.intro hb2 hd2)); clear hg hbg hO2 hb2 hd2; go_wp2_with fail
      go_roundw
      case rel => exact ⟨q + 1, true, _, by go_num, rfl, by omega, by simp; omega, H2.out.1, HRE.out, H2.out.2.1, H2.out.2.2⟩
      case measure => simp [intOf]; omega
  · rw [insF_end _ _ _ q d zs hlt] at hre; have hltI : ¬ (q : Int) < S.op.length := by omega
    have hfin : ∀ (w1 : World) (v : Value), OwnP (w.heap.size + 1) w1 95 3 v (R.map PDesc.cells) → Below w.heap.size w w1 → Below B w (w1.setCell ⟨b, 1, none⟩ v) ∧ Keep (fun g => g = b) w (w1.setCell ⟨b, 1, none⟩ v) ∧ ∃ ov', Blk (w1.setCell ⟨b, 1, none⟩ v) b #[.slice ai ni ci, ov', .slice am nm' cm] 26 ∧ StOwn B (w1.setCell ⟨b, 1, none⟩ v) (.slice ai ni ci) ov' (.slice am nm' cm) { S with op := R } := by
     intro w1 v h1 h2; obtain ⟨hb, ho⟩ := HH.out; have hb1 := (Keep.of_below h2 (fun _ => False)).blk hb (fun h => h); have hK : Keep (fun g => g = b) w1 (w1.setCell ⟨b, 1, none⟩ v) := Keep.setCell (S := fun g => g = b) (p := ⟨b, 1, none⟩) (Keep.refl _ _) (.inl rfl) _; have hK0 : Keep (fun g => g = b) w (w1.setCell ⟨b, 1, none⟩ v) := (Keep.of_below h2 (fun g => g = b)).trans hK (fun _ _ h => h); refine ⟨hK0.below hB (fun i hi h => by omega), hK0, v, hb1.set_ 1 v, ?_⟩; have h3 := (ho.on h2).setOp (h1.mono (by omega)); exact h3.keep hK (fun g hg => by rw [hg]; exact ⟨_, 26, hb1, by decide, by decide, by decide, by decide⟩)
    have HFIN := Lib.hid hfin; clear hfin; rcases d with _ | _
    · rw [if_neg (by decide)] at hre; have HRE := Lib.hid hre; clear hre; go_wp2_with (at_builtin; refine app88 rfl (.tmp 63) (.tmp 65) rfl (w.heap.size + 1) _ _ zs [⟨core, fd, num⟩] rfl (by go_simp) (HO.out.1.below (bel wr _)) (RowAt.single (Blk.new_i _ _ _ _) 3 1) (by simp; omega) (Nat.le_trans hB1 (bel wr _).size) ?_)
      intro v' w' hg; have hbg := hg.on (HO.out.1.below (bel wr _)) (Nat.le_trans hB1 (bel wr _).size); have hb2 := (bel w _).trans (hbg.mono (Nat.le_succ _)); have i2 : Bel w w' := ⟨hb2⟩
      obtain ⟨iL2, z1, zf1⟩ := HST.out w' hb2; have hO2 : OwnP (w.heap.size + 1) w' 95 3 v' ((zs ++ [(⟨core, fd, num⟩ : PDesc)]).map PDesc.cells) := by have := hg.1; simpa using this
      rw [HRE.out] at hO2; have hf := HFIN.out w' v' hO2 hb2; obtain ⟨va2, vc2, rfl⟩ := hO2.formL; generalize (R.map PDesc.cells).length = zn2 at hf ⊢; have HF := Lib.hid hf; clear hg hbg hO2 hb2 hf y1 yf iL e0 e1 e2 iD; go_wp2_with fail; exact bodyPost_end (v := .tuple #[]) (by simp [results, go_sem]) rfl ⟨rfl, HF.out⟩
    · rw [if_pos rfl] at hre; subst hre; have hf := HFIN.out wr _ HO.out.1 hbw; have HF := Lib.hid hf; clear hf; go_wp2_with fail; exact bodyPost_end (v := .tuple #[]) (by simp [results, go_sem]) rfl ⟨rfl, HF.out⟩
structure CpAt (w0 wr : World) (iv ov mv v0 : Value) (S : PSt) (q : Nat) (is : List IRec) : Prop where
 b0 : Blk wr w0.heap.size #[iv, ov, mv] 26
 b1 : Blk wr (w0.heap.size + 1) #[.slice none 0 0, .slice none 0 0, .slice none 0 0] 26
 b2 : Blk wr (w0.heap.size + 1 + 1) #[v0, .slice none 0 0, .slice none 0 0] 26
 own : OwnP (w0.heap.size + 3) wr 68 4 v0 (is.map IRec.cells)
 len : is.length = q
 each : ∀ (j : Nat) (r : IRec) (x : PIn), is[j]? = some r → S.ins[j]? = some x → r.num = x.num ∧ r.dir = x.dir ∧ r.data = x.data ∧ OwnP (w0.heap.size + 3) wr 97 2 r.ev (x.ents.map PEnt.cells)
 apart : ∀ (p q : Nat) (r r' : IRec), p ≠ q → is[p]? = some r → is[q]? = some r' → ∀ g, r.ev.ownBlock = some g → r'.ev.ownBlock ≠ some g
 below : Below w0.heap.size w0 wr
theorem blk_on {w w' : World} {b : Nat} {c : Array Value} {t : TypeId} (h : Blk w b c t) (hb : Below w.heap.size w w') : Blk w' b c t := (Keep.of_below hb (fun _ => False)).blk h (fun h => h)
theorem CpAt.on {w0 wr w' : World} {iv ov mv v0 : Value} {S : PSt} {q : Nat} {is : List IRec} (h : CpAt w0 wr iv ov mv v0 S q is) (hb : Below wr.heap.size wr w') : CpAt w0 w' iv ov mv v0 S q is :=
 ⟨blk_on h.b0 hb, blk_on h.b1 hb, blk_on h.b2 hb, h.own.below hb, h.len, fun j r x hr hx => by
  obtain ⟨a1, a2, a3, a4⟩ := h.each j r x hr hx; exact ⟨a1, a2, a3, a4.below hb⟩, h.apart, h.below.trans (hb.mono h.below.size)⟩
theorem CpAt.step {w0 wr wC w2 : World} {iv ov mv v0 v0' : Value} {S : PSt} {q : Nat} {is : List IRec} (h : CpAt w0 wr iv ov mv v0 S q is) {r : IRec} {x : PIn} (hx : S.ins[q]? = some x) (hn : r.num = x.num ∧ r.dir = x.dir ∧ r.data = x.data) (hC : Below wr.heap.size wr wC) (hv : OwnP (w0.heap.size + 3) wC 97 2 r.ev (x.ents.map PEnt.cells)) (hf : ∀ g, r.ev.ownBlock = some g → wr.heap.size ≤ g)
 (hg : Grew (w0.heap.size + 3) 68 4 wC v0 ((is ++ [r]).map IRec.cells) v0' w2) : CpAt w0 (w2.setCell ⟨w0.heap.size + 1 + 1, 0, none⟩ v0') iv ov mv v0' S (q + 1) (is ++ [r]) := by
 have hc := h.on hC
 obtain ⟨g1, g2, g3⟩ := hg
 have hlt2 := hc.b2.lt.lt
 have k2 : Keep (fun g => g = w0.heap.size + 1 + 1) w2 (w2.setCell ⟨w0.heap.size + 1 + 1, 0, none⟩ v0') := Keep.setCell (S := fun g => g = w0.heap.size + 1 + 1) (p := ⟨w0.heap.size + 1 + 1, 0, none⟩) (Keep.refl _ _) (.inl rfl) _
 have nv : ∀ b, b < w0.heap.size + 3 → ¬ v0.ownBlock = some b := fun b hb e => by have := hc.own.ge e; omega
 have ev : ∀ {v : Value} {rows : List (List Value)}, OwnP (w0.heap.size + 3) wC 97 2 v rows → OwnP (w0.heap.size + 3) (w2.setCell ⟨w0.heap.size + 1 + 1, 0, none⟩ v0') 97 2 v rows := by
  intro v rows ho; have h1 := ho.keep g2 (fun g hg e => by
   rcases hc.own with ⟨h0, _⟩ | ⟨g', cap, arr, h0, _, hb', _⟩
   · rw [h0] at e; simp [Value.ownBlock] at e
   · rw [h0] at e; simp [Value.ownBlock] at e; subst e; exact ho.ne_blk hb' (by decide) hg rfl)
  exact h1.keep k2 (fun g hg e => by have := h1.ge hg; omega)
 have hbB : Below w0.heap.size w0 (w2.setCell ⟨w0.heap.size + 1 + 1, 0, none⟩ v0') := by
  have h1 := hc.below; have h2 := g2.below (B := w0.heap.size) h1.size (fun i hi e => nv i (by omega) e); have h3 := k2.below (B := w0.heap.size) (Nat.le_trans h1.size h2.size) (fun i hi e => by omega); exact (h1.trans h2).trans h3
 refine ⟨k2.blk (g2.blk hc.b0 (nv _ (by omega))) (by omega), k2.blk (g2.blk hc.b1 (nv _ (by omega))) (by omega), (g2.blk hc.b2 (nv _ (by omega))).set_ 0 v0', g1.keep k2 (fun g hg e => by have := g1.ge hg; omega), by simp [h.len], ?_, ?_, hbB⟩
 · intro j r' x' hr hx'; by_cases hj : j < is.length
   · rw [List.getElem?_append_left hj] at hr; obtain ⟨a1, a2, a3, a4⟩ := hc.each j r' x' hr hx'; exact ⟨a1, a2, a3, ev a4⟩
   · rw [List.getElem?_append_right (by omega)] at hr; have : j = q := by
      obtain ⟨hl, _⟩ := gI.1 hr; have := h.len; simp at hl; omega
     subst this; rw [h.len, Nat.sub_self] at hr; simp at hr; subst hr; rw [hx] at hx'; cases hx'; exact ⟨hn.1, hn.2.1, hn.2.2, ev hv⟩
 · intro p1 q1 r1 r2 hne h1 h2 g e1 e2; have old : ∀ (p : Nat) (rr : IRec), (is ++ [r])[p]? = some rr → (p < is.length ∧ is[p]? = some rr) ∨ (p = is.length ∧ rr = r) := by
    intro p rr hp; by_cases hj : p < is.length
    · rw [List.getElem?_append_left hj] at hp; exact .inl ⟨hj, hp⟩
    · rw [List.getElem?_append_right (by omega)] at hp; obtain ⟨hl, _⟩ := gI.1 hp; simp at hl; have : p = is.length := by omega
      subst this; simp at hp; exact .inr ⟨rfl, hp.symm⟩
   have lt : ∀ (p : Nat) (rr : IRec), is[p]? = some rr → ∀ g, rr.ev.ownBlock = some g → g < wr.heap.size := by
    intro p rr hp g hg; obtain ⟨hl, _⟩ := gI.1 hp; obtain ⟨hq, _⟩ := gI.1 hx; have hlq := h.len; exact (h.each p rr _ hp (gE (by omega))).2.2.2.lt hg
   rcases old p1 r1 h1 with ⟨hl1, h1'⟩ | ⟨e3, rfl⟩
   · rcases old q1 r2 h2 with ⟨hl2, h2'⟩ | ⟨e4, rfl⟩
     · exact h.apart p1 q1 r1 r2 hne h1' h2' g e1 e2
     · have := lt _ _ h1' g e1; have := hf g e2; omega
   · rcases old q1 r2 h2 with ⟨hl2, h2'⟩ | ⟨e4, rfl⟩
     · have := lt _ _ h2' g e2; have := hf g e1; omega
     · omega
theorem StOwn.setMd {B : Nat} {w : World} {iv ov mv mv' : Value} {S : PSt} {zs : List Int} (h : StOwn B w iv ov mv S) (ho : OwnP B w 3 1 mv' (zs.map intCells)) : StOwn B w iv ov mv' { S with made := zs } := ⟨h.1, ho, h.2.2⟩
theorem copy54 (S : PSt) (iv ov mv : Value) (w : World) (h : StRead w iv ov mv S) (hwf : S.wf) :
 Calls Tryz.prog 91 #[.agg #[iv, ov, mv]] w fun e w' => ∃ iv' ov' mv', e = .returned (.agg #[iv', ov', mv']) ∧ Below w.heap.size w w' ∧ StOwn w.heap.size w' iv' ov' mv' S := by
 obtain ⟨h1, h2, h3⟩ := And.intro h.1 (And.intro h.2.1 h)
 obtain ⟨ai, ni, ci, ao, no, co, am, nm, cm, rfl, rfl, rfl⟩ := h.slices
 obtain ⟨a, cap, e1, hai⟩ := h.ins_at2
 cases e1
 have HI := Lib.hid hai
 have HWF := Lib.hid hwf
 have HR := Lib.hid (And.intro h1 h2)
 clear h h1 h2 h3 hai hwf
 go_enter Tryz.func91, Tryz.ntmps91
 go_wp2_with fail
 go_loopw [4] (fun i wr => ∃ (q : Nat) (is : List IRec) (v0 : Value), i = .int .i64 q ∧ q ≤ S.ins.length ∧ CpAt w wr (.slice ai S.ins.length ci) (.slice ao no co) (.slice am nm cm) v0 S q is) (fun i _ => (S.ins.length - intOf i).toNat)
 case atStart =>
  refine ⟨0, [], .slice none 0 0, rfl, by omega, ⟨?_, ?_, ?_, .inl ⟨rfl, rfl⟩, rfl, fun j r x hr => by simp at hr, fun p q r r' _ hr => by simp at hr, bel _ _⟩⟩
  · exact ((Blk.new w _ 26).alloc _).alloc _
  · exact (Blk.new_i _ _ _ _).alloc _
  · exact Blk.new_i _ _ _ _
 case round =>
  obtain ⟨q, is, v0, rfl, hq, hc⟩ := hrel; have iB : Bel w wr := ⟨hc.below⟩
  have i0 := hc.b0.lt; have i1 := hc.b1.lt; have i2 := hc.b2.lt; have s0 := hc.b0.cell 0; have s1 := hc.b0.cell 1; have s2 := hc.b0.cell 2; have t0 := hc.b2.cell 0; have t1 := hc.b2.cell 1; have t2 := hc.b2.cell 2; simp at s0 s1 s2 t0 t1 t2; obtain ⟨va, vn, vc, rfl⟩ := hc.own.form; have HC := Lib.hid hc; clear hc; by_cases hlt : q < S.ins.length
  · obtain ⟨x, hx⟩ : ∃ x, S.ins[q]? = some x := ⟨_, gE hlt⟩
    obtain ⟨bi, oi, ev, rfl, iI0, hoi, her, hci⟩ := HI.out q x hx; obtain ⟨iI, x0, x1, x2, x3⟩ := hci wr iB.below; have hel := (HWF.out.2.2.2.1 x (mG hx)).2.1; have hltI : (q : Int) < S.ins.length := by omega
    obtain ⟨ae, ce, rfl, -⟩ := her.at_; rw [lM] at x2; have HE := Lib.hid (And.intro her hx); obtain ⟨xn, xd, xe, xs⟩ := x; simp only at x0 x1 x2 x3 hel; clear hci hoi her hx; have hBr : w.heap.size + 3 ≤ wr.heap.size := i2.lt; have hil : is.length = q := HC.out.len; have hil9 : S.ins.length ≤ 1000000000 := HWF.out.1; have hown0 : OwnP wr.heap.size ((wr.alloc (.cells #[.int .i64 xn, .bool xd, .slice ae xe.length ce, .string xs] 68)).alloc (.cells #[] 97)) 97 2 (.slice (some ⟨wr.heap.size + 1, 0, none⟩) 0 0) (([] : List PEnt).map PEnt.cells) :=
     .inr ⟨_, 0, #[], rfl, by omega, Blk.new_i _ _ _ _, by simp, by unfold maxLen; omega, by simp, fun q cs h => by simp at h⟩
    go_wp2_with (at_builtin; refine app99 rfl (.tmp 18) (.tmp 20) rfl wr.heap.size _ _ [] xe rfl (by go_simp) hown0 (HE.out.1.below (bel w _) (Nat.le_refl _)) (by simp; omega) (bel wr _).size ?_)
    intro v' w' hg; have hbg := hg.on hown0 (bel wr _).size; have hb2 : Below wr.heap.size wr w' := (bel wr _).trans hbg; have hO2 : OwnP wr.heap.size w' 97 2 v' (xe.map PEnt.cells) := by have := hg.1; simpa using this
    have hbx := hg.2.1.blk ((Blk.new wr #[.int .i64 xn, .bool xd, .slice ae xe.length ce, .string xs] 68).alloc _) (fun h => by simp [Value.ownBlock] at h); have hc2 := HC.out.on hb2; have iB2 : Bel w w' := ⟨hc2.below⟩
    have iR2 : Bel wr w' := ⟨hb2⟩
    have iG2 : BlockGe wr.heap.size wr := ⟨Nat.le_refl _⟩
    have iX := hbx.lt; have j0 := hc2.b0.lt; have j1 := hc2.b1.lt; have j2 := hc2.b2.lt; have u0 := hc2.b2.cell 0; have y0 := hbx.cell 0; have y1 := hbx.cell 1; have y2 := hbx.cell 2; have y3 := hbx.cell 3; have yf := hbx.frozen 2; simp at u0 y0 y1 y2 y3; obtain ⟨va2, vc2, rfl⟩ := hO2.formL; generalize (xe.map PEnt.cells).length = zn2 at hO2 ⊢; have H2 := Lib.hid (And.intro hO2 (And.intro hb2 hbx)); clear hg hbg hO2 hb2 hbx hc2 hown0 s0 s1 s2 t0 t1 t2 x0 x1 x2 x3 iI i0 i1 i2; have hneb : wr.heap.size ≠ w.heap.size + 1 + 1 := by omega
    have hneb2 : w.heap.size + 1 + 1 ≠ wr.heap.size := by omega
    go_wp2_with (at_builtin; refine app65 rfl (.tmp 24) (.tmp 26) rfl (w.heap.size + 3) _ _ is [⟨xn, xd, .slice va2 zn2 vc2, xs, rfl⟩] rfl (by go_simp) (HC.out.on (bel wr _)).own (RowAt.single (Blk.new_i _ _ _ _) 4 1) (by simp; omega) (Nat.le_trans hBr (bel wr _).size) ?_)
    intro v2 w2 hg2; have hC : Below wr.heap.size wr ((w'.setCell ⟨wr.heap.size, 2, none⟩ (.slice va2 zn2 vc2)).alloc (.cells #[.int .i64 xn, .bool xd, .slice va2 zn2 vc2, .string xs] 68)) := bel wr _; have hg2' : Grew (w.heap.size + 3) 68 4 ((w'.setCell ⟨wr.heap.size, 2, none⟩ (.slice va2 zn2 vc2)).alloc (.cells #[.int .i64 xn, .bool xd, .slice va2 zn2 vc2, .string xs] 68)) (.slice va vn vc) ((is ++ [(⟨xn, xd, .slice va2 zn2 vc2, xs, rfl⟩ : IRec)]).map IRec.cells) v2 w2 := by simpa using hg2
    have hvv : OwnP wr.heap.size ((w'.setCell ⟨wr.heap.size, 2, none⟩ (.slice va2 zn2 vc2)).alloc (.cells #[.int .i64 xn, .bool xd, .slice va2 zn2 vc2, .string xs] 68)) 97 2 (.slice va2 zn2 vc2) (xe.map PEnt.cells) := by
     have hK : Keep (fun g => g = wr.heap.size) w' (w'.setCell ⟨wr.heap.size, 2, none⟩ (.slice va2 zn2 vc2)) := Keep.setCell (S := fun g => g = wr.heap.size) (p := ⟨wr.heap.size, 2, none⟩) (Keep.refl _ _) (.inl rfl) _; exact (H2.out.1.keep hK (fun g hg e => H2.out.1.ne_blk H2.out.2.2 (by decide) hg e)).below (bel _ _)
    have hs := HC.out.step (r := ⟨xn, xd, .slice va2 zn2 vc2, xs, rfl⟩) HE.out.2 ⟨rfl, rfl, rfl⟩ hC (hvv.mono hBr) (fun g hg => hvv.ge hg) hg2'; have hb3 := hg2'.2.1.blk (HC.out.on hC).b2 (fun e => by have := HC.out.own.ge e; omega); have l3 := hb3.lt; have v3 := hb3.cell 0; have f3 := hb3.frozen 0; simp at v3; obtain ⟨vb, vbn, vbc, rfl⟩ := hg2'.1.form; have HS := Lib.hid hs; clear hs hb3 hg2 hg2' hvv hC u0 y0 y1 y2 y3 yf; go_wp2_with fail
    go_roundw
    case rel => exact ⟨q + 1, _, _, by go_num, by omega, HS.out⟩
    case measure => simp [intOf]; omega
  · have hqe : q = S.ins.length := by omega
    subst hqe; have hltI : ¬ (S.ins.length : Int) < S.ins.length := by omega
    have hol : S.op.length ≤ 1000000000 := HWF.out.2.1; have hml : S.made.length ≤ 1000000000 := HWF.out.2.2.1; have hBr : w.heap.size + 3 ≤ wr.heap.size := i2.lt; have hs0 : StOwn (w.heap.size + 3) wr (.slice va vn vc) (.slice none 0 0) (.slice none 0 0) ⟨S.ins, [], []⟩ := ⟨.inl ⟨rfl, rfl⟩, .inl ⟨rfl, rfl⟩, is, HC.out.own, HC.out.len, HC.out.each, HC.out.apart⟩
    have HS0 := Lib.hid hs0; clear hs0; go_wp2_with (at_builtin; refine app88 rfl (.tmp 30) (.tmp 32) rfl (w.heap.size + 3) _ _ [] S.op rfl (by go_simp) (.inl ⟨rfl, rfl⟩) (HR.out.1.below iB.below (Nat.le_refl _)) (by simp; omega) hBr ?_)
    intro v1 w1 hg; have hg1 : OwnP (w.heap.size + 3) w1 95 3 v1 (S.op.map PDesc.cells) := by have := hg.1; simpa using this
    have hb1 : Below wr.heap.size wr w1 := hg.2.1.below (Nat.le_refl _) (fun i hi e => by simp [Value.ownBlock] at e); have hc1 := HC.out.on hb1; have hs1 := (HS0.out.on hb1).setOp hg1; have b2s := hc1.b2.set_ 1 v1; have hK1 : Keep (fun g => g = w.heap.size + 1 + 1) w1 (w1.setCell ⟨w.heap.size + 1 + 1, 1, none⟩ v1) := Keep.setCell (S := fun g => g = w.heap.size + 1 + 1) (p := ⟨w.heap.size + 1 + 1, 1, none⟩) (Keep.refl _ _) (.inl rfl) _; have hs1' := hs1.keep hK1 (fun g hg => by rw [hg]; exact ⟨_, 26, hc1.b2, by decide, by decide, by decide, by decide⟩); have b0s := hK1.blk hc1.b0 (by omega); have b1s := hK1.blk hc1.b1 (by omega); have hbw1 : Below w.heap.size w (w1.setCell ⟨w.heap.size + 1 + 1, 1, none⟩ v1) := hc1.below.trans (hK1.below (hc1.below.size) (fun i hi e => by omega)); have l2 := hc1.b2.lt; have p1 := hc1.b2.cell 1; have f1 := hc1.b2.frozen 1; simp at p1; obtain ⟨vo, von, voc, rfl⟩ := hg1.form; have HX := Lib.hid (And.intro hs1' (And.intro b2s (And.intro b0s (And.intro b1s hbw1)))); clear hg hg1 hb1 hc1 hs1 b2s hK1 hs1' b0s b1s hbw1 s0 s1 s2 t0 t1 t2 i0 i1 i2 iB
    go_upto_region 9 with fail
    refine abs_world (F := fun wa => StOwn (w.heap.size + 3) wa (.slice va vn vc) (.slice vo von voc) (.slice none 0 0) ⟨S.ins, S.op, []⟩ ∧ Blk wa (w.heap.size + 1 + 1) #[.slice va vn vc, .slice vo von voc, .slice none 0 0] 26 ∧ Blk wa w.heap.size #[.slice ai S.ins.length ci, .slice ao no co, .slice am nm cm] 26 ∧ Blk wa (w.heap.size + 1) #[.slice none 0 0, .slice none 0 0, .slice none 0 0] 26 ∧ Below w.heap.size w wa) HX.out ?_; clear HX l2 p1 f1; rintro wa ⟨hs1, b2, b0, b1, hbw⟩; have iB : Bel w wa := ⟨hbw⟩
    have l2 := b2.lt; have l0 := b0.lt; have p2 := b2.cell 2; have q2 := b0.cell 2; simp at p2 q2; have hBr2 : w.heap.size + 3 ≤ wa.heap.size := l2.lt; have HY := Lib.hid (And.intro hs1 (And.intro b2 (And.intro b0 b1))); clear hs1 b2 b0 b1; go_wp2_with (at_builtin; refine app3 rfl (.tmp 36) (.tmp 38) rfl (w.heap.size + 3) _ _ [] S.made rfl (by go_simp) (.inl ⟨rfl, rfl⟩) (HR.out.2.below iB.below (Nat.le_refl _)) (by simp; omega) hBr2 ?_)
    intro v2 w2 hg; have hg2 : OwnP (w.heap.size + 3) w2 3 1 v2 (S.made.map intCells) := by have := hg.1; simpa using this
    have hb2 : Below wa.heap.size wa w2 := hg.2.1.below (Nat.le_refl _) (fun i hi e => by simp [Value.ownBlock] at e); obtain ⟨hs1, b2, b0, b1⟩ := HY.out; have hs2 := (hs1.on hb2).setMd hg2; have c2 := blk_on b2 hb2; have hK2 : Keep (fun g => g = w.heap.size + 1 + 1) w2 (w2.setCell ⟨w.heap.size + 1 + 1, 2, none⟩ v2) := Keep.setCell (S := fun g => g = w.heap.size + 1 + 1) (p := ⟨w.heap.size + 1 + 1, 2, none⟩) (Keep.refl _ _) (.inl rfl) _; have hs2' := hs2.keep hK2 (fun g hg => by rw [hg]; exact ⟨_, 26, c2, by decide, by decide, by decide, by decide⟩); have b1s := hK2.blk (blk_on b1 hb2) (by omega); have b2s := c2.set_ 2 v2; have hbw2 : Below w.heap.size w (w2.setCell ⟨w.heap.size + 1 + 1, 2, none⟩ v2) := (hbw.trans (hb2.mono hbw.size)).trans (hK2.below (Nat.le_trans hbw.size hb2.size) (fun i hi e => by omega)); have l2' := c2.lt; have p2' := c2.cell 2; have f2' := c2.frozen 2; simp at p2'; obtain ⟨vm, vmn, vmc, rfl⟩ := hg2.form; have HX := Lib.hid (And.intro hs2' (And.intro b2s (And.intro b1s hbw2))); clear hg hg2 hb2 hs1 b2 b0 b1 hs2 c2 hK2 hs2' b1s b2s hbw2 l2 l0 p2 q2 iB hbw
    go_upto_region 10 with fail
    refine abs_world (F := fun wa => StOwn (w.heap.size + 3) wa (.slice va vn vc) (.slice vo von voc) (.slice vm vmn vmc) S ∧ Blk wa (w.heap.size + 1 + 1) #[.slice va vn vc, .slice vo von voc, .slice vm vmn vmc] 26 ∧ Blk wa (w.heap.size + 1) #[.slice none 0 0, .slice none 0 0, .slice none 0 0] 26 ∧ Below w.heap.size w wa) HX.out ?_; clear HX l2' p2' f2'; rintro wb ⟨hs, b2, b1, hbw⟩; have l2 := b2.lt; have l1 := b1.lt; have p0 := b2.cell 0; have p1 := b2.cell 1; have p2 := b2.cell 2; have z0 := b1.cell 0; have z1 := b1.cell 1; have z2 := b1.cell 2; have f0 := b1.frozen 0; have f1 := b1.frozen 1; have f2 := b1.frozen 2; simp at p0 p1 p2 z0 z1 z2; have HZ := Lib.hid (And.intro hs (And.intro b1 hbw)); clear hs b2 b1 hbw; go_wp2_with fail; have hK : Keep (fun g => g = w.heap.size + 1) wb (((wb.setCell ⟨w.heap.size + 1, 0, none⟩ (.slice va vn vc)).setCell ⟨w.heap.size + 1, 1, none⟩ (.slice vo von voc)).setCell ⟨w.heap.size + 1, 2, none⟩ (.slice vm vmn vmc)) := Keep.setCell (S := fun g => g = w.heap.size + 1) (p := ⟨w.heap.size + 1, 2, none⟩) (Keep.setCell (S := fun g => g = w.heap.size + 1) (p := ⟨w.heap.size + 1, 1, none⟩) (Keep.setCell (S := fun g => g = w.heap.size + 1) (p := ⟨w.heap.size + 1, 0, none⟩) (Keep.refl _ _) (.inl rfl) _) (.inl rfl) _) (.inl rfl) _; have hfin := (HZ.out.1.keep hK (fun g hg => by rw [hg]; exact ⟨_, 26, HZ.out.2.1, by decide, by decide, by decide, by decide⟩)).mono (B' := w.heap.size) (by omega); have hbf := HZ.out.2.2.trans (hK.below HZ.out.2.2.size (fun i hi e => by omega)); exact bodyPost_ret (v := .agg #[.slice va vn vc, .slice vo von voc, .slice vm vmn vmc]) (by unfold results; simp only [Tryz.results91]; go_simp) rfl ⟨_, _, _, rfl, hbf, hfin⟩
theorem insF_acc {α : Type} (p : α → Bool) (x : α) : ∀ (es zs : List α) (d : Bool), insF p x es d zs = zs ++ insF p x es d []
 | [], zs, d => by unfold insF; split <;> simp
 | e :: r, zs, d => by
   unfold insF; rw [insF_acc p x r (zs ++ [e]), insF_acc p x r (zs ++ [x] ++ [e]), insF_acc p x r ([] ++ [e]), insF_acc p x r ([] ++ [x] ++ [e]), insF_acc p x r (zs ++ [e]) false, insF_acc p x r ([] ++ [e]) false]
   split
   · simp
   · split <;> simp
theorem insF_true {α : Type} (p : α → Bool) (x : α) : ∀ (es : List α), insF p x es true [] = es
 | [] => by simp [insF]
 | e :: r => by
   unfold insF; rw [if_pos rfl, insF_acc, insF_true p x r]; rfl
theorem insF_at {α : Type} (p : α → Bool) (x : α) : ∀ (es : List α), insF p x es false [] = insAt es (es.findIdx p) x
 | [] => by simp [insF, insAt]
 | e :: r => by
   unfold insF; rw [if_neg (by decide), insF_acc p x r ([] ++ [x] ++ [e]), insF_acc p x r ([] ++ [e]), insF_true, insF_at p x r, List.findIdx_cons]; rcases p e with _ | _
   · simp [insAt]
   · simp [insAt]
theorem StOwn.made_form {B : Nat} {w : World} {iv ov mv : Value} {S : PSt} (h : StOwn B w iv ov mv S) (h0 : 0 < S.made.length) : ∃ gm cap, mv = .slice (some ⟨gm, 0, none⟩) S.made.length cap := by
 rcases h.2.1 with ⟨_, h1⟩ | ⟨g, cap, arr, rfl, _⟩
 · rw [List.map_eq_nil_iff] at h1; rw [h1] at h0; simp at h0
 · exact ⟨g, cap, by rw [lM]⟩
theorem StOwn.made_at {B : Nat} {w : World} {iv ov : Value} {S : PSt} {gm cap : Nat} (h : StOwn B w iv ov (.slice (some ⟨gm, 0, none⟩) S.made.length cap) S) {k : Nat} {m : Int} (hm : S.made[k]? = some m) : w.cell? ⟨gm, k, none⟩ = some (.int .i64 m) ∧ w.frozen? ⟨gm, k, none⟩ = false ∧ BlockLt gm w := by
 rcases h.2.1 with ⟨h1, _⟩ | ⟨g, cap', arr, he, _, hb, _, _, _, hr⟩
 · cases h1
 · simp only [Value.slice.injEq, Option.some.injEq, Addr.mk.injEq] at he; obtain ⟨⟨rfl, -, -⟩, -, -⟩ := he; refine ⟨?_, hb.frozen k, hb.lt⟩; rw [hb.cell]; have := hr k (intCells m) (by rw [gM, hm]; rfl) 0 _ rfl; rw [Nat.mul_one, Nat.add_zero] at this; exact this
def Spared (b : Nat) (w w' : World) : Prop := ∀ g c t, Blk w g c t → g ≠ b → (t = 26 ∨ t = 28 ∨ t = 52) → Blk w' g c t
theorem Spared.trans {b : Nat} {w w1 w2 : World} (h : Spared b w w1) (h' : Spared b w1 w2) : Spared b w w2 := fun g c t hb hn ht => h' g c t (h g c t hb hn ht) hn ht
theorem Spared.of_below {b : Nat} {w w1 : World} (h : Below w.heap.size w w1) : Spared b w w1 := fun g c t hb _ _ => blk_on hb h
theorem Spared.of_in {b : Nat} {w w1 : World} (h : Keep (InEn w) w w1) : Spared b w w1 := fun g c t hb _ ht => h.blk hb (fun ⟨c', t', hb', ht'⟩ => by
 have : t = t' := by
  have e := hb.symm.trans hb'; simp at e; exact e.2
 subst this
 rcases ht with rfl | rfl | rfl <;> rcases ht' with h | h <;> exact absurd h (by decide))
theorem Spared.set {b : Nat} {w : World} {g o : Nat} {c : Array Value} {t : TypeId} {v : Value} (h : Blk w g c t) (ht : g = b ∨ (t ≠ 26 ∧ t ≠ 28 ∧ t ≠ 52)) : Spared b w (w.setCell ⟨g, o, none⟩ v) := fun g' c' t' hb hn htt => by
 refine Keep.blk (Keep.setCell (S := fun x => x = g) (p := ⟨g, o, none⟩) (Keep.refl _ w) (.inl rfl) v) hb (fun e => ?_)
 subst e
 rcases ht with ht | ht
 · exact hn ht
 · have : t = t' := by
    have e := h.symm.trans hb; simp at e; exact e.2
   subst this; rcases htt with rfl | rfl | rfl
   · exact ht.1 rfl
   · exact ht.2.1 rfl
   · exact ht.2.2 rfl
theorem keep46 {wz : World} {r : Nat} {a0 a1 a2 a3 a4 a5 : Value} {p : Behind} : Keep (fun g => g = r) wz (((((((wz.setCell ⟨r, 0, none⟩ a0).setCell ⟨r, 1, none⟩ a1).setCell ⟨r, 2, none⟩ a2).setCell ⟨r, 3, none⟩ a3).setCell ⟨r, 4, none⟩ a4).setCell ⟨r, 5, none⟩ a5).junk p) :=
 ((((((((Keep.refl (fun g => g = r) wz).setCell (p := ⟨r, 0, none⟩) (.inl rfl) a0).setCell (p := ⟨r, 1, none⟩) (.inl rfl) a1).setCell (p := ⟨r, 2, none⟩) (.inl rfl) a2).setCell (p := ⟨r, 3, none⟩) (.inl rfl) a3).setCell (p := ⟨r, 4, none⟩) (.inl rfl) a4).setCell (p := ⟨r, 5, none⟩) (.inl rfl) a5).junk p)
theorem fin46 {B b r : Nat} {w wz w' : World} {iv ov mv : Value} {S : PSt} {c : Array Value} (hK : Keep (fun g => g = r) wz w') (hrw : w.heap.size ≤ r) (hbw : b < w.heap.size) (hB : B ≤ w.heap.size) (hr : Blk wz r c 52) (f1 : Blk wz b #[iv, ov, mv] 26) (f2 : StOwn B wz iv ov mv S) (f4 : Below B w wz) (f5 : Spared b w wz) :
 Below B w w' ∧ Spared b w w' ∧ ∃ iv' ov' mv', Blk w' b #[iv', ov', mv'] 26 ∧ StOwn B w' iv' ov' mv' S := by
 refine ⟨f4.trans (hK.below (Nat.le_trans hB f4.size) (fun i hi e => by omega)), fun g c t hb hn ht => hK.blk (f5 g c t hb hn ht) (fun e => by have := hb.lt.lt; omega), iv, ov, mv, hK.blk f1 (fun e => by omega), f2.keep hK (fun g hg => by rw [hg]; exact ⟨_, 52, hr, by decide, by decide, by decide, by decide⟩)⟩
theorem notInEn {w : World} {g : Nat} {c : Array Value} {t : TypeId} (h : Blk w g c t) (h1 : t ≠ 68) (h2 : t ≠ 97) : ¬ InEn w g := fun ⟨c', t', hb', ht'⟩ => by
 have : t = t' := by
  have e := h.symm.trans hb'; simp at e; exact e.2
 subst this
 rcases ht' with e | e
 · exact h1 e
 · exact h2 e
theorem PSt.wf_made {S : PSt} (h : S.wf) (k : Nat) {v : Int} (hv : I64 v) : ({ S with made := S.made.set k v } : PSt).wf := by
 obtain ⟨h1, h2, h3, h4, h5, h6⟩ := h
 refine ⟨h1, h2, by show (S.made.set k v).length ≤ _; rw [List.length_set]; exact h3, h4, h5, fun m hm => ?_⟩
 rcases List.mem_or_eq_of_mem_set hm with hm | rfl
 · exact h6 m hm
 · exact hv
theorem keep46n {wz : World} {r : Nat} {a0 a1 a2 a3 a4 a5 : Value} : Keep (fun g => g = r) wz ((((((wz.setCell ⟨r, 0, none⟩ a0).setCell ⟨r, 1, none⟩ a1).setCell ⟨r, 2, none⟩ a2).setCell ⟨r, 3, none⟩ a3).setCell ⟨r, 4, none⟩ a4).setCell ⟨r, 5, none⟩ a5) :=
 (((((((Keep.refl (fun g => g = r) wz).setCell (p := ⟨r, 0, none⟩) (.inl rfl) a0).setCell (p := ⟨r, 1, none⟩) (.inl rfl) a1).setCell (p := ⟨r, 2, none⟩) (.inl rfl) a2).setCell (p := ⟨r, 3, none⟩) (.inl rfl) a3).setCell (p := ⟨r, 4, none⟩) (.inl rfl) a4).setCell (p := ⟨r, 5, none⟩) (.inl rfl) a5)
end Go.Proofs.YtmkapobnfigedaaGreatDoor
