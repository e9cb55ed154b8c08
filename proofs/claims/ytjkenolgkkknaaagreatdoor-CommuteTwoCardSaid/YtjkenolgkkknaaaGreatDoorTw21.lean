/- append of rows onto a slice of the call's own. Conditions: none. The reference's May, where it says yes. Conditions: none. The reference's put: an entry more in a directory of a state of the call's own. Conditions: none. The reference's Parse at a path of one name of one byte. Conditions: none. The reference's Find, Parent and full at one name below the root. Conditions: none. -/
import Derived.Test.YtjkenolgkkknaaaGreatDoorTw20
import Derived.Test.YtjkenolgkkknaaaGreatDoorTw10
import Derived.Test.YtjkenolgkkknaaaGreatDoorTw19
import Derived.Test.YtjkenolgkkknaaaGreatDoorTw09
set_option linter.unusedVariables false
set_option linter.unusedSimpArgs false
namespace Go.Proofs.YtjkenolgkkknaaaGreatDoor
open Go.RowKit
theorem run_append_none {P : Program} (w : World) (t ty e : TypeId) (i : TypeInfo) (ht : P.underlying t = some (.slice e)) (hi : P.info? e = some i) (n cap c : Nat) (a : Option Addr) (hn : n ≤ cap) :
    (Builtin.append_ #[t, t] ty #[.slice a n cap, .slice none 0 c]).run P w = .ok (.slice a n cap) w := by
  rcases a with _ | a
  · simp [Builtin.append_, run_underlying ht, sizeOf, typeInfo, hi, Builtin.lenOf, hn, run_firstCells_none, Builtin.firstCells, loadCells, loadCellsFrom]
  · simp [Builtin.append_, run_underlying ht, sizeOf, typeInfo, hi, Builtin.lenOf, hn, run_firstCells_none, Builtin.firstCells, loadCells, loadCellsFrom, storeCells]
theorem rows_cells {w : World} {k n cap : Nat} {a : Option Addr} {rows : List (List Value)} (h : RowAt w k (.slice a n cap) rows) (hk : 0 < k) (hu : ∀ cs ∈ rows, cs.length = k) (ad : Addr) (had : a = some ad) : ∀ j u, rows.flatten[j]? = some u → w.cell? (ad.add j) = some u := by
  intro j u hj
  obtain ⟨a', cap', he, hm, hr⟩ := h
  simp only [Value.slice.injEq] at he
  obtain ⟨rfl, rfl, rfl⟩ := he
  subst had
  have hl := flat_len k rows hu
  obtain ⟨hjl, _⟩ := List.getElem?_eq_some_iff.1 hj
  rw [hl] at hjl
  have h0 : 0 < rows.length := by
    rcases hz : rows.length with _ | m
    · rw [hz] at hjl; omega
    · omega
  obtain ⟨b, off, he, hb, hc⟩ := hr h0
  simp only [Option.some.injEq] at he
  subst he
  have hj2 : j = j / k * k + j % k := by rw [Nat.mul_comm]; exact (Nat.div_add_mod j k).symm
  have htk : j % k < k := Nat.mod_lt _ hk
  have hq : j / k < rows.length := Nat.div_lt_of_lt_mul (by rwa [Nat.mul_comm])
  have hlen := hu rows[j / k] (List.getElem_mem hq)
  have h1 := flat_at k rows hu (j / k) (j % k) htk
  rw [← hj2, hj, List.getElem?_eq_getElem hq] at h1
  have h2 := hc (j / k) rows[j / k] (List.getElem?_eq_getElem hq) (j % k) u h1.symm
  rw [Addr.add_lit]
  rw [show off + j = off + j / k * k + j % k by omega]
  exact h2
/-- What an append of rows leaves. -/
def Grew (B : Nat) (e : TypeId) (k : Nat) (w : World) (v : Value) (rows : List (List Value)) (v' : Value) (w' : World) : Prop :=
  OwnP B w' e k v' rows ∧ Keep (fun g => v.ownBlock = some g) w w' ∧ (v'.ownBlock = v.ownBlock ∨ v'.ownBlock = some w.heap.size)
theorem run_append_P {P : Program} (w : World) (B : Nat) (t ty e : TypeId) (k bytes : Nat) (i : TypeInfo) (z : Value) (ht : P.underlying t = some (.slice e)) (hi : P.info? e = some i) (hz : i.zero = some z) (hsize : i.size = k) (hby : i.bytes = bytes) (hzs : z.cells.size = k) (hk : 0 < k)
    (v x : Value) (rows more : List (List Value)) (hu : ∀ cs ∈ rows, cs.length = k) (hum : ∀ cs ∈ more, cs.length = k) (h1 : ∀ cs ∈ more, ∀ u ∈ cs, u.oneCell' = true) (ho : OwnP B w e k v rows) (hx : RowAt w k x more) (h63 : rows.length + more.length ≤ maxLen) (hb : (rows.length + more.length) * bytes ≤ 140737488355328) (hB : B ≤ w.heap.size) :
    ∃ v' w', (Builtin.append_ #[t, t] ty #[v, x]).run P w = .ok v' w' ∧ Grew B e k w v (rows ++ more) v' w' := by
  have hx' := hx
  obtain ⟨a, cap, rfl, hm, hr⟩ := hx'
  rcases a with _ | ad
  · have h0 : more = [] := by
      rcases hz2 : more.length with _ | m
      · exact List.eq_nil_of_length_eq_zero hz2
      · obtain ⟨b, off, he, _⟩ := hr (by omega)
        cases he
    subst h0
    have hr2 : (Builtin.append_ #[t, t] ty #[v, .slice none ([] : List (List Value)).length cap]).run P w = .ok v w := by
      rcases ho with ⟨rfl, rfl⟩ | ⟨g, cap', arr, rfl, hg, hbk, hn, _⟩
      · exact run_append_none w t ty e i ht hi 0 0 cap none (Nat.le_refl _)
      · exact run_append_none w t ty e i ht hi _ cap' cap _ hn
    refine ⟨v, w, hr2, by rw [List.append_nil]; exact ho, Keep.refl _ _, .inl rfl⟩
  · obtain ⟨v', w', hr2, hown, hgr, _, hat⟩ := run_append_own_at (P := P) w B t ty e i z k bytes ht hi hz hsize hby hzs hk v rows.length rows.flatten (ho.own hk hu) ad more.length cap more.flatten (flat_len k more hum) (rows_cells hx hk hum ad rfl) (fun u hu2 => by
      obtain ⟨cs, hcs, hu3⟩ := List.mem_flatten.1 hu2
      exact h1 cs hcs u hu3) h63 hb hB
    refine ⟨v', w', hr2, ?_, (Keep.refl _ w).grown hgr (fun g hg => .inl hg), hat⟩
    refine OwnP.of_own ?_ hk (fun cs hcs => (List.mem_append.1 hcs).elim (hu cs) (hum cs))
    rw [List.length_append, List.flatten_append]
    exact hown
theorem wpList_append_P {P : Program} (w : World) {ops : Array Oper} {rest : List Oper} {o : Oper} {a : Act} {Q : Exit → Act → World → Prop} (hgd : o.guard = none) (s y : Operand) (t : TypeId)
    (hop : o.op = .call { callee := .builtin .append, args := #[s, y], argTypes := #[t, t] })
    (B : Nat) (e : TypeId) (k bytes : Nat) (i : TypeInfo) (z : Value) (ht : P.underlying t = some (.slice e)) (hi : P.info? e = some i) (hz : i.zero = some z) (hsize : i.size = k) (hby : i.bytes = bytes) (hzs : z.cells.size = k) (hk : 0 < k)
    (v x : Value) (rows more : List (List Value)) (hs : a.eval s = v) (hy : a.eval y = x) (hu : ∀ cs ∈ rows, cs.length = k) (hum : ∀ cs ∈ more, cs.length = k) (h1 : ∀ cs ∈ more, ∀ u ∈ cs, u.oneCell' = true) (ho : OwnP B w e k v rows) (hx : RowAt w k x more) (h63 : rows.length + more.length ≤ maxLen) (hb : (rows.length + more.length) * bytes ≤ 140737488355328) (hB : B ≤ w.heap.size)
    (h : ∀ v' w', Grew B e k w v (rows ++ more) v' w' → wpList P ops Q rest (a.put o.dst v') w') :
    wpList P ops Q (o :: rest) a w := by
  refine wpList_plain hgd fun K hK => ?_
  obtain ⟨v', w', hr, hg⟩ := run_append_P (P := P) w B t o.type e k bytes i z ht hi hz hsize hby hzs hk v x rows more hu hum h1 ho hx h63 hb hB
  unfold Oper.wp execOp
  simp only [hop, resolve, invoke, builtin, Sem.run_bind, Sem.run_pure, Result.andThen_ok, List.map_toArray, List.map_cons, List.map_nil, hs, hy, hr]
  exact hK _ _ (h v' w' hg)
/-- One row in a block of its own. -/
theorem RowAt.single {w : World} {b : Nat} {t : TypeId} {cs : List Value} (h : Blk w b cs.toArray t) (k cap : Nat) : RowAt w k (.slice (some ⟨b, 0, none⟩) 1 cap) [cs] := by
  refine ⟨_, _, rfl, by unfold maxLen; simp, fun _ => ⟨b, 0, rfl, h.lt.lt, fun q c hq u x hu => ?_⟩⟩
  rcases q with _ | q
  · simp only [List.getElem?_cons_zero, Option.some.injEq] at hq
    subst hq
    rw [h.cell]
    simpa using hu
  · simp at hq
theorem str_len : ∀ (zs : List ByteArray), ∀ cs ∈ zs.map (fun n => [Value.string n]), cs.length = 1 := by
  intro zs cs h
  obtain ⟨r, _, rfl⟩ := List.mem_map.1 h
  rfl
theorem str_one : ∀ (zs : List ByteArray), ∀ cs ∈ zs.map (fun n => [Value.string n]), ∀ u ∈ cs, u.oneCell' = true := by
  intro zs cs h u hu
  obtain ⟨r, _, rfl⟩ := List.mem_map.1 h
  simp only [List.mem_cons, List.not_mem_nil, or_false] at hu
  subst hu; rfl
theorem app99 {w : World} {ops : Array Oper} {rest : List Oper} {o : Oper} {a : Act} {Q : Exit → Act → World → Prop} (hgd : o.guard = none) (s y : Operand)
    (hop : o.op = .call { callee := .builtin .append, args := #[s, y], argTypes := #[63, 63] }) (B : Nat) (v x : Value) (zs more : List PEnt) (hs : a.eval s = v) (hy : a.eval y = x) (ho : OwnP B w 99 2 v (zs.map PEnt.cells)) (hx : RowAt w 2 x (more.map PEnt.cells)) (hl : zs.length + more.length ≤ 1000000000000) (hB : B ≤ w.heap.size)
    (h : ∀ v' w', Grew B 99 2 w v ((zs ++ more).map PEnt.cells) v' w' → wpList Tryz.prog ops Q rest (a.put o.dst v') w') :
    wpList Tryz.prog ops Q (o :: rest) a w := by
  obtain ⟨i, hi, hz, h1, h2⟩ := info_parts info99
  refine wpList_append_P w hgd s y 63 hop B 99 2 24 i _ Tryz.underlying63 hi hz h1 h2 rfl (by decide) v x (zs.map PEnt.cells) (more.map PEnt.cells) hs hy (pent_len _) (pent_len _) (pent_one _) ho hx ?_ ?_ hB ?_
  · rw [List.length_map, List.length_map]; unfold maxLen; omega
  · rw [List.length_map, List.length_map]; omega
  · intro v' w' hg
    rw [← List.map_append] at hg
    exact h v' w' hg
theorem app65 {w : World} {ops : Array Oper} {rest : List Oper} {o : Oper} {a : Act} {Q : Exit → Act → World → Prop} (hgd : o.guard = none) (s y : Operand)
    (hop : o.op = .call { callee := .builtin .append, args := #[s, y], argTypes := #[23, 23] }) (B : Nat) (v x : Value) (zs more : List IRec) (hs : a.eval s = v) (hy : a.eval y = x) (ho : OwnP B w 65 4 v (zs.map IRec.cells)) (hx : RowAt w 4 x (more.map IRec.cells)) (hl : zs.length + more.length ≤ 1000000000000) (hB : B ≤ w.heap.size)
    (h : ∀ v' w', Grew B 65 4 w v ((zs ++ more).map IRec.cells) v' w' → wpList Tryz.prog ops Q rest (a.put o.dst v') w') :
    wpList Tryz.prog ops Q (o :: rest) a w := by
  obtain ⟨i, hi, hz, h1, h2⟩ := info_parts info65
  refine wpList_append_P w hgd s y 23 hop B 65 4 56 i _ Tryz.underlying23 hi hz h1 h2 rfl (by decide) v x (zs.map IRec.cells) (more.map IRec.cells) hs hy (irec_len _) (irec_len _) (irec_one _) ho hx ?_ ?_ hB ?_
  · rw [List.length_map, List.length_map]; unfold maxLen; omega
  · rw [List.length_map, List.length_map]; omega
  · intro v' w' hg
    rw [← List.map_append] at hg
    exact h v' w' hg
theorem app88 {w : World} {ops : Array Oper} {rest : List Oper} {o : Oper} {a : Act} {Q : Exit → Act → World → Prop} (hgd : o.guard = none) (s y : Operand)
    (hop : o.op = .call { callee := .builtin .append, args := #[s, y], argTypes := #[24, 24] }) (B : Nat) (v x : Value) (zs more : List PDesc) (hs : a.eval s = v) (hy : a.eval y = x) (ho : OwnP B w 88 3 v (zs.map PDesc.cells)) (hx : RowAt w 3 x (more.map PDesc.cells)) (hl : zs.length + more.length ≤ 1000000000000) (hB : B ≤ w.heap.size)
    (h : ∀ v' w', Grew B 88 3 w v ((zs ++ more).map PDesc.cells) v' w' → wpList Tryz.prog ops Q rest (a.put o.dst v') w') :
    wpList Tryz.prog ops Q (o :: rest) a w := by
  obtain ⟨i, hi, hz, h1, h2⟩ := info_parts info88
  refine wpList_append_P w hgd s y 24 hop B 88 3 24 i _ Tryz.underlying24 hi hz h1 h2 rfl (by decide) v x (zs.map PDesc.cells) (more.map PDesc.cells) hs hy (pdesc_len _) (pdesc_len _) (pdesc_one _) ho hx ?_ ?_ hB ?_
  · rw [List.length_map, List.length_map]; unfold maxLen; omega
  · rw [List.length_map, List.length_map]; omega
  · intro v' w' hg
    rw [← List.map_append] at hg
    exact h v' w' hg
theorem app3 {w : World} {ops : Array Oper} {rest : List Oper} {o : Oper} {a : Act} {Q : Exit → Act → World → Prop} (hgd : o.guard = none) (s y : Operand)
    (hop : o.op = .call { callee := .builtin .append, args := #[s, y], argTypes := #[25, 25] }) (B : Nat) (v x : Value) (zs more : List Int) (hs : a.eval s = v) (hy : a.eval y = x) (ho : OwnP B w 3 1 v (zs.map intCells)) (hx : RowAt w 1 x (more.map intCells)) (hl : zs.length + more.length ≤ 1000000000000) (hB : B ≤ w.heap.size)
    (h : ∀ v' w', Grew B 3 1 w v ((zs ++ more).map intCells) v' w' → wpList Tryz.prog ops Q rest (a.put o.dst v') w') :
    wpList Tryz.prog ops Q (o :: rest) a w := by
  obtain ⟨i, hi, hz, h1, h2⟩ := info_parts info3
  refine wpList_append_P w hgd s y 25 hop B 3 1 8 i _ Tryz.underlying25 hi hz h1 h2 rfl (by decide) v x (zs.map intCells) (more.map intCells) hs hy (int_len _) (int_len _) (int_one _) ho hx ?_ ?_ hB ?_
  · rw [List.length_map, List.length_map]; unfold maxLen; omega
  · rw [List.length_map, List.length_map]; omega
  · intro v' w' hg
    rw [← List.map_append] at hg
    exact h v' w' hg
theorem app9 {w : World} {ops : Array Oper} {rest : List Oper} {o : Oper} {a : Act} {Q : Exit → Act → World → Prop} (hgd : o.guard = none) (s y : Operand)
    (hop : o.op = .call { callee := .builtin .append, args := #[s, y], argTypes := #[44, 44] }) (B : Nat) (v x : Value) (zs more : List ByteArray) (hs : a.eval s = v) (hy : a.eval y = x) (ho : OwnP B w 9 1 v (zs.map (fun n => [Value.string n]))) (hx : RowAt w 1 x (more.map (fun n => [Value.string n]))) (hl : zs.length + more.length ≤ 1000000000000) (hB : B ≤ w.heap.size)
    (h : ∀ v' w', Grew B 9 1 w v ((zs ++ more).map (fun n => [Value.string n])) v' w' → wpList Tryz.prog ops Q rest (a.put o.dst v') w') :
    wpList Tryz.prog ops Q (o :: rest) a w := by
  obtain ⟨i, hi, hz, h1, h2⟩ := info_parts info9
  refine wpList_append_P w hgd s y 44 hop B 9 1 16 i _ Tryz.underlying44 hi hz h1 h2 rfl (by decide) v x (zs.map (fun n => [Value.string n])) (more.map (fun n => [Value.string n])) hs hy (str_len _) (str_len _) (str_one _) ho hx ?_ ?_ hB ?_
  · rw [List.length_map, List.length_map]; unfold maxLen; omega
  · rw [List.length_map, List.length_map]; omega
  · intro v' w' hg
    rw [← List.map_append] at hg
    exact h v' w' hg
end Go.Proofs.YtjkenolgkkknaaaGreatDoor
namespace Go.Proofs.YtjkenolgkkknaaaGreatDoor
open Go.RowKit
def numAt (S : PSt) (k : Nat) : Int := match S.ins[k]? with | some x => x.num | none => 0
def prevG (S : PSt) (q : Nat) (x : PIn) : Bool := match q with
  | 0 => x.dir
  | k + 1 => decide (numAt S k < x.num) && (givenR S x.num && (!x.dir || linksR S x.num == 1))
def inG (S : PSt) (q : Nat) (x : PIn) : Bool := decide (x.data.size ≤ 256) && ((if x.dir = true then x.data.size == 0 else x.ents.isEmpty) && (entsR S x.ents && ((reachR S)[q]? == some true && prevG S q x)))
def insG (S : PSt) : Bool := (List.range S.ins.length).all fun q => match S.ins[q]? with | some x => inG S q x | none => false
def mayG (S : PSt) : Bool := decide (1 ≤ S.made.length ∧ S.made.length ≤ 8 ∧ 1 ≤ S.ins.length ∧ S.ins.length ≤ 257) && ((match S.ins[0]? with | some x => x.num == 1 && x.dir | none => false) && (openR S && ((S.made.all fun m => decide (0 ≤ m ∧ m ≤ 32)) && insG S)))
theorem insG_at {S : PSt} (h : insG S = true) {q : Nat} {x : PIn} (hx : S.ins[q]? = some x) : inG S q x = true := by
  unfold insG at h
  rw [List.all_eq_true] at h
  obtain ⟨hl, _⟩ := List.getElem?_eq_some_iff.1 hx
  have := h q (List.mem_range.2 hl)
  rw [hx] at this
  exact this
set_option maxRecDepth 100000 in
set_option maxHeartbeats 8000000 in
theorem may13 (S : PSt) (iv ov mv : Value) (w : World) (h : StRead w iv ov mv S) (hwf : S.wf) (hg : mayG S = true) :
    Calls Tryz.prog 13 #[.agg #[iv, ov, mv]] w fun e w' => e = .returned (.bool true) ∧ Below w.heap.size w w' := by
  unfold mayG at hg
  simp only [Bool.and_eq_true, decide_eq_true_eq, List.all_eq_true] at hg
  obtain ⟨⟨hm1, hm8, hi1, hi257⟩, hroot, hop, hmade, hins⟩ := hg
  have h27 : ∀ ww, Below w.heap.size w ww → Calls Tryz.prog 27 #[.agg #[iv, ov, mv]] ww fun e w' => e = .returned (.bool true) ∧ Below ww.heap.size ww w' := fun ww hb => by
    have := open27 S iv ov mv ww (h.below hb (Nat.le_refl _)) hwf
    rw [hop] at this
    exact this
  have h28 : ∀ ww, Below w.heap.size w ww → Calls Tryz.prog 28 #[.agg #[iv, ov, mv]] ww fun e w' => ∃ F : Nat, e = .returned (.slice (some ⟨F, 0, none⟩) S.ins.length S.ins.length) ∧ Below ww.heap.size ww w' ∧ RowAt w' 1 (.slice (some ⟨F, 0, none⟩) S.ins.length S.ins.length) ((reachR S).map boolCells) := fun ww hb => reached28 S iv ov mv ww (h.below hb (Nat.le_refl _)) hwf (by omega)
  have h29 : ∀ n ww, I64 n → Below w.heap.size w ww → Calls Tryz.prog 29 #[.agg #[iv, ov, mv], .int .i64 n] ww fun e w' => e = .returned (.bool (givenR S n)) ∧ Below ww.heap.size ww w' := fun n ww hn hb => given29 S iv ov mv n hn ww (h.below hb (Nat.le_refl _)) hwf
  have h31 : ∀ n ww, Below w.heap.size w ww → Calls Tryz.prog 31 #[.agg #[iv, ov, mv], .int .i64 n] ww fun e w' => e = .returned (.int .i64 (linksR S n)) ∧ Below ww.heap.size ww w' := fun n ww hb => links31 S iv ov mv n ww (h.below hb (Nat.le_refl _)) hwf
  have h30 : ∀ xn xd xs ev es ww, Below w.heap.size w ww → RowAt w 2 ev (es.map PEnt.cells) → es.length ≤ 1000000000 → Calls Tryz.prog 30 #[.agg #[iv, ov, mv], .agg #[.int .i64 xn, .bool xd, ev, .string xs]] ww fun e w' => e = .returned (.bool (entsR S es)) ∧ Below ww.heap.size ww w' := fun xn xd xs ev es ww hb he hl => entries30 S iv ov mv xn xd xs ev es ww (h.below hb (Nat.le_refl _)) hwf (he.below hb (Nat.le_refl _)) hl
  obtain ⟨ai, ni, ci, ao, no, co, am, nm, cm, rfl, rfl, rfl⟩ := h.slices
  obtain ⟨a, cap, e1, hai⟩ := h.ins_at2
  cases e1
  obtain ⟨a, cap, e1, ham⟩ := h.2.1.at_
  rw [List.length_map] at e1
  cases e1
  have HI := Lib.hid hai
  have HM := Lib.hid ham
  have HWF := Lib.hid hwf
  have HMD := Lib.hid hmade
  have HIN := Lib.hid hins
  obtain ⟨x0, hx0⟩ : ∃ x, S.ins[0]? = some x := ⟨_, List.getElem?_eq_getElem (by omega)⟩
  rw [hx0] at hroot
  simp only [Bool.and_eq_true, beq_iff_eq] at hroot
  obtain ⟨hn0, hd0⟩ := hroot
  obtain ⟨bi, oi, ev0, rfl, iI0, hoi, her0, hci0⟩ := hai 0 x0 hx0
  obtain ⟨iI, y0, y1, y2, y3⟩ := hci0 w (Below.refl _ _)
  rw [hn0] at y0
  rw [hd0] at y1
  simp only [Nat.zero_mul, Nat.add_zero] at y0 y1
  have g1 : ¬ (S.made.length : Int) < 1 := by omega
  have g2 : ¬ (8 : Int) < S.made.length := by omega
  have g3 : ¬ (S.ins.length : Int) < 1 := by omega
  have g4 : ¬ (257 : Int) < S.ins.length := by omega
  have g5 : 0 < S.ins.length := by omega
  have g6 : (0 : Int) < S.ins.length := by omega
  clear hai ham hwf h hmade hins hx0 y2 y3 her0 hci0 hoi hop
  go_enter Tryz.func13, Tryz.ntmps13
  go_wp2_with ((go_at_call 27; with_reducible refine (h27 _ (bel _ _)).mono ?_; rintro e w' ⟨rfl, hb⟩; obtain ⟨p, rfl⟩ := hb.rest; clear hb))
  go_loopw [3] (fun i wr => ∃ (q : Nat), i = .int .i64 q ∧ q ≤ S.made.length ∧ Below w.heap.size w wr ∧ Blk wr w.heap.size #[.slice (some ⟨bi, oi, none⟩) S.ins.length ci, .slice ao no co, .slice am S.made.length cm] 27) (fun i _ => (S.made.length - intOf i).toNat)
  case atStart => exact ⟨0, rfl, by omega, bel _ _, (Blk.new w _ 27).junk _⟩
  case round =>
    clear y0 y1 iI
    rename World => wq
    obtain ⟨q, rfl, hq, hb, hblk⟩ := hrel
    have iB : Bel w wq := ⟨hb⟩
    have iL := hblk.lt
    have s0 := hblk.cell 0
    have s1 := hblk.cell 1
    have s2 := hblk.cell 2
    simp at s0 s1 s2
    have HB := Lib.hid hblk
    clear hblk
    by_cases hlt : q < S.made.length
    · obtain ⟨z, hz⟩ : ∃ z, S.made[q]? = some z := ⟨_, List.getElem?_eq_getElem hlt⟩
      obtain ⟨b, off, rfl, iG0, iG, hc⟩ := HM.out wq hb q (intCells z) (by rw [List.getElem?_map, hz]; rfl)
      have c0 := hc 0 _ rfl
      rw [Nat.mul_one, Nat.add_zero] at c0
      obtain ⟨z1, z2⟩ := HMD.out z (List.mem_of_getElem? hz)
      have hz0 : ¬ z < 0 := by omega
      have hz32 : ¬ 32 < z := by omega
      have hltI : (q : Int) < S.made.length := by omega
      clear hc hz z1 z2
      go_wp2_with fail
      go_roundw
      case rel => exact ⟨q + 1, by go_num, by omega, bel _ _, HB.out⟩
      case measure => simp [intOf]; omega
    · have hltI : ¬ (q : Int) < S.made.length := by omega
      go_wp2_with (go_at_call 28; with_reducible refine (h28 _ (bel _ _)).mono ?_; rintro e w8 ⟨F, rfl, hb8, hF⟩; have i8 : Bel w w8 := ⟨(bel w _).trans (hb8.mono (bel w _).size)⟩; have hB8 := (Keep.of_below hb8 (fun _ => False)).blk HB.out (fun h => h); have HF := Lib.hid (And.intro hF (And.intro hB8 i8.below)); clear hF hB8 hb8)
      go_loopw [5] (fun i wr => ∃ (q : Nat), i = .int .i64 q ∧ q ≤ S.ins.length ∧ Below w.heap.size w wr ∧ Blk wr w.heap.size #[.slice (some ⟨bi, oi, none⟩) S.ins.length ci, .slice ao no co, .slice am S.made.length cm] 27 ∧ RowAt wr 1 (.slice (some ⟨F, 0, none⟩) S.ins.length S.ins.length) ((reachR S).map boolCells)) (fun i _ => (S.ins.length - intOf i).toNat)
      case atStart => exact ⟨0, rfl, by omega, HF.out.2.2, HF.out.2.1, HF.out.1⟩
      case round =>
        clear s0 s1 s2 iB iL
        obtain ⟨q, rfl, hq, hb, hblk, hF⟩ := hrel
        have iB : Bel w wr := ⟨hb⟩
        have iL := hblk.lt
        have s0 := hblk.cell 0
        have s1 := hblk.cell 1
        have s2 := hblk.cell 2
        simp at s0 s1 s2
        have HB := Lib.hid (And.intro hblk hF)
        clear hblk
        by_cases hlt : q < S.ins.length
        · obtain ⟨x, hx⟩ : ∃ x, S.ins[q]? = some x := ⟨_, List.getElem?_eq_getElem hlt⟩
          have hin := insG_at HIN.out hx
          unfold inG at hin
          simp only [Bool.and_eq_true, decide_eq_true_eq, beq_iff_eq] at hin
          obtain ⟨hsz, hde, hen, hre, hpv⟩ := hin
          obtain ⟨bi', oi', ev, he, -, hoi, her, hci⟩ := HI.out q x hx
          cases he
          obtain ⟨iI, x0, x1, x2, x3⟩ := hci wr hb
          obtain ⟨aF, cF, eF, hatF⟩ := hF.at_
          simp only [Value.slice.injEq] at eF
          obtain ⟨rfl, -, rfl⟩ := eF
          obtain ⟨bF, oF, hf, -, iF, hcf⟩ := hatF wr (Below.refl _ _) q (boolCells true) (by rw [List.getElem?_map, hre]; rfl)
          cases hf
          have f0 := hcf 0 _ rfl
          rw [Nat.mul_one, Nat.add_zero, Nat.zero_add] at f0
          have hWx := HWF.out.2.2.2.1 x (List.mem_of_getElem? hx)
          have h30x : ∀ ww, Below w.heap.size w ww → Calls Tryz.prog 30 #[.agg #[.slice (some ⟨bi, oi, none⟩) S.ins.length ci, .slice ao no co, .slice am S.made.length cm], .agg #[.int .i64 x.num, .bool x.dir, ev, .string x.data]] ww fun e w' => e = .returned (.bool true) ∧ Below ww.heap.size ww w' := fun ww hb => by
            have := h30 x.num x.dir x.data ev x.ents ww hb her hWx.2.1
            rw [hen] at this
            exact this
          have h29x := fun ww hb => h29 x.num ww hWx.1 hb
          have h31x := fun ww hb => h31 x.num ww hb
          obtain ⟨ae, ce, rfl, -⟩ := her.at_
          rw [List.length_map] at x2 h30x
          have hltI : (q : Int) < S.ins.length := by omega
          have hxl := hWx.2.1
          have hprev : ∀ k, q = k + 1 → ∃ m, wr.cell? ⟨bi, oi + k * 4, none⟩ = some (.int .i64 m) ∧ m = numAt S k := by
            intro k hk
            obtain ⟨y, hy⟩ : ∃ y, S.ins[k]? = some y := ⟨_, List.getElem?_eq_getElem (by omega)⟩
            obtain ⟨_, _, _, he2, -, _, _, hci2⟩ := HI.out k y hy
            cases he2
            exact ⟨y.num, (hci2 wr hb).2.1, by simp [numAt, hy]⟩
          obtain ⟨xn, xd, xe, xs⟩ := x
          simp only at x0 x1 x2 x3 hsz hde hen hpv h30x h29x h31x hxl
          have hszI : ¬ (256 : Int) < xs.size := by omega
          clear hcf hatF her hoi hci hx hen hre hF hWx h29 h30 h31 h27 h28
          rcases q with _ | k
          · have hxd : xd = true := hpv
            subst hxd
            have hxs : xs = { data := #[] } := by
              have hd : (xs.size == 0) = true := hde
              obtain ⟨d⟩ := xs
              have h0 : d.size = 0 := beq_iff_eq.1 hd
              rw [Array.eq_empty_of_size_eq_zero h0]
            subst hxs
            clear hprev hpv hde
            simp only [Nat.zero_mul, Nat.add_zero] at x0 x1 x2 x3 f0
            go_wp2_with fail
            refine wp_region_quiet_rest (by kernel_rfl) (by kernel_rfl) (WQ.out ?_)
            repeat
              refine WQ_step (fun K hK => ?_)
              go_simp
              first
                | (refine hK _ ?_; clear hK K)
                | (apply Exists.intro
                   refine ⟨fun _ => ?_, hK _ ?_⟩
                   focus (first | (with_reducible refine calls_in (h29x _ (bel _ _)) (fun w' hb => ?_); first | exact hb.rest | exact rest1 hb | exact rest2 hb) | (with_reducible refine calls_in (h30x _ (bel _ _)) (fun w' hb => ?_); first | exact hb.rest | exact rest1 hb | exact rest2 hb))
                   clear hK K)
            refine WQ_nil ?_
            intro w1 hw1
            obtain ⟨p, hw1⟩ := hw1
            subst hw1
            go_wp2_with ((go_at_call 31; with_reducible refine (h31x _ (bel _ _)).mono ?_; rintro e w' ⟨rfl, hb⟩; obtain ⟨p, rfl⟩ := hb.rest; clear hb))
            go_roundw
            case rel => exact ⟨1, by go_num, by omega, bel _ _, (Keep.of_below (bel wr _) (fun _ => False)).blk HB.out.1 (fun h => h), HB.out.2.below (bel wr _) (Nat.le_refl _)⟩
            case measure => simp [intOf]; omega
          · obtain ⟨m, y0, hm⟩ := hprev k rfl
            unfold prevG at hpv
            simp only [Bool.and_eq_true, decide_eq_true_eq, Bool.or_eq_true, Bool.not_eq_true', beq_iff_eq] at hpv
            obtain ⟨hp1, hp2, hp3⟩ := hpv
            rw [← hm] at hp1
            rw [hp2] at h29x
            clear hprev hm hp2
            generalize linksR S xn = ln at h31x hp3
            rcases xd with _ | _
            · have hxe : xe = [] := by simpa using hde
              subst hxe
              clear hde hp3
              have kI : ((k + 1 : Nat) : Int) - 1 = k := by omega
              have kW : IntKind.i64.wrap (k : Int) = k := I64.wrap ⟨by omega, by omega⟩
              have kl : k < S.ins.length := by omega
              have klI : (k : Int) < S.ins.length := by omega
              have k0 : (0 : Int) < ((k + 1 : Nat) : Int) := by omega
              have k0b : decide ((0 : Int) < ((k + 1 : Nat) : Int)) = true := decide_eq_true k0
              have g1 : ¬ xn ≤ m := by omega
              have g1b : decide (xn ≤ m) = false := decide_eq_false g1
              go_wp2_with fail
              refine wp_region_quiet_rest (by kernel_rfl) (by kernel_rfl) (WQ.out ?_)
              repeat
                refine WQ_step (fun K hK => ?_)
                go_simp
                first
                  | (refine hK _ ?_; clear hK K)
                  | (apply Exists.intro
                     refine ⟨fun _ => ?_, hK _ ?_⟩
                     focus (first | (with_reducible refine calls_in (h29x _ (bel _ _)) (fun w' hb => ?_); first | exact hb.rest | exact rest1 hb | exact rest2 hb) | (with_reducible refine calls_in (h30x _ (bel _ _)) (fun w' hb => ?_); first | exact hb.rest | exact rest1 hb | exact rest2 hb))
                     clear hK K)
              refine WQ_nil ?_
              intro w1 hw1
              obtain ⟨p, hw1⟩ := hw1
              subst hw1
              go_wp2_with ((go_at_call 31; with_reducible refine (h31x _ (bel _ _)).mono ?_; rintro e w' ⟨rfl, hb⟩; obtain ⟨p, rfl⟩ := hb.rest; clear hb))
              go_roundw
              case rel => exact ⟨k + 1 + 1, by go_num, by omega, bel _ _, (Keep.of_below (bel wr _) (fun _ => False)).blk HB.out.1 (fun h => h), HB.out.2.below (bel wr _) (Nat.le_refl _)⟩
              case measure => simp [intOf]; omega
            · have hl1 : ln = 1 := by simpa using hp3
              subst hl1
              have hxs : xs = { data := #[] } := by
                have hd : (xs.size == 0) = true := hde
                obtain ⟨d⟩ := xs
                have h0 : d.size = 0 := beq_iff_eq.1 hd
                rw [Array.eq_empty_of_size_eq_zero h0]
              subst hxs
              clear hde hp3
              have kI : ((k + 1 : Nat) : Int) - 1 = k := by omega
              have kW : IntKind.i64.wrap (k : Int) = k := I64.wrap ⟨by omega, by omega⟩
              have kl : k < S.ins.length := by omega
              have klI : (k : Int) < S.ins.length := by omega
              have k0 : (0 : Int) < ((k + 1 : Nat) : Int) := by omega
              have k0b : decide ((0 : Int) < ((k + 1 : Nat) : Int)) = true := decide_eq_true k0
              have g1 : ¬ xn ≤ m := by omega
              have g1b : decide (xn ≤ m) = false := decide_eq_false g1
              go_wp2_with fail
              refine wp_region_quiet_rest (by kernel_rfl) (by kernel_rfl) (WQ.out ?_)
              repeat
                refine WQ_step (fun K hK => ?_)
                go_simp
                first
                  | (refine hK _ ?_; clear hK K)
                  | (apply Exists.intro
                     refine ⟨fun _ => ?_, hK _ ?_⟩
                     focus (first | (with_reducible refine calls_in (h29x _ (bel _ _)) (fun w' hb => ?_); first | exact hb.rest | exact rest1 hb | exact rest2 hb) | (with_reducible refine calls_in (h30x _ (bel _ _)) (fun w' hb => ?_); first | exact hb.rest | exact rest1 hb | exact rest2 hb))
                     clear hK K)
              refine WQ_nil ?_
              intro w1 hw1
              obtain ⟨p, hw1⟩ := hw1
              subst hw1
              go_wp2_with ((go_at_call 31; with_reducible refine (h31x _ (bel _ _)).mono ?_; rintro e w' ⟨rfl, hb⟩; obtain ⟨p, rfl⟩ := hb.rest; clear hb))
              go_roundw
              case rel => exact ⟨k + 1 + 1, by go_num, by omega, bel _ _, (Keep.of_below (bel wr _) (fun _ => False)).blk HB.out.1 (fun h => h), HB.out.2.below (bel wr _) (Nat.le_refl _)⟩
              case measure => simp [intOf]; omega
        · have hltI : ¬ (q : Int) < S.ins.length := by omega
          go_wp2_with fail
          exact bodyPost_ret (v := .bool true) (by simp [results, Tryz.results13, go_sem]) rfl ⟨rfl, bel _ _⟩
end Go.Proofs.YtjkenolgkkknaaaGreatDoor
namespace Go.Proofs.YtjkenolgkkknaaaGreatDoor
open Go.RowKit
theorem OwnP.below {B : Nat} {w w' : World} {e : TypeId} {k : Nat} {v : Value} {rows : List (List Value)} (h : OwnP B w e k v rows) (hb : Below w.heap.size w w') : OwnP B w' e k v rows := h.keep (Keep.of_below hb (fun _ => False)) (fun _ _ h => h)
theorem Grew.on {B : Nat} {e : TypeId} {k : Nat} {w w' : World} {v v' : Value} {rows rows' : List (List Value)} (h : Grew B e k w v rows v' w') (ho : OwnP B w e k v rows') (hB : B ≤ w.heap.size) : Below B w w' := h.2.1.below hB (fun i hi hg => by have := ho.ge hg; omega)
theorem OwnP.formL {B : Nat} {w : World} {e : TypeId} {k : Nat} {v : Value} {rows : List (List Value)} (h : OwnP B w e k v rows) : ∃ a c, v = .slice a rows.length c := by
  rcases h with ⟨rfl, rfl⟩ | ⟨g, cap, arr, rfl, _⟩
  · exact ⟨_, _, rfl⟩
  · exact ⟨_, _, rfl⟩
/-- The first cell of an owned slice's block. -/
theorem StOwn.ins_form {B : Nat} {w : World} {iv ov mv : Value} {S : PSt} (h : StOwn B w iv ov mv S) (h0 : 0 < S.ins.length) : ∃ bi cap, iv = .slice (some ⟨bi, 0, none⟩) S.ins.length cap := by
  obtain ⟨_, _, is, h3, h4, _⟩ := h
  rcases h3 with ⟨_, h1⟩ | ⟨g, cap, arr, rfl, _⟩
  · rw [List.map_eq_nil_iff] at h1
    rw [h1] at h4
    simp at h4
    omega
  · exact ⟨g, cap, by rw [List.length_map, h4]⟩
/-- The inodes' cells are not frozen. -/
theorem StOwn.ins_thaw {B : Nat} {w w1 : World} {bi cap K : Nat} {ov mv : Value} {S : PSt} (h : StOwn B w (.slice (some ⟨bi, 0, none⟩) S.ins.length cap) ov mv S) (hK : K < S.ins.length) (hb : Below w.heap.size w w1) : w1.frozen? ⟨bi, K * 4 + 2, none⟩ = false := by
  obtain ⟨_, _, is, h3, h4, _⟩ := h
  have h3 := h3.below hb
  rcases h3 with ⟨h1, _⟩ | ⟨g, cap, arr, he, _, hbk, _⟩
  · cases h1
  · simp only [Value.slice.injEq, Option.some.injEq, Addr.mk.injEq] at he
    obtain ⟨⟨rfl, -, -⟩, -, -⟩ := he
    exact hbk.frozen _
set_option maxRecDepth 100000 in
set_option maxHeartbeats 8000000 in
theorem put97 (B b : Nat) (S : PSt) (iv ov mv : Value) (dir num : Int) (name : ByteArray) (K : Nat) (x : PIn) (w : World) (hb : Blk w b #[iv, ov, mv] 27) (ho : StOwn B w iv ov mv S) (hB : B ≤ w.heap.size) (hwf : S.wf) (hns : name.size ≤ 1000000000) (hat : atR S dir = K) (hx : S.ins[K]? = some x) :
    Calls Tryz.prog 97 #[.pointer (some ⟨b, 0, none⟩), .int .i64 dir, .string name, .int .i64 num] w fun e w' => e = .returned (.tuple #[]) ∧ Below B w w' ∧ Keep (InEn w) w w' ∧ StOwn B w' iv ov mv (S.ents K x (insF (fun e => belowR name e.name) ⟨name, num⟩ x.ents false [])) := by
  obtain ⟨hKl, -⟩ := List.getElem?_eq_some_iff.1 hx
  obtain ⟨bi, cap, rfl⟩ := ho.ins_form (by omega)
  have h51 : ∀ ww, Below w.heap.size w ww → Calls Tryz.prog 51 #[.agg #[.slice (some ⟨bi, 0, none⟩) S.ins.length cap, ov, mv], .int .i64 dir] ww fun e w' => e = .returned (.int .i64 (K : Int)) ∧ Below ww.heap.size ww w' := fun ww hb => by
    have := at51 S _ ov mv dir ww (ho.read.below hb (Nat.le_refl _)) hwf.1
    rw [hat] at this
    exact this
  obtain ⟨a, cap', e1, hai⟩ := ho.read.ins_at2
  cases e1
  obtain ⟨bi', oi, ev, he, iI0, hoi, her, hci⟩ := hai K x hx
  cases he
  obtain ⟨iI, -, -, x2, -⟩ := hci w (Below.refl _ _)
  rw [Nat.zero_add] at x2
  have HX2 := Lib.hid x2
  have hel := (hwf.2.2.2.1 x (List.mem_of_getElem? hx)).2.1
  obtain ⟨ae, ce, rfl, hae⟩ := her.at_
  rw [List.length_map] at x2
  have iL := hb.lt
  have s0 := hb.cell 0
  have s1 := hb.cell 1
  have s2 := hb.cell 2
  simp at s0 s1 s2
  have hone := ho.1.one
  have hone2 := ho.2.1.one
  obtain ⟨ao, co, rfl⟩ := ho.1.formL
  obtain ⟨am, cm, rfl⟩ := ho.2.1.formL
  simp only [List.length_map] at h51 s1 s2
  have hKI : (K : Int) < S.ins.length := by omega
  have H := Lib.hid (And.intro ho (And.intro hx hb))
  obtain ⟨xn, xd, xe, xs⟩ := x
  simp only at x2 hae hel ⊢
  obtain ⟨R, hR⟩ : ∃ R, insF (fun e => belowR name e.name) ⟨name, num⟩ xe false [] = R := ⟨_, rfl⟩
  rw [hR]
  have HR := Lib.hid hR
  have HA := Lib.hid hae
  have hst : ∀ w2, Below w.heap.size w w2 → BlockLt bi w2 ∧ w2.cell? ⟨bi, K * 4 + 2, none⟩ = some (.slice ae xe.length ce) := by
    intro w2 h2
    obtain ⟨i2, -, -, y2, -⟩ := hci w2 h2
    rw [Nat.zero_add, List.length_map] at y2
    exact ⟨i2, y2⟩
  have HST := Lib.hid hst
  clear hst
  clear ho hx hb her hai hoi hci hR hae hone hone2 hat
  go_enter Tryz.func97, Tryz.ntmps97
  go_upto_region 0 with fail
  refine wp_region_quiet_rest (by kernel_rfl) (by kernel_rfl) (WQ.out ?_)
  repeat
    refine WQ_step (fun K hK => ?_)
    go_simp
    first
      | (refine hK _ ?_; clear hK K)
      | (apply Exists.intro
         refine ⟨fun _ => ?_, hK _ ?_⟩
         focus ((with_reducible refine calls_in (h51 _ (bel _ _)) (fun w' hb => ?_); first | exact hb.rest | exact rest1 hb | exact rest2 hb))
         clear hK K)
  refine WQ_nil ?_
  intro w1 hw1
  obtain ⟨p, hw1⟩ := hw1
  subst hw1
  go_wp2_with fail
  go_loopw [9, 10, 11] (fun v9 v10 i wr => ∃ (q : Nat) (d : Bool) (zs : List PEnt), i = .int .i64 q ∧ v10 = .bool d ∧ q ≤ xe.length ∧ zs.length ≤ 2 * q ∧ OwnP w.heap.size wr 99 2 v9 (zs.map PEnt.cells) ∧ insF (fun e => belowR name e.name) ⟨name, num⟩ (xe.drop q) d zs = R ∧ Below w.heap.size w wr) (fun _ _ i _ => (xe.length - intOf i).toNat)
  case atStart => exact ⟨0, false, [], rfl, rfl, by omega, by simp, .inl ⟨rfl, rfl⟩, HR.out, bel _ _⟩
  case round =>
    obtain ⟨q, d, zs, rfl, rfl, hq, hzl, hO, hre, hbw⟩ := hrel
    have iB : Bel w wr := ⟨hbw⟩
    obtain ⟨iI2, y2⟩ := HST.out wr hbw
    obtain ⟨va, vc, rfl⟩ := hO.formL
    generalize hzn : (zs.map PEnt.cells).length = zn at hO ⊢
    have HO := Lib.hid (And.intro hO hzn)
    clear hO hzn
    by_cases hlt : q < xe.length
    · obtain ⟨z, hz⟩ : ∃ z, xe[q]? = some z := ⟨_, List.getElem?_eq_getElem hlt⟩
      rw [insF_drop _ _ _ q z d zs hz] at hre
      obtain ⟨be, oe, rfl, iE0, iE, hce⟩ := HA.out wr hbw q z.cells (by rw [List.getElem?_map, hz]; rfl)
      have c0 := hce 0 _ rfl
      have c1 := hce 1 _ rfl
      rw [Nat.add_zero] at c0
      have hltI : (q : Int) < xe.length := by omega
      have hcz : ∀ w2, Below w.heap.size w w2 → BlockLt be w2 ∧ w2.cell? ⟨be, oe + q * 2, none⟩ = some (.string z.name) ∧ w2.cell? ⟨be, oe + q * 2 + 1, none⟩ = some (.int .i64 z.num) := by
        intro w2 h2
        obtain ⟨be', oe', he, _, i2, hc⟩ := HA.out w2 h2 q z.cells (by rw [List.getElem?_map, hz]; rfl)
        cases he
        exact ⟨i2, hc 0 _ rfl, hc 1 _ rfl⟩
      have HCZ := Lib.hid hcz
      clear hce hz hcz
      rcases d with _ | _
      · rw [if_neg (by decide)] at hre
        have h53 : ∀ ww, Calls Tryz.prog 53 #[.string name, .string z.name] ww fun e w' => e = .returned (.bool (belowR name z.name)) ∧ Below ww.heap.size ww w' := fun ww => below53 name z.name (by omega) ww
        generalize belowR name z.name = t at hre h53
        rcases t with _ | _
        · rw [if_neg (by decide)] at hre
          have HRE := Lib.hid hre
          clear hre
          go_wp2_with (first | (go_at_call 53; with_reducible refine (h53 _).mono ?_; rintro e w' ⟨rfl, hb⟩; obtain ⟨p, rfl⟩ := hb.rest; clear hb) | (at_builtin; refine app99 rfl (.tmp 51) (.tmp 59) rfl w.heap.size _ _ zs [z] rfl (by go_simp) (HO.out.1.below (bel wr _)) (RowAt.single (Blk.new_i _ _ _ _) 2 1) (by simp; omega) (bel w _).size ?_))
          intro v' w' hg
          have hbg := hg.on (HO.out.1.below (bel wr _)) (bel w _).size
          have hb2 := (bel w _).trans hbg
          have hO2 : OwnP w.heap.size w' 99 2 v' ((zs ++ [z]).map PEnt.cells) := by have := hg.1; simpa using this
          have H2 := Lib.hid (And.intro hO2 hb2)
          clear hg hbg hO2 hb2
          go_wp2_with fail
          go_roundw
          case rel => exact ⟨q + 1, false, _, by go_num, rfl, by omega, by simp; omega, H2.out.1, HRE.out, H2.out.2⟩
          case measure => simp [intOf]; omega
        · rw [if_pos rfl] at hre
          have HRE := Lib.hid hre
          clear hre
          go_wp2_with (first | (go_at_call 53; with_reducible refine (h53 _).mono ?_; rintro e w' ⟨rfl, hb⟩; obtain ⟨p, rfl⟩ := hb.rest; clear hb) | (at_builtin; refine app99 rfl (.tmp 45) (.tmp 49) rfl w.heap.size _ _ zs [⟨name, num⟩] rfl (by go_simp) (HO.out.1.below (bel wr _)) (RowAt.single (Blk.new_i _ _ _ _) 2 1) (by simp; omega) (bel w _).size ?_))
          intro v' w' hg
          have hbg := hg.on (HO.out.1.below (bel wr _)) (bel w _).size
          have hb2 := (bel w _).trans hbg
          have hO2 : OwnP w.heap.size w' 99 2 v' ((zs ++ [(⟨name, num⟩ : PEnt)]).map PEnt.cells) := by have := hg.1; simpa using this
          have i2 : Bel w w' := ⟨hb2⟩
          have H2 := Lib.hid hO2
          obtain ⟨iE2, d0, d1⟩ := HCZ.out w' hb2
          obtain ⟨iI3, z2⟩ := HST.out w' hb2
          clear hg hbg hO2 hb2 c0 c1 iE y2 iI2
          go_wp2_with (at_builtin; refine app99 rfl (.tmp 51) (.tmp 59) rfl w.heap.size _ _ (zs ++ [(⟨name, num⟩ : PEnt)]) [z] rfl (by go_simp) (H2.out.below (bel w' _)) (RowAt.single (Blk.new_i _ _ _ _) 2 1) (by simp; omega) (bel w _).size ?_)
          intro v' w'' hg
          have hbg := hg.on (H2.out.below (bel w' _)) (bel w _).size
          have hb2 := (bel w _).trans hbg
          have hO2 : OwnP w.heap.size w'' 99 2 v' ((zs ++ [(⟨name, num⟩ : PEnt)] ++ [z]).map PEnt.cells) := by have := hg.1; simpa using this
          have H3 := Lib.hid (And.intro hO2 hb2)
          clear hg hbg hO2 hb2
          go_wp2_with fail
          go_roundw
          case rel => exact ⟨q + 1, true, _, by go_num, rfl, by omega, by simp; omega, H3.out.1, HRE.out, H3.out.2⟩
          case measure => simp [intOf]; omega
      · rw [if_pos rfl] at hre
        have HRE := Lib.hid hre
        clear hre
        go_wp2_with (at_builtin; refine app99 rfl (.tmp 51) (.tmp 59) rfl w.heap.size _ _ zs [z] rfl (by go_simp) (HO.out.1.below (bel wr _)) (RowAt.single (Blk.new_i _ _ _ _) 2 1) (by simp; omega) (bel w _).size ?_)
        intro v' w' hg
        have hbg := hg.on (HO.out.1.below (bel wr _)) (bel w _).size
        have hb2 := (bel w _).trans hbg
        have hO2 : OwnP w.heap.size w' 99 2 v' ((zs ++ [z]).map PEnt.cells) := by have := hg.1; simpa using this
        have H2 := Lib.hid (And.intro hO2 hb2)
        clear hg hbg hO2 hb2
        go_wp2_with fail
        go_roundw
        case rel => exact ⟨q + 1, true, _, by go_num, rfl, by omega, by simp; omega, H2.out.1, HRE.out, H2.out.2⟩
        case measure => simp [intOf]; omega
    · rw [insF_end _ _ _ q d zs hlt] at hre
      have hltI : ¬ (q : Int) < xe.length := by omega
      have hfin : ∀ (w1 : World) (v : Value), OwnP w.heap.size w1 99 2 v (R.map PEnt.cells) → Below w.heap.size w w1 → Below B w (w1.setCell ⟨bi, K * 4 + 2, none⟩ v) ∧ Keep (InEn w) w (w1.setCell ⟨bi, K * 4 + 2, none⟩ v) ∧ StOwn B (w1.setCell ⟨bi, K * 4 + 2, none⟩ v) (.slice (some ⟨bi, 0, none⟩) S.ins.length cap) (.slice ao (S.op.map PDesc.cells).length co) (.slice am (S.made.map intCells).length cm) (S.ents K ⟨xn, xd, xe, xs⟩ R) := by
        intro w1 v h1 h2
        obtain ⟨ho, hx, hb⟩ := H.out
        obtain ⟨r1, r2, r3⟩ := ho.setEnts hx HX2.out (h1.mono hB) (Keep.of_below h2 _) (fun k hk => .inr (h1.ge hk)) hB
        exact ⟨r2, r3, r1⟩
      have HFIN := Lib.hid hfin
      clear hfin
      rcases d with _ | _
      · rw [if_neg (by decide)] at hre
        have HRE := Lib.hid hre
        clear hre
        go_wp2_with (at_builtin; refine app99 rfl (.tmp 63) (.tmp 67) rfl w.heap.size _ _ zs [⟨name, num⟩] rfl (by go_simp) (HO.out.1.below (bel wr _)) (RowAt.single (Blk.new_i _ _ _ _) 2 1) (by simp; omega) (bel w _).size ?_)
        intro v' w' hg
        have hbg := hg.on (HO.out.1.below (bel wr _)) (bel w _).size
        have hb2 := (bel w _).trans hbg
        have i2 : Bel w w' := ⟨hb2⟩
        obtain ⟨iI3, z2⟩ := HST.out w' hb2
        have hO2 : OwnP w.heap.size w' 99 2 v' ((zs ++ [(⟨name, num⟩ : PEnt)]).map PEnt.cells) := by have := hg.1; simpa using this
        rw [HRE.out] at hO2
        have hf := HFIN.out w' v' hO2 hb2
        obtain ⟨va2, vc2, rfl⟩ := hO2.formL
        generalize (R.map PEnt.cells).length = zn2 at hf ⊢
        have HF := Lib.hid hf
        have hfz := H.out.1.ins_thaw hKl hb2
        clear hg hbg hO2 hb2 hf
        go_wp2_with fail
        exact bodyPost_end (v := .tuple #[]) (by simp [results, go_sem]) rfl ⟨rfl, by have := HF.out; first | exact this | (simp only [List.length_map] at this; exact this)⟩
      · rw [if_pos rfl] at hre
        subst hre
        have hf := HFIN.out wr _ HO.out.1 hbw
        have HF := Lib.hid hf
        have hfz := H.out.1.ins_thaw hKl hbw
        clear hf
        go_wp2_with fail
        exact bodyPost_end (v := .tuple #[]) (by simp [results, go_sem]) rfl ⟨rfl, by have := HF.out; first | exact this | (simp only [List.length_map] at this; exact this)⟩
end Go.Proofs.YtjkenolgkkknaaaGreatDoor
namespace Go.Proofs.YtjkenolgkkknaaaGreatDoor
open Go.RowKit
/-- A path of one byte below the root, and its name. -/
def p1 (c : UInt8) : ByteArray := ⟨#[47, c]⟩
def n1 (c : UInt8) : ByteArray := ⟨#[c]⟩
set_option maxRecDepth 100000 in
set_option maxHeartbeats 8000000 in
theorem parse141 (c : UInt8) (hc : c ≠ 47) (hk : checkR (n1 c) = 0) (w : World) :
    Calls Tryz.prog 141 #[.string (p1 c)] w fun e w' => ∃ g cap, e = .returned (.tuple #[.slice (some ⟨g, 0, none⟩) 1 cap, .int .i64 0]) ∧ Below w.heap.size w w' ∧ 1 ≤ cap ∧ RowAt w' 1 (.slice (some ⟨g, 0, none⟩) 1 cap) [[.string (n1 c)]] := by
  have h52 : ∀ ww, Calls Tryz.prog 52 #[.string (n1 c)] ww fun e w' => e = .returned (.int .i64 0) ∧ Below ww.heap.size ww w' := fun ww => by
    have := check52 (n1 c) ww
    rw [hk] at this
    exact this
  have hsz : (p1 c).size = 2 := rfl
  have hex : (p1 c).extract 1 2 = n1 c := rfl
  have hne : (p1 c).toList.isEmpty = false := by kernel_rfl
  have hne2 : ((p1 c).toList == [47]) = false := by kernel_rfl
  have hi0 : ∀ h, ((p1 c)[0]'h).toNat = 47 := fun h => rfl
  have hi1 : ∀ h, (p1 c)[1]'h = c := fun h => rfl
  have hcn : ¬ c.toNat = 47 := fun e => hc (by rw [← UInt8.toNat_inj]; exact e)
  have hcI : ¬ ((c.toNat : Int) = 47) := by omega
  generalize hp : p1 c = s at *
  generalize hn : n1 c = m at *
  have HP := Lib.hid (And.intro hp hn)
  clear hp hn hc hk
  go_enter Tryz.func141, Tryz.ntmps141
  go_wp2_with fail
  go_loopw [4, 5, 6] (fun v4 v5 v6 wr => Below w.heap.size w wr ∧ ((v4 = .slice none 0 0 ∧ v5 = .int .i64 1 ∧ v6 = .int .i64 1) ∨ (v4 = .slice none 0 0 ∧ v5 = .int .i64 1 ∧ v6 = .int .i64 2) ∨ (∃ g cap, v4 = .slice (some ⟨g, 0, none⟩) 1 cap ∧ v5 = .int .i64 3 ∧ v6 = .int .i64 3 ∧ 1 ≤ cap ∧ RowAt wr 1 (.slice (some ⟨g, 0, none⟩) 1 cap) [[.string m]]))) (fun _ _ i _ => (4 - intOf i).toNat)
  case atStart => exact ⟨bel _ _, .inl ⟨rfl, rfl, rfl⟩⟩
  case round =>
    obtain ⟨hb, h⟩ := hrel
    have iB : Bel w wr := ⟨hb⟩
    rcases h with ⟨rfl, rfl, rfl⟩ | ⟨rfl, rfl, rfl⟩ | ⟨g, cap, rfl, rfl, rfl, hcap, hR⟩
    · go_wp2_with fail
      go_roundw
      case rel => exact ⟨bel _ _, .inr (.inl ⟨rfl, rfl, rfl⟩)⟩
      case measure => simp [intOf]
    · go_wp2_with (first | (go_at_call 52; with_reducible refine (h52 _).mono ?_; rintro e w' ⟨rfl, hb⟩; obtain ⟨p, rfl⟩ := hb.rest; clear hb) | (at_builtin; refine app9 rfl (.tmp 44) (.tmp 49) rfl w.heap.size _ _ [] [m] rfl (by go_simp) (.inl ⟨rfl, rfl⟩) (RowAt.single (Blk.new_i _ _ _ _) 1 1) (by simp) (bel w _).size ?_))
      intro v' w' hg
      have hbg := hg.on (.inl ⟨rfl, rfl⟩ : OwnP w.heap.size _ 9 1 (.slice none 0 0) []) (bel w _).size
      have hb2 := (bel w _).trans hbg
      have hO2 := hg.1
      have hf : ∃ g cap, v' = .slice (some ⟨g, 0, none⟩) 1 cap ∧ 1 ≤ cap := by
        rcases hO2 with ⟨_, h0⟩ | ⟨g, cap, arr, rfl, _, _, hn, _⟩
        · cases h0
        · exact ⟨g, cap, rfl, hn⟩
      obtain ⟨g, cap, rfl, hcap⟩ := hf
      have H2 := Lib.hid (And.intro hO2.row hb2)
      clear hg hbg hO2 hb2
      go_wp2_with fail
      go_roundw
      case rel => exact ⟨H2.out.2, .inr (.inr ⟨g, cap, rfl, rfl, rfl, hcap, H2.out.1⟩)⟩
      case measure => simp [intOf]
    · have HR := Lib.hid hR
      clear hR
      go_wp2_with fail
      exact bodyPost_ret (v := .tuple #[.slice (some ⟨g, 0, none⟩) 1 cap, .int .i64 0]) (by simp [results, Tryz.results141, go_sem]) rfl ⟨_, _, rfl, bel _ _, hcap, HR.out.below (bel wr _) (Nat.le_refl _)⟩
/-- The root lies first. -/
def rootB (S : PSt) : Bool := (atR S 1 == 0) && match S.ins[0]? with | some x => x.dir | none => false
set_option maxRecDepth 100000 in
theorem walk_none (S : PSt) (iv ov mv : Value) (a : Option Addr) (cap : Nat) (w : World) (h : StRead w iv ov mv S) :
    Calls Tryz.prog 143 #[.agg #[iv, ov, mv], .slice a 0 cap] w fun e w' => e = .returned (.tuple #[.int .i64 1, .int .i64 0, .slice none 0 0]) ∧ Below w.heap.size w w' := by
  obtain ⟨ai, ni, ci, ao, no, co, am, nm, cm, rfl, rfl, rfl⟩ := h.slices
  clear h
  go_enter Tryz.func143, Tryz.ntmps143
  go_wp2_with fail
  go_loopw [7, 8, 9] (fun v7 v8 v9 wr => v7 = .int .i64 1 ∧ v8 = .slice none 0 0 ∧ v9 = .int .i64 0 ∧ Below w.heap.size w wr) (fun _ _ _ _ => 0)
  case atStart => exact ⟨rfl, rfl, rfl, bel _ _⟩
  case round =>
    obtain ⟨rfl, rfl, rfl, hb⟩ := hrel
    have iB : Bel w wr := ⟨hb⟩
    go_wp2_with fail
    exact bodyPost_ret (v := .tuple #[.int .i64 1, .int .i64 0, .slice none 0 0]) (by simp [results, Tryz.results143, go_sem]) rfl ⟨rfl, bel _ _⟩
set_option maxRecDepth 100000 in
set_option maxHeartbeats 8000000 in
theorem walk_one (S : PSt) (iv ov mv : Value) (g cap : Nat) (nm : ByteArray) (num : Int) (w : World) (h : StRead w iv ov mv S) (hwf : S.wf) (hr : rootB S = true) (hn : RowAt w 1 (.slice (some ⟨g, 0, none⟩) 1 cap) [[.string nm]]) (he : entryR S 1 nm = num) (hn0 : num ≠ 0) :
    Calls Tryz.prog 143 #[.agg #[iv, ov, mv], .slice (some ⟨g, 0, none⟩) 1 cap] w fun e w' => ∃ a n c, e = .returned (.tuple #[.int .i64 num, .int .i64 0, .slice a n c]) ∧ Below w.heap.size w w' := by
  unfold rootB at hr
  simp only [Bool.and_eq_true, beq_iff_eq] at hr
  obtain ⟨ha, hr⟩ := hr
  obtain ⟨x, hx⟩ : ∃ x, S.ins[0]? = some x := by
    rcases e : S.ins[0]? with _ | x
    · rw [e] at hr; cases hr
    · exact ⟨x, rfl⟩
  rw [hx] at hr
  simp only at hr
  have h51 : ∀ ww, Below w.heap.size w ww → Calls Tryz.prog 51 #[.agg #[iv, ov, mv], .int .i64 1] ww fun e w' => e = .returned (.int .i64 0) ∧ Below ww.heap.size ww w' := fun ww hb => by
    have := at51 S iv ov mv 1 ww (h.below hb (Nat.le_refl _)) hwf.1
    rw [ha] at this
    exact this
  have h95 : ∀ ww, Below w.heap.size w ww → Calls Tryz.prog 95 #[.agg #[iv, ov, mv], .int .i64 1, .string nm] ww fun e w' => e = .returned (.int .i64 num) ∧ Below ww.heap.size ww w' := fun ww hb => by
    have := entry95 S iv ov mv 1 nm ww (h.below hb (Nat.le_refl _)) hwf
    rw [he] at this
    exact this
  obtain ⟨ai, ni, ci, ao, no, co, am, nm', cm, rfl, rfl, rfl⟩ := h.slices
  obtain ⟨a, cap', e1, hai⟩ := h.ins_at2
  cases e1
  obtain ⟨bi, oi, ev, rfl, iI0, hoi, her, hci⟩ := hai 0 x hx
  rw [hr, Nat.zero_mul, Nat.add_zero] at hci
  obtain ⟨aN, cN, eN, hatN⟩ := hn.at_
  simp only [Value.slice.injEq] at eN
  obtain ⟨rfl, -, rfl⟩ := eN
  have hatN0 : ∀ wr, Below w.heap.size w wr → BlockLt g wr ∧ wr.cell? ⟨g, 0, none⟩ = some (.string nm) := by
    intro wr hb
    obtain ⟨b, o, hf, _, i2, hc⟩ := hatN wr hb 0 _ rfl
    cases hf
    exact ⟨i2, hc 0 _ rfl⟩
  obtain ⟨hxl, -⟩ := List.getElem?_eq_some_iff.1 hx
  have hxlI : (0 : Int) < S.ins.length := by omega
  have hnb : (num == 0) = false := by simpa using hn0
  have HC := Lib.hid (And.intro hci hatN0)
  clear h hai her hoi hci hatN hatN0 hn hx he hwf
  go_enter Tryz.func143, Tryz.ntmps143
  go_wp2_with fail
  go_loopw [7, 8, 9] (fun v7 v8 v9 wr => Below w.heap.size w wr ∧ ((v7 = .int .i64 1 ∧ v8 = .slice none 0 0 ∧ v9 = .int .i64 0 ∧ Blk wr w.heap.size #[.slice (some ⟨bi, oi, none⟩) S.ins.length ci, .slice ao no co, .slice am nm' cm] 27) ∨ (∃ a n c, v7 = .int .i64 num ∧ v8 = .slice a n c ∧ v9 = .int .i64 1))) (fun _ _ i _ => (2 - intOf i).toNat)
  case atStart => exact ⟨bel _ _, .inl ⟨rfl, rfl, rfl, Blk.new w _ 27⟩⟩
  case round =>
    obtain ⟨hb, h⟩ := hrel
    have iB : Bel w wr := ⟨hb⟩
    rcases h with ⟨rfl, rfl, rfl, hbk⟩ | ⟨a, n, c, rfl, rfl, rfl⟩
    · have iL := hbk.lt
      have s0 := hbk.cell 0
      have s1 := hbk.cell 1
      have s2 := hbk.cell 2
      simp at s0 s1 s2
      obtain ⟨⟨iI, -, x1, -, -⟩, iG, c0⟩ := And.intro (HC.out.1 wr hb) (HC.out.2 wr hb)
      have HB := Lib.hid hbk
      clear hbk
      go_wp2_with (first | (go_at_call 51; with_reducible refine (h51 _ (bel _ _)).mono ?_; rintro e w' ⟨rfl, hb⟩; obtain ⟨p, rfl⟩ := hb.rest; clear hb) | (at_builtin; refine app3 rfl (.tmp 28) (.tmp 30) rfl w.heap.size _ _ [] [1] rfl (by go_simp) (.inl ⟨rfl, rfl⟩) (RowAt.single (Blk.new_i _ _ _ _) 1 1) (by simp) (bel w _).size ?_))
      intro v' w' hg
      have hbg := hg.on (.inl ⟨rfl, rfl⟩ : OwnP w.heap.size _ 3 1 (.slice none 0 0) []) (bel w _).size
      have hb2 := (bel w _).trans hbg
      have hB2 := hg.2.1.blk (by first | exact HB.out.alloc _ | exact (HB.out.junk _).alloc _) (fun h => by simp [Value.ownBlock] at h)
      have i2 : Bel w w' := ⟨hb2⟩
      have iL2 := hB2.lt
      have t0 := hB2.cell 0
      have t1 := hB2.cell 1
      have t2 := hB2.cell 2
      simp at t0 t1 t2
      obtain ⟨va, vc, rfl⟩ := hg.1.formL
      obtain ⟨iG2, c2⟩ := HC.out.2 w' hb2
      clear hg hbg hb2 hB2 s0 s1 s2 x1 c0 iI iG iL
      go_upto_region 10 with fail
      refine wp_region_quiet_rest (by kernel_rfl) (by kernel_rfl) (WQ.out ?_)
      repeat
        refine WQ_step (fun K hK => ?_)
        go_simp
        first
          | (refine hK _ ?_; clear hK K)
          | (apply Exists.intro
             refine ⟨fun _ => ?_, hK _ ?_⟩
             focus ((with_reducible refine calls_in (h95 _ (bel _ _)) (fun w' hb => ?_); first | exact hb.rest | exact rest1 hb | exact rest2 hb))
             clear hK K)
      refine WQ_nil ?_
      intro w1 hw1
      obtain ⟨p, hw1⟩ := hw1
      subst hw1
      go_wp2_with fail
      go_roundw
      case rel => exact ⟨bel _ _, .inr ⟨_, _, _, rfl, rfl, rfl⟩⟩
      case measure => simp [intOf]
    · go_wp2_with fail
      exact bodyPost_ret (v := .tuple #[.int .i64 num, .int .i64 0, .slice a n c]) (by simp [results, Tryz.results143, go_sem]) rfl ⟨_, _, _, rfl, bel _ _⟩
end Go.Proofs.YtjkenolgkkknaaaGreatDoor
namespace Go.Proofs.YtjkenolgkkknaaaGreatDoor
open Go.RowKit
theorem root_x {S : PSt} (hr : rootB S = true) : atR S 1 = 0 ∧ ∃ x, S.ins[0]? = some x ∧ x.dir = true := by
  unfold rootB at hr
  simp only [Bool.and_eq_true, beq_iff_eq] at hr
  obtain ⟨ha, hr⟩ := hr
  rcases e : S.ins[0]? with _ | x
  · rw [e] at hr; cases hr
  · rw [e] at hr
    exact ⟨ha, x, rfl, hr⟩
set_option maxRecDepth 100000 in
set_option maxHeartbeats 8000000 in
theorem find98 (S : PSt) (iv ov mv : Value) (c : UInt8) (num : Int) (w : World) (h : StRead w iv ov mv S) (hwf : S.wf) (hr : rootB S = true) (hc : c ≠ 47) (hk : checkR (n1 c) = 0) (he : entryR S 1 (n1 c) = num) (hn0 : num ≠ 0) :
    Calls Tryz.prog 98 #[.agg #[iv, ov, mv], .string (p1 c)] w fun e w' => e = .returned (.tuple #[.int .i64 num, .int .i64 0]) ∧ Below w.heap.size w w' := by
  have h141 : ∀ ww, Calls Tryz.prog 141 #[.string (p1 c)] ww _ := fun ww => parse141 c hc hk ww
  have h143 : ∀ g cap ww, Below w.heap.size w ww → RowAt ww 1 (.slice (some ⟨g, 0, none⟩) 1 cap) [[.string (n1 c)]] → Calls Tryz.prog 143 #[.agg #[iv, ov, mv], .slice (some ⟨g, 0, none⟩) 1 cap] ww fun e w' => ∃ a n c, e = .returned (.tuple #[.int .i64 num, .int .i64 0, .slice a n c]) ∧ Below ww.heap.size ww w' := fun g cap ww hb hn => walk_one S iv ov mv g cap (n1 c) num ww (h.below hb (Nat.le_refl _)) hwf hr hn he hn0
  obtain ⟨ai, ni, ci, ao, no, co, am, nm', cm, rfl, rfl, rfl⟩ := h.slices
  clear h
  go_enter Tryz.func98, Tryz.ntmps98
  go_wp2_with (first | (go_at_call 141; with_reducible refine (h141 _).mono ?_; rintro e w' ⟨g, cap, rfl, hb, hcap, hn⟩; obtain ⟨p, rfl⟩ := hb.rest; have HN := Lib.hid hn; clear hb hn) | (go_at_call 143; refine (h143 _ _ _ (bel _ _) HN.out).mono ?_; rintro e w' ⟨a, n, c, rfl, hb⟩; obtain ⟨p, rfl⟩ := hb.rest; clear hb))
  exact bodyPost_ret (v := .tuple #[.int .i64 num, .int .i64 0]) (by simp [results, Tryz.results98, go_sem]) rfl ⟨rfl, bel _ _⟩
set_option maxRecDepth 100000 in
set_option maxHeartbeats 8000000 in
theorem parent94 (S : PSt) (iv ov mv : Value) (c : UInt8) (w : World) (h : StRead w iv ov mv S) (hwf : S.wf) (hr : rootB S = true) (hc : c ≠ 47) (hk : checkR (n1 c) = 0) :
    Calls Tryz.prog 94 #[.agg #[iv, ov, mv], .string (p1 c)] w fun e w' => e = .returned (.tuple #[.int .i64 1, .string (n1 c), .int .i64 0]) ∧ Below w.heap.size w w' := by
  have h141 : ∀ ww, Calls Tryz.prog 141 #[.string (p1 c)] ww _ := fun ww => parse141 c hc hk ww
  have h143 : ∀ a cap ww, Below w.heap.size w ww → Calls Tryz.prog 143 #[.agg #[iv, ov, mv], .slice a 0 cap] ww fun e w' => e = .returned (.tuple #[.int .i64 1, .int .i64 0, .slice none 0 0]) ∧ Below ww.heap.size ww w' := fun a cap ww hb => walk_none S iv ov mv a cap ww (h.below hb (Nat.le_refl _))
  obtain ⟨ha, x, hx, hd⟩ := root_x hr
  have h51 : ∀ ww, Below w.heap.size w ww → Calls Tryz.prog 51 #[.agg #[iv, ov, mv], .int .i64 1] ww fun e w' => e = .returned (.int .i64 0) ∧ Below ww.heap.size ww w' := fun ww hb => by
    have := at51 S iv ov mv 1 ww (h.below hb (Nat.le_refl _)) hwf.1
    rw [ha] at this
    exact this
  obtain ⟨ai, ni, ci, ao, no, co, am, nm', cm, rfl, rfl, rfl⟩ := h.slices
  obtain ⟨a, cap', e1, hai⟩ := h.ins_at2
  cases e1
  obtain ⟨bi, oi, ev, rfl, iI0, hoi, her, hci⟩ := hai 0 x hx
  rw [hd, Nat.zero_mul, Nat.add_zero] at hci
  obtain ⟨iI, -, x1, -, -⟩ := hci w (Below.refl _ _)
  have HCI := Lib.hid hci
  obtain ⟨hxl, -⟩ := List.getElem?_eq_some_iff.1 hx
  have hxlI : (0 : Int) < S.ins.length := by omega
  generalize hp : p1 c = s at *
  generalize hm : n1 c = m at *
  clear h hai her hoi hci hx hwf hr hp hm
  go_enter Tryz.func94, Tryz.ntmps94
  go_upto_region 6 with (go_at_call 141; with_reducible refine (h141 _).mono ?_; rintro e w1 ⟨g, cap, rfl, hb, hcap, hn⟩; have i1 : Bel w w1 := ⟨(bel w _).trans (hb.mono (bel w _).size)⟩; have hB1 := (Keep.of_below hb (fun _ => False)).blk (Blk.new w _ 27) (fun h => h); have HN := Lib.hid hn; clear hb hn)
  obtain ⟨aN, cN, eN, hatN⟩ := HN.out.at_
  simp only [Value.slice.injEq] at eN
  obtain ⟨rfl, -, rfl⟩ := eN
  obtain ⟨bN, oN, hf, -, iN, hcN⟩ := hatN _ (Below.refl _ _) 0 _ rfl
  cases hf
  have n0 := hcN 0 _ rfl
  clear hatN hcN
  simp only [Nat.zero_mul, Nat.add_zero] at n0
  have iL := hB1.lt
  have s0 := hB1.cell 0
  have s1 := hB1.cell 1
  have s2 := hB1.cell 2
  simp at s0 s1 s2
  obtain ⟨iI1, -, z1, -, -⟩ := HCI.out w1 i1.below
  clear hB1 x1 iI
  have hcapI : (1 : Int) ≤ cap := by omega
  have hcap0 : ¬ cap = 0 := by omega
  have wz : IntKind.i64.wrap 0 = 0 := by decide
  refine wp_region_quiet_rest (by kernel_rfl) (by kernel_rfl) (WQ.out ?_)
  repeat
    refine WQ_step (fun K hK => ?_)
    go_simp
    first
      | (refine hK _ ?_; clear hK K)
      | (apply Exists.intro
         refine ⟨fun _ => ?_, hK _ ?_⟩
         focus ((with_reducible refine calls_in (h143 _ _ _ (bel _ _)) (fun w' hb => ?_); first | exact hb.rest | exact rest1 hb | exact rest2 hb))
         clear hK K)
  refine WQ_nil ?_
  intro w1 hw1
  obtain ⟨p, hw1⟩ := hw1
  subst hw1
  go_wp2_with fail
  refine wp_region_quiet_rest (by kernel_rfl) (by kernel_rfl) (WQ.out ?_)
  repeat
    refine WQ_step (fun K hK => ?_)
    go_simp
    first
      | (refine hK _ ?_; clear hK K)
      | (apply Exists.intro
         refine ⟨fun _ => ?_, hK _ ?_⟩
         focus ((with_reducible refine calls_in (h51 _ (bel _ _)) (fun w' hb => ?_); first | exact hb.rest | exact rest1 hb | exact rest2 hb))
         clear hK K)
  refine WQ_nil ?_
  intro w1 hw1
  obtain ⟨p, hw1⟩ := hw1
  subst hw1
  go_wp2_with fail
  refine wp_region_quiet_rest (by kernel_rfl) (by kernel_rfl) (WQ.out ?_)
  repeat
    refine WQ_step (fun K hK => ?_)
    go_simp
    first
      | (refine hK _ ?_; clear hK K)
      | (apply Exists.intro
         refine ⟨fun _ => ?_, hK _ ?_⟩
         focus (fail)
         clear hK K)
  refine WQ_nil ?_
  intro w1 hw1
  obtain ⟨p, hw1⟩ := hw1
  subst hw1
  go_wp2_with fail
  exact bodyPost_ret (v := .tuple #[.int .i64 1, .string m, .int .i64 0]) (by simp [results, Tryz.results94, go_sem]) rfl ⟨rfl, bel _ _⟩
end Go.Proofs.YtjkenolgkkknaaaGreatDoor
