/- doer.link. Conditions: none. slices.Delete of one element, at rows of some cells. Conditions: none. model.take: an entry less in a directory of a state of the call's own. Conditions: none. doer.through. Conditions: none. -/
import Derived.Test.YtjkenolgkkknaaaGreatDoorTw10
import Derived.Test.YtjkenolgkkknaaaGreatDoorTw08
import Derived.Test.YtjkenolgkkknaaaGreatDoorTw02
import Derived.Test.YtjkenolgkkknaaaGreatDoorTw09
import Derived.Test.YtjkenolgkkknaaaGreatDoorTw06
set_option linter.unusedVariables false
set_option linter.unusedSimpArgs false
namespace Go.Proofs.YtjkenolgkkknaaaGreatDoor
open Go.RowKit
def linkM2 (S : PSt) (x : PIn) (r : PRes) (K : Nat) (l : ByteArray) : Except Int (PSt × PRes) :=
  match S.ins[K]? with
  | none => .error 0
  | some y => if hitE y.ents l = true then .error 2 else if fullM y.ents l { data := #[] } = true then .error 5 else .ok (S.ents K y (insAt y.ents (bsE y.ents l) ⟨l, x.num⟩), r)
def linkDo (S : PSt) (c : PCall) (r : PRes) : Except Int (PSt × PRes) :=
  if (walkM S 0 (parseM c.path).2).2 ≠ 0 then .error (walkM S 0 (parseM c.path).2).2 else
  match S.ins[(walkM S 0 (parseM c.path).2).1]? with
  | none => .error 0
  | some x => if x.dir = true then .error 8 else
    match parentM S (parseM c.path2).2 with
    | .error k => .error k
    | .ok (K, l) => linkM2 S x r K l
/-- 'at', in an opened doer. -/
theorem Opened.at_call {B : Nat} {w : World} {d b bi gm capi capm : Nat} {ov nv : Value} {S : PSt} {c : PCall} {r : PRes} (o : Opened B w d b bi gm capi capm ov nv S c r) (hf : Fine S) (s : ByteArray) (hp : (parseM s).1 = 0) (hpl : (parseM s).2.length ≤ 1000000000) (K : Nat) (C : Int) (hW : walkM S 0 (parseM s).2 = (K, C)) :
    ∀ ww, Below w.heap.size w ww → Calls Tryz.prog 122 #[.pointer (some ⟨d, 0, none⟩), .string s] ww fun e w' => ((C = 0 ∧ e = .returned (.pointer (some ⟨bi, K * 4, none⟩))) ∨ (C ≠ 0 ∧ e = thrown C)) ∧ Below ww.heap.size ww w' := by
  intro ww hb
  refine (at122 d b S c s ww (o.at_.read.below hb (Nat.le_refl _)) hf hp hpl).mono ?_
  rintro e w' ⟨hb', ho⟩
  rw [hW] at ho
  refine ⟨?_, hb'⟩
  rcases ho with ⟨hC, bi', off', cap', hc, he⟩ | ⟨hC, he⟩
  · refine .inl ⟨hC, ?_⟩
    have h2 := ((o.below hb).hb.cell 0).symm.trans hc
    simp only [List.getElem?_toArray, List.getElem?_cons_zero, Option.some.injEq, Value.slice.injEq, Addr.mk.injEq] at h2
    obtain ⟨⟨rfl, rfl, -⟩, -, rfl⟩ := h2
    rw [he, Nat.zero_add]
  · exact .inr ⟨hC, he⟩
/-- 'parent', in an opened doer. -/
theorem Opened.parent_call {B : Nat} {w : World} {d b bi gm capi capm : Nat} {ov nv : Value} {S : PSt} {c : PCall} {r : PRes} (o : Opened B w d b bi gm capi capm ov nv S c r) (hf : Fine S) (s : ByteArray) (hp : (parseM s).1 = 0) (hpl : (parseM s).2.length ≤ 1000000000) (R : Except Int (Nat × ByteArray)) (hR : parentM S (parseM s).2 = R) :
    ∀ ww, Below w.heap.size w ww → Calls Tryz.prog 113 #[.pointer (some ⟨d, 0, none⟩), .string s] ww fun e w' => (match R with | .ok (K, l) => e = .returned (.tuple #[.pointer (some ⟨bi, K * 4, none⟩), .string l]) | .error k => e = thrown k) ∧ Below ww.heap.size ww w' := by
  intro ww hb
  refine (parent113 d b S c s ww (o.at_.read.below hb (Nat.le_refl _)) hf hp hpl).mono ?_
  rintro e w' ⟨hb', ho⟩
  rw [hR] at ho
  refine ⟨?_, hb'⟩
  rcases R with k | ⟨K, l⟩
  · exact ho
  · obtain ⟨bi', off', cap', hc, he⟩ := ho
    have h2 := ((o.below hb).hb.cell 0).symm.trans hc
    simp only [List.getElem?_toArray, List.getElem?_cons_zero, Option.some.injEq, Value.slice.injEq, Addr.mk.injEq] at h2
    obtain ⟨⟨rfl, rfl, -⟩, -, rfl⟩ := h2
    simp only
    rw [he, Nat.zero_add]
/-- An inode's cells, in an opened doer; what 'entry' and 'full' say of its entries. -/
structure InoAt (w : World) (bi K : Nat) (x : PIn) (ea : Option Addr) (ec : Nat) : Prop where
  iB : BlockLt bi w
  y0 : w.cell? ⟨bi, K * 4, none⟩ = some (.int .i64 x.num)
  y1 : w.cell? ⟨bi, K * 4 + 1, none⟩ = some (.bool x.dir)
  y2 : w.cell? ⟨bi, K * 4 + 2, none⟩ = some (.slice ea x.ents.length ec)
  y3 : w.cell? ⟨bi, K * 4 + 3, none⟩ = some (.string x.data)
  row : RowAt w 2 (.slice ea x.ents.length ec) (x.ents.map PEnt.cells)
  ent : ∀ ww l, Below w.heap.size w ww → Calls Tryz.prog 114 #[.slice ea x.ents.length ec, .string l] ww fun e w' => e = .returned (.tuple #[.int .i64 (bsE x.ents l), .bool (hitE x.ents l)]) ∧ Below ww.heap.size ww w'
  ful : ∀ ww l but, Below w.heap.size w ww → Calls Tryz.prog 116 #[.pointer (some ⟨bi, K * 4, none⟩), .string l, .string but] ww fun e w' => e = .returned (.bool (fullM x.ents l but)) ∧ Below ww.heap.size ww w'
theorem Opened.ino {B : Nat} {w : World} {d b bi gm capi capm : Nat} {ov nv : Value} {S : PSt} {c : PCall} {r : PRes} (o : Opened B w d b bi gm capi capm ov nv S c r) (hs : Small S) {K : Nat} {x : PIn} (hx : S.ins[K]? = some x) : ∃ ea ec, InoAt w bi K x ea ec := by
  obtain ⟨ai, capi', he, hat⟩ := o.st.read.ins_at2
  simp only [Value.slice.injEq] at he
  obtain ⟨rfl, -, rfl⟩ := he
  obtain ⟨bi', off', ev, he, iG, hone, hrow, hcl⟩ := hat K x hx
  simp only [Option.some.injEq, Addr.mk.injEq] at he
  obtain ⟨rfl, rfl, -⟩ := he
  obtain ⟨i1, y0, y1, y2, y3⟩ := hcl w (Below.refl _ _)
  rw [Nat.zero_add] at y0 y1 y2 y3
  have hrow' := hrow
  obtain ⟨ea, ec, rfl, _⟩ := hrow'
  have hl := hs.ents x (List.mem_of_getElem? hx)
  rw [List.length_map] at y2 hrow
  exact ⟨ea, ec, i1, y0, y1, y2, y3, hrow, fun ww l hww => entry114 x.ents _ l ww (hrow.below hww (Nat.le_refl _)) (by omega), fun ww l but hww => full116 bi (K * 4) x.ents _ l but ww ⟨by have := i1.lt; have := hww.size; omega⟩ ((hww.cell (p := ⟨bi, K * 4 + 2, none⟩) i1.lt).trans y2) (hrow.below hww (Nat.le_refl _)) (by omega)⟩
set_option maxRecDepth 100000 in
set_option maxHeartbeats 8000000 in
theorem link77 (B d b : Nat) (S : PSt) (c : PCall) (r : PRes) (w : World) (h : DoAt B w d b S c r) (hB : B ≤ w.heap.size) (hf : Fine S) (hs : Small S) (hmd : 0 < S.made.length) (hp : (parseM c.path).1 = 0) (hpl : (parseM c.path).2.length ≤ 1000000000) (hp2 : (parseM c.path2).1 = 0) (hpl2 : (parseM c.path2).2.length ≤ 1000000000) :
    Calls Tryz.prog 77 #[.pointer (some ⟨d, 0, none⟩)] w (RunOut B w d b c (linkDo S c r)) := by
  obtain ⟨bi, gm, capi, capm, ov, nv, ho⟩ := h.open_ hf.pos hmd
  obtain ⟨K1, C, hW⟩ : ∃ K C, walkM S 0 (parseM c.path).2 = (K, C) := ⟨_, _, rfl⟩
  have hat := ho.at_call hf c.path hp hpl K1 C hW
  have hlt := walkM_lt hf (parseM c.path).2 0 hf.pos
  unfold linkDo
  rw [hW] at hlt ⊢
  simp only at hlt ⊢
  have d6 : w.cell? ⟨d, 6, none⟩ = some (.string c.path) := ho.hD.cell 6
  have d7 : w.cell? ⟨d, 7, none⟩ = some (.string c.path2) := ho.hD.cell 7
  have iD := ho.hD.lt
  have iW : Bel w w := inferInstance
  obtain ⟨x, hx⟩ : ∃ x, S.ins[K1]? = some x := ⟨_, List.getElem?_eq_getElem hlt⟩
  rw [hx]
  simp only
  by_cases hC : C = 0
  · rw [if_neg (by simpa using hC)]
    have hat1 : ∀ ww, Below w.heap.size w ww → Calls Tryz.prog 122 #[.pointer (some ⟨d, 0, none⟩), .string c.path] ww fun e w' => e = .returned (.pointer (some ⟨bi, K1 * 4, none⟩)) ∧ Below ww.heap.size ww w' := fun ww hb => (hat ww hb).mono fun e w' ⟨h1, h2⟩ => ⟨by rcases h1 with ⟨_, h⟩ | ⟨h, _⟩ <;> first | exact h | exact absurd hC h, h2⟩
    obtain ⟨ea1, ec1, hI1⟩ := ho.ino hs hx
    obtain ⟨iBi, x0, x1, _⟩ := hI1
    obtain ⟨PM, hPM⟩ : ∃ PM, parentM S (parseM c.path2).2 = PM := ⟨_, rfl⟩
    have hpar := ho.parent_call hf c.path2 hp2 hpl2 PM hPM
    rw [hPM]
    clear hat hlt hC
    by_cases hdir : x.dir = true
    · rw [if_pos hdir]
      rw [hdir] at x1
      clear hpar hPM hx hf hs ho hdir
      go_enter Tryz.func77, Tryz.ntmps77
      go_wp2_with (first | (go_at_call 122; refine (hat1 _ (bel _ _)).mono ?_; rintro e w' ⟨rfl, hb⟩; obtain ⟨p, rfl⟩ := hb.rest; clear hb) | (go_at_call 115; refine (throw_yes _ _).mono ?_; rintro e w' ⟨rfl, hb⟩; obtain ⟨p, rfl⟩ := hb.rest; clear hb))
      exact ⟨rfl, (bel w _).mono hB, rfl⟩
    · rw [if_neg hdir]
      have hdir : x.dir = false := by simpa using hdir
      rw [hdir] at x1
      rcases PM with k | ⟨K, l⟩
      · simp only
        have hpar1 : ∀ ww, Below w.heap.size w ww → Calls Tryz.prog 113 #[.pointer (some ⟨d, 0, none⟩), .string c.path2] ww fun e w' => e = thrown k ∧ Below ww.heap.size ww w' := hpar
        clear hpar hPM hx hf hs ho
        go_enter Tryz.func77, Tryz.ntmps77
        go_wp2_with (first | (go_at_call 122; refine (hat1 _ (bel _ _)).mono ?_; rintro e w' ⟨rfl, hb⟩; obtain ⟨p, rfl⟩ := hb.rest; clear hb) | (go_at_call 115; with_reducible refine (throw_no _ _).mono ?_; rintro e w' ⟨rfl, hb⟩; obtain ⟨p, rfl⟩ := hb.rest; clear hb) | (go_at_call 113; refine (hpar1 _ (bel _ _)).mono ?_; rintro e w' ⟨rfl, hb⟩; obtain ⟨p, rfl⟩ := hb.rest; clear hb))
        exact ⟨rfl, (bel w _).mono hB, rfl⟩
      · have hpar1 : ∀ ww, Below w.heap.size w ww → Calls Tryz.prog 113 #[.pointer (some ⟨d, 0, none⟩), .string c.path2] ww fun e w' => e = .returned (.tuple #[.pointer (some ⟨bi, K * 4, none⟩), .string l]) ∧ Below ww.heap.size ww w' := hpar
        obtain ⟨y, hy, _⟩ := parent_ok hPM
        obtain ⟨ea, ec, hI⟩ := ho.ino hs hy
        have hent := fun ww hb => hI.ent ww l hb
        have hful := fun ww hb => hI.ful ww l { data := #[] } hb
        have y2 := hI.y2
        simp only
        unfold linkM2
        rw [hy]
        simp only
        generalize hhit : hitE y.ents l = hit at hent ⊢
        generalize hfu : fullM y.ents l { data := #[] } = fu at hful ⊢
        have hyl := hs.ents y (List.mem_of_getElem? hy)
        have hput : ∀ ww, Below w.heap.size w ww → Calls Tryz.prog 118 #[.pointer (some ⟨bi, K * 4, none⟩), .string l, .int .i64 x.num] ww _ := fun ww hb => put118 B ww ov (.slice (some ⟨gm, 0, none⟩) S.made.length capm) S bi capi K y l x.num (ho.below hb).st hy (Nat.le_trans hB hb.size) hyl
        have HO := Lib.hid ho
        clear hpar hPM hx hf hs ho hI hhit hfu hy
        rcases hit with _ | _
        · simp only [Bool.false_eq_true, if_false]
          rcases fu with _ | _
          · simp only [Bool.false_eq_true, if_false]
            go_enter Tryz.func77, Tryz.ntmps77
            go_wp2_with (first | (go_at_call 122; refine (hat1 _ (bel _ _)).mono ?_; rintro e w' ⟨rfl, hb⟩; obtain ⟨p, rfl⟩ := hb.rest; clear hb) | (go_at_call 115; with_reducible refine (throw_no _ _).mono ?_; rintro e w' ⟨rfl, hb⟩; obtain ⟨p, rfl⟩ := hb.rest; clear hb) | (go_at_call 113; refine (hpar1 _ (bel _ _)).mono ?_; rintro e w' ⟨rfl, hb⟩; obtain ⟨p, rfl⟩ := hb.rest; clear hb) | (go_at_call 114; refine (hent _ (bel _ _)).mono ?_; rintro e w' ⟨rfl, hb⟩; obtain ⟨p, rfl⟩ := hb.rest; clear hb) | (go_at_call 116; refine (hful _ (bel _ _)).mono ?_; rintro e w' ⟨rfl, hb⟩; obtain ⟨p, rfl⟩ := hb.rest; clear hb) | (go_at_call 118; refine (hput _ (bel _ _)).mono ?_; rintro e w3 ⟨rfl, hb3, hk3, hs3⟩; have o3 := Opened.put (HO.out.below (bel w _)) hk3 hs3; have HW3 := Lib.hid (And.intro o3 (((bel w _).mono hB).trans hb3)); clear hb3 hk3 hs3 o3))
            exact bodyPost_end (v := .tuple #[]) (by simp [results, go_sem]) rfl ⟨HW3.out.2, rfl, HW3.out.1.at_⟩
          · simp only [if_true]
            go_enter Tryz.func77, Tryz.ntmps77
            go_wp2_with (first | (go_at_call 122; refine (hat1 _ (bel _ _)).mono ?_; rintro e w' ⟨rfl, hb⟩; obtain ⟨p, rfl⟩ := hb.rest; clear hb) | (go_at_call 113; refine (hpar1 _ (bel _ _)).mono ?_; rintro e w' ⟨rfl, hb⟩; obtain ⟨p, rfl⟩ := hb.rest; clear hb) | (go_at_call 114; refine (hent _ (bel _ _)).mono ?_; rintro e w' ⟨rfl, hb⟩; obtain ⟨p, rfl⟩ := hb.rest; clear hb) | (go_at_call 116; refine (hful _ (bel _ _)).mono ?_; rintro e w' ⟨rfl, hb⟩; obtain ⟨p, rfl⟩ := hb.rest; clear hb) | (go_at_call 115; with_reducible refine (throw_no _ _).mono ?_; rintro e w' ⟨rfl, hb⟩; obtain ⟨p, rfl⟩ := hb.rest; clear hb) | (go_at_call 115; with_reducible refine (throw_yes _ _).mono ?_; rintro e w' ⟨rfl, hb⟩; obtain ⟨p, rfl⟩ := hb.rest; clear hb))
            exact ⟨rfl, (bel w _).mono hB, rfl⟩
        · simp only [if_true]
          go_enter Tryz.func77, Tryz.ntmps77
          go_wp2_with (first | (go_at_call 122; refine (hat1 _ (bel _ _)).mono ?_; rintro e w' ⟨rfl, hb⟩; obtain ⟨p, rfl⟩ := hb.rest; clear hb) | (go_at_call 113; refine (hpar1 _ (bel _ _)).mono ?_; rintro e w' ⟨rfl, hb⟩; obtain ⟨p, rfl⟩ := hb.rest; clear hb) | (go_at_call 114; refine (hent _ (bel _ _)).mono ?_; rintro e w' ⟨rfl, hb⟩; obtain ⟨p, rfl⟩ := hb.rest; clear hb) | (go_at_call 115; with_reducible refine (throw_no _ _).mono ?_; rintro e w' ⟨rfl, hb⟩; obtain ⟨p, rfl⟩ := hb.rest; clear hb) | (go_at_call 115; with_reducible refine (throw_yes _ _).mono ?_; rintro e w' ⟨rfl, hb⟩; obtain ⟨p, rfl⟩ := hb.rest; clear hb))
          exact ⟨rfl, (bel w _).mono hB, rfl⟩
  · rw [if_pos (by simpa using hC)]
    have hat1 : ∀ ww, Below w.heap.size w ww → Calls Tryz.prog 122 #[.pointer (some ⟨d, 0, none⟩), .string c.path] ww fun e w' => e = thrown C ∧ Below ww.heap.size ww w' := fun ww hb => (hat ww hb).mono fun e w' ⟨h1, h2⟩ => ⟨by rcases h1 with ⟨h, _⟩ | ⟨_, h⟩ <;> first | exact h | exact absurd h hC, h2⟩
    clear hat hlt hx hf hs ho
    go_enter Tryz.func77, Tryz.ntmps77
    go_wp2_with (first | (go_at_call 122; refine (hat1 _ (bel _ _)).mono ?_; rintro e w' ⟨rfl, hb⟩; obtain ⟨p, rfl⟩ := hb.rest; clear hb))
    exact ⟨rfl, (bel w _).mono hB, rfl⟩
end Go.Proofs.YtjkenolgkkknaaaGreatDoor
namespace Go.Proofs.YtjkenolgkkknaaaGreatDoor
open Go.RowKit
theorem flat_split (k : Nat) (rows : List (List Value)) (i : Nat) (hu : ∀ cs ∈ rows, cs.length = k) : rows.flatten = (rows.take i).flatten ++ (rows.drop i).flatten := by
  rw [← List.flatten_append, List.take_append_drop]
theorem RowsIn.erase {arr arr' : Array Value} {k i : Nat} {rows : List (List Value)} (h : RowsIn arr k rows) (hu : ∀ cs ∈ rows, cs.length = k) (hi : i < rows.length)
    (h1 : ∀ j, j < i * k → arr'[j]? = arr[j]?) (h3 : ∀ j, i * k ≤ j → j < (rows.length - 1) * k → arr'[j]? = arr[j + k]?) : RowsIn arr' k (rows.take i ++ rows.drop (i + 1)) := by
  intro q cs hq t u hu'
  have hmul : ∀ a b : Nat, a < b → a * k + k ≤ b * k := fun a b hab => by
    have := Nat.mul_le_mul_right k (show a + 1 ≤ b from hab)
    rw [Nat.add_mul] at this
    omega
  have htl : (rows.take i).length = i := by rw [List.length_take]; omega
  by_cases hqi : q < i
  · rw [List.getElem?_append_left (by omega), List.getElem?_take, if_pos hqi] at hq
    have htk : t < k := by
      have := hu cs (List.mem_of_getElem? hq)
      obtain ⟨h, _⟩ := List.getElem?_eq_some_iff.1 hu'
      omega
    have := hmul q i hqi
    rw [h1 _ (by omega)]
    exact h q cs hq t u hu'
  · rw [List.getElem?_append_right (by omega), htl, List.getElem?_drop, show i + 1 + (q - i) = q + 1 by omega] at hq
    obtain ⟨hql, _⟩ := List.getElem?_eq_some_iff.1 hq
    have htk : t < k := by
      have := hu cs (List.mem_of_getElem? hq)
      obtain ⟨h, _⟩ := List.getElem?_eq_some_iff.1 hu'
      omega
    have g1 : i * k ≤ q * k := Nat.mul_le_mul_right _ (by omega)
    have g2 := hmul q (rows.length - 1) (by omega)
    rw [h3 _ (by omega) (by omega)]
    have e : q * k + t + k = (q + 1) * k + t := by rw [Nat.add_mul]; omega
    rw [e]
    exact h (q + 1) cs hq t u hu'
theorem exec_append {P : Program} {o : Oper} {a : Act} {w : World} {d s : Operand} {t t' : TypeId}
    (ho : o.op = .call { callee := .builtin .append, args := #[d, s], argTypes := #[t, t'] }) {v u : Value} (hd : a.eval d = v) (hs : a.eval s = u) {v' : Value} {w' : World}
    (hr : (Builtin.append_ #[t, t'] o.type #[v, u]).run P w = .ok v' w') : (execOp a.eval o).run P w = .ok (.value v') w' := by
  unfold execOp
  simp only [ho, resolve, invoke, builtin, Sem.run_bind, Sem.run_pure, Result.andThen_ok, List.map_toArray, List.map_cons, List.map_nil, hd, hs, hr]
/-- 'clear(s)', s a slice of elements of more cells. -/
theorem run_clear_wide {P : Program} (w : World) (t e ty : TypeId) (z : Value) (ht : P.underlying t = some (.slice e)) (hv : ∀ w, (zeroValue e).run P w = .ok z w) (h1 : ∀ v ∈ z.cells, v.oneCell' = true) (b o n c : Nat) (hn : 0 < n)
    (hc : ∀ j, j < (Builtin.zeroCells z.cells n).toList.length → (w.cell? ⟨b, o + j, none⟩).isSome = true) (hf : ∀ j, j < (Builtin.zeroCells z.cells n).toList.length → w.frozen? ⟨b, o + j, none⟩ = false) :
    (Builtin.clear_ #[t] ty #[.slice (some ⟨b, o, none⟩) n c]).run P w = .ok (.tuple #[]) (w.setCells b o (Builtin.zeroCells z.cells n).toList) := by
  have hz : ∀ v ∈ (Builtin.zeroCells z.cells n).toList, v.oneCell' = true := by
    intro v hv'
    simp only [Builtin.zeroCells] at hv'
    obtain ⟨i, hi, rfl⟩ := List.mem_iff_getElem.1 hv'
    simp at hi
    have hpos : 0 < z.cells.size := by
      rcases Nat.eq_zero_or_pos z.cells.size with h | h
      · rw [h] at hi; simp at hi
      · exact h
    have hlt := Nat.mod_lt i hpos
    simp only [Array.getElem_toList, Array.getElem_map, Array.getElem_range]
    rw [getElem!_pos z.cells _ hlt]
    exact h1 _ (Array.getElem_mem hlt)
  have hst := run_storeCells_cells (P := P) b o (Builtin.zeroCells z.cells n).toList 0 w (by simpa using hc) (by simpa using hf) hz
  simp only [Nat.add_zero] at hst
  obtain ⟨m, rfl⟩ : ∃ m, n = m + 1 := ⟨n - 1, by omega⟩
  simp [Builtin.clear_, run_underlying ht, hv, hst]
theorem zeroV99 (w : World) : (zeroValue 99).run Tryz.prog w = .ok (.agg #[.string { data := #[] }, .int .i64 0]) w := by kernel_rfl
set_option maxRecDepth 100000 in
set_option maxHeartbeats 4000000 in
theorem delete160 (B : Nat) (g cap : Nat) (rows : List (List Value)) (i : Nat) (w : World) (h : OwnP B w 99 2 (.slice (some ⟨g, 0, none⟩) rows.length cap) rows) (hu : ∀ cs ∈ rows, cs.length = 2) (h1r : ∀ cs ∈ rows, ∀ u ∈ cs, u.oneCell' = true) (hi : i < rows.length) (hn : rows.length ≤ 1000000000) :
    Calls Tryz.prog 160 #[.slice (some ⟨g, 0, none⟩) rows.length cap, .int .i64 i, .int .i64 ((i : Int) + 1)] w fun e w' => e = .returned (.slice (some ⟨g, 0, none⟩) (rows.length - 1) cap) ∧ OwnP B w' 99 2 (.slice (some ⟨g, 0, none⟩) (rows.length - 1) cap) (rows.take i ++ rows.drop (i + 1)) ∧ Keep (fun k => k = g) w w' := by
  obtain ⟨i0, hi0, hz0, hz1, hz2⟩ := info_parts info99
  obtain ⟨hgB, arr, hgb, hnc, hcm, hsz, hri⟩ : B ≤ g ∧ ∃ arr, Blk w g arr 99 ∧ rows.length ≤ cap ∧ cap ≤ maxLen ∧ arr.size = cap * 2 ∧ RowsIn arr 2 rows := by
    rcases h with ⟨h0, _⟩ | ⟨g', cap', arr, h0, a1, a2, a3, a4, a5, a6⟩
    · simp at h0
    · simp only [Value.slice.injEq, Option.some.injEq, Addr.mk.injEq] at h0
      obtain ⟨⟨rfl, -, -⟩, -, rfl⟩ := h0
      exact ⟨a1, arr, a2, a3, a4, a5, a6⟩
  have hcm2 := hcm
  unfold maxLen at hcm2
  have iG := hgb.lt
  have hflat := hri.flat hu
  obtain ⟨news, hnews⟩ : ∃ news, (rows.drop (i + 1)).flatten = news := ⟨_, rfl⟩
  have hnl : news.length = (rows.length - (i + 1)) * 2 := by
    rw [← hnews, flat_len 2 _ (fun cs hc => hu cs (List.mem_of_mem_drop hc)), List.length_drop]
  have hn1 : ∀ u ∈ news, u.oneCell' = true := fun u hu' => by
    rw [← hnews] at hu'
    obtain ⟨cs, hc, hx⟩ := List.mem_flatten.1 hu'
    exact h1r cs (List.mem_of_mem_drop hc) u hx
  have hnat : ∀ j u, news[j]? = some u → arr[(i + 1) * 2 + j]? = some u := fun j u hj => by
    have hjl : j < news.length := by
      obtain ⟨h, _⟩ := List.getElem?_eq_some_iff.1 hj
      exact h
    rw [hflat _ (by omega)]
    have e := flat_split 2 rows (i + 1) hu
    rw [e, List.getElem?_append_right (by rw [flat_len 2 _ (fun cs hc => hu cs (List.mem_of_mem_take hc)), List.length_take]; omega), hnews]
    rw [flat_len 2 _ (fun cs hc => hu cs (List.mem_of_mem_take hc)), List.length_take]
    rw [show (i + 1) * 2 + j - min (i + 1) rows.length * 2 = j by omega]
    exact hj
  have hca : ∀ j u, news[j]? = some u → w.drew.cell? ((⟨g, 0 + (i + 1) * 2, none⟩ : Addr).add j) = some u := fun j u hj => by
    rw [Addr.add_lit]
    show w.cell? ⟨g, 0 + (i + 1) * 2 + j, none⟩ = _
    rw [hgb.cell, Nat.zero_add]
    exact hnat j u hj
  have hrun : ∀ c2 ty, (Builtin.append_ #[63, 63] ty #[.slice (some ⟨g, 0, none⟩) i cap, .slice (if cap = i + 1 then some ⟨g, 0, none⟩ else some ⟨g, (i + 1) * 2, none⟩) (rows.length - (i + 1)) c2]).run Tryz.prog w.drew = .ok (.slice (some ⟨g, 0, none⟩) (i + (rows.length - (i + 1))) cap) (w.drew.setCells g (0 + i * 2) news) := fun c2 ty => by
    have hsp : ∀ j, j < news.length → (w.drew.cell? ⟨g, 0 + i * i0.size + j, none⟩).isSome = true := fun j hj => by
      rw [hz1]
      show (w.cell? ⟨g, _, none⟩).isSome = true
      rw [hgb.cell]
      simp
      omega
    by_cases hcc : cap = i + 1
    · rw [if_pos hcc]
      have hnil : news = [] := List.eq_nil_of_length_eq_zero (by rw [hnl]; have : rows.length - (i + 1) = 0 := by omega
                                                                 rw [this, Nat.zero_mul])
      have := run_append_room_cells (P := Tryz.prog) (w := w.drew) 63 ty 99 i0 Tryz.underlying63 hi0 g 0 i cap ⟨g, 0, none⟩ (rows.length - (i + 1)) c2 news (by rw [hnl, hz1]) (fun j u hj => by rw [hnil] at hj; simp at hj) hn1 (by omega) hsp (fun j hj => hgb.frozen _)
      rw [hz1] at this
      exact this
    · rw [if_neg hcc]
      have := run_append_room_cells (P := Tryz.prog) (w := w.drew) 63 ty 99 i0 Tryz.underlying63 hi0 g 0 i cap ⟨g, (i + 1) * 2, none⟩ (rows.length - (i + 1)) c2 news (by rw [hnl, hz1]) (fun j u hj => by have := hca j u hj; rw [Nat.zero_add] at this; exact this) hn1 (by omega) hsp (fun j hj => hgb.frozen _)
      rw [hz1] at this
      exact this
  obtain ⟨arr2, hb2, hs2, hout, hin⟩ := Blk.setCells_at g 99 news (0 + i * 2) w.drew arr hgb.drew (by omega)
  have hk2 : Keep (fun k => k = g) w (w.drew.setCells g (0 + i * 2) news) := Keep.setCells (S := fun k => k = g) rfl news _ ((Keep.refl _ w).drew)
  obtain ⟨w2, hw2⟩ : ∃ w2, w.drew.setCells g (0 + i * 2) news = w2 := ⟨_, rfl⟩
  simp only [hw2] at hrun hb2 hk2
  obtain ⟨zs, hzs⟩ : ∃ zs, (Builtin.zeroCells (.agg #[.string { data := #[] }, .int .i64 0] : Value).cells 1).toList = zs := ⟨_, rfl⟩
  have hzl : zs.length = 2 := by rw [← hzs]; kernel_rfl
  have hclr : ∀ c2 ty, (Builtin.clear_ #[63] ty #[.slice (some ⟨g, 0 + (rows.length - 1) * 2, none⟩) (rows.length - (rows.length - 1)) c2]).run Tryz.prog w2 = .ok (.tuple #[]) (w2.setCells g (0 + (rows.length - 1) * 2) zs) := fun c2 ty => by
    rw [show rows.length - (rows.length - 1) = 1 by omega, ← hzs]
    refine run_clear_wide w2 63 99 ty (.agg #[.string { data := #[] }, .int .i64 0]) Tryz.underlying63 zeroV99 (by decide) g (0 + (rows.length - 1) * 2) 1 c2 (by omega) (fun j hj => ?_) (fun j hj => hb2.frozen _)
    rw [hzs, hzl] at hj
    rw [hb2.cell]
    simp
    omega
  obtain ⟨arr3, hb3, hs3, hout3, hin3⟩ := Blk.setCells_at g 99 zs (0 + (rows.length - 1) * 2) w2 arr2 hb2 (by omega)
  have hk3 : Keep (fun k => k = g) w (w2.setCells g (0 + (rows.length - 1) * 2) zs) := Keep.setCells (S := fun k => k = g) rfl zs _ hk2
  obtain ⟨w3, hw3⟩ : ∃ w3, w2.setCells g (0 + (rows.length - 1) * 2) zs = w3 := ⟨_, rfl⟩
  simp only [hw3] at hclr hb3 hk3
  have hrows : RowsIn arr3 2 (rows.take i ++ rows.drop (i + 1)) := by
    refine hri.erase hu hi (fun j hj => ?_) (fun j hj hj2 => ?_)
    · rw [hout3 j (by omega), hout j (by omega)]
    · rw [hout3 j (by omega)]
      have := hin (j - i * 2) (by omega)
      rw [show 0 + i * 2 + (j - i * 2) = j by omega] at this
      rw [this]
      obtain ⟨u, hu2⟩ : ∃ u, news[j - i * 2]? = some u := ⟨_, List.getElem?_eq_getElem (by omega)⟩
      rw [hu2, ← hnat _ _ hu2]
      congr 1
      omega
  have hlen : (rows.take i ++ rows.drop (i + 1)).length = rows.length - 1 := by rw [List.length_append, List.length_take, List.length_drop]; omega
  have hfin : OwnP B w3 99 2 (.slice (some ⟨g, 0, none⟩) (rows.length - 1) cap) (rows.take i ++ rows.drop (i + 1)) := .inr ⟨g, cap, arr3, by rw [hlen], hgB, hb3, by omega, hcm, by omega, hrows⟩
  have HF := Lib.hid (And.intro hfin hk3)
  have iG2 := hb2.lt
  have hm1 : i + (rows.length - (i + 1)) = rows.length - 1 := by omega
  rw [hm1] at hrun
  simp only [Nat.zero_add] at hrun hclr
  have HRUN := Lib.hid (And.intro hrun hclr)
  have b1 : (i : Int) + 1 ≤ rows.length := by omega
  have b2 : (i : Int) < rows.length := by omega
  have b3 : (i : Int) ≤ cap := by omega
  have b4 : i ≤ cap := by omega
  have b5 : i + 1 ≤ rows.length := by omega
  have ncI : (rows.length : Int) ≤ cap := by omega
  clear hri hflat hnat hca hrun hclr hout hin hout3 hin3 hrows hfin hk2 hk3 h1r hu hnews hnl hn1 hzs hzl hlen
  go_enter Tryz.func160, Tryz.ntmps160
  go_upto_region 5 with fail
  refine wp_region_eff [6] false (fun w' => True) (by kernel_rfl) (by kernel_rfl) trivial ?_
  repeat
    refine wpL_look rfl rfl ?_
    apply Exists.intro
    refine ⟨?_, ?_⟩
    focus
      rintro w' _
      go_simp
      first | done | rfl
    simp only [Act.put, List.setIfInBounds_toArray, List.set_cons_zero, List.set_cons_succ]
  refine wpL_do rfl rfl ?_
  refine ⟨_, _, exec_append rfl rfl rfl (HRUN.out.1 _ _), .inl trivial, ?_⟩
  simp only [Act.put, List.setIfInBounds_toArray, List.set_cons_zero, List.set_cons_succ]
  repeat
    refine wpL_look rfl rfl ?_
    apply Exists.intro
    refine ⟨?_, ?_⟩
    focus
      rintro w' _
      go_simp
      first | done | rfl
    simp only [Act.put, List.setIfInBounds_toArray, List.set_cons_zero, List.set_cons_succ]
  refine wpL_end ?_
  generalize (if cap = i + 1 then (some ⟨g, 0, none⟩ : Option Addr) else some ⟨g, (i + 1) * 2, none⟩) = xa
  have hcl2 := HRUN.out.2
  have b6 : rows.length - 1 ≤ rows.length := by omega
  have b7 : ((rows.length - 1 : Nat) : Int) ≤ rows.length := by omega
  have b8 : rows.length ≤ cap := hnc
  go_wp2_with fail
  go_ret
  exact ⟨rfl, HF.out.1, HF.out.2⟩
end Go.Proofs.YtjkenolgkkknaaaGreatDoor
namespace Go.Proofs.YtjkenolgkkknaaaGreatDoor
open Go.RowKit
def delAt {α : Type} (l : List α) (i : Nat) : List α := l.take i ++ l.drop (i + 1)
theorem delAt_map {α β : Type} (f : α → β) (l : List α) (i : Nat) : (delAt l i).map f = (l.map f).take i ++ (l.map f).drop (i + 1) := by simp [delAt, List.map_take, List.map_drop]
theorem hitE_lt {es : List PEnt} {s : ByteArray} (h : hitE es s = true) : bsE es s < es.length := by
  unfold hitE at h
  simp only [Bool.and_eq_true, decide_eq_true_eq] at h
  exact h.1
set_option maxRecDepth 100000 in
set_option maxHeartbeats 4000000 in
theorem take130 (B : Nat) (w : World) (ov mv : Value) (S : PSt) (bi cap K : Nat) (x : PIn) (s : ByteArray) (h : StOwn B w (.slice (some ⟨bi, 0, none⟩) S.ins.length cap) ov mv S) (hx : S.ins[K]? = some x) (hB : B ≤ w.heap.size) (hl : x.ents.length ≤ 100000) (hhit : hitE x.ents s = true) (e : PEnt) (hee : x.ents[bsE x.ents s]? = some e) :
    Calls Tryz.prog 130 #[.pointer (some ⟨bi, K * 4, none⟩), .string s] w fun r w' => r = .returned (.int .i64 e.num) ∧ Below B w w' ∧ Keep (InEn w) w w' ∧ StOwn B w' (.slice (some ⟨bi, 0, none⟩) S.ins.length cap) ov mv (S.ents K x (delAt x.ents (bsE x.ents s))) := by
  have hread := h.read
  obtain ⟨ai, capi, he, hat⟩ := hread.ins_at2
  simp only [Value.slice.injEq] at he
  obtain ⟨rfl, -, rfl⟩ := he
  obtain ⟨bi', off', ev, he, iG, hone, hrow, hcl⟩ := hat K x hx
  simp only [Option.some.injEq, Addr.mk.injEq] at he
  obtain ⟨rfl, rfl, -⟩ := he
  obtain ⟨-, -, -, y2, -⟩ := hcl w (Below.refl _ _)
  rw [Nat.zero_add] at y2
  obtain ⟨hKl, _⟩ := List.getElem?_eq_some_iff.1 hx
  have hfz : w.frozen? ⟨bi, K * 4 + 2, none⟩ = false := by
    obtain ⟨_, _, is, h3, _⟩ := h
    rcases h3 with ⟨h0, _⟩ | ⟨g, cap', arr, heq, hgB, hgb, _⟩
    · simp at h0
    · simp only [Value.slice.injEq, Option.some.injEq, Addr.mk.injEq] at heq
      obtain ⟨⟨rfl, -, -⟩, -, -⟩ := heq
      exact hgb.frozen _
  have hown : OwnP B w 99 2 ev (x.ents.map PEnt.cells) := by
    obtain ⟨_, _, is, h3, h4, h5, _⟩ := h
    have hr : is[K]? = some is[K] := List.getElem?_eq_getElem (by omega)
    rcases h3 with ⟨h0, _⟩ | ⟨g, cap', arr, heq, hgB, hgb, _, _, _, hri⟩
    · simp at h0
    · simp only [Value.slice.injEq, Option.some.injEq, Addr.mk.injEq] at heq
      obtain ⟨⟨rfl, -, -⟩, -, -⟩ := heq
      have := hri K is[K].cells (by rw [List.getElem?_map, hr]; rfl) 2 _ rfl
      rw [hgb.cell, this] at y2
      have e : is[K].ev = ev := Option.some.inj y2
      rw [← e]
      exact (h5 K _ x hr hx).2.2.2
  have hblk : ∃ arr, Blk w bi arr 65 ∧ K * 4 + 2 < arr.size := by
    obtain ⟨_, _, is, h3, h4, h5, _⟩ := h
    rcases h3 with ⟨h0, _⟩ | ⟨g, cap', arr, heq, hgB, hgb, hnc, _, hsz, hri⟩
    · simp at h0
    · simp only [Value.slice.injEq, Option.some.injEq, Addr.mk.injEq] at heq
      obtain ⟨⟨rfl, -, -⟩, -, -⟩ := heq
      rw [List.length_map] at hnc
      exact ⟨arr, hgb, by omega⟩
  obtain ⟨arr, hgb, has⟩ := hblk
  have HB := Lib.hid hgb
  have nEv : ∀ k, ev.ownBlock = some k → k ≠ bi := fun k hk => hown.ne_blk hgb (by decide) hk
  have HN := Lib.hid nEv
  clear hgb nEv
  have hent : ∀ ww, Below w.heap.size w ww → Calls Tryz.prog 114 #[ev, .string s] ww _ := fun ww hb => entry114 x.ents ev s ww (hrow.below hb (Nat.le_refl _)) (by omega)
  have hqt := hitE_lt hhit
  rw [hhit] at hent
  generalize bsE x.ents s = q at hent hqt hee ⊢
  obtain ⟨g, ec, rfl, hgg⟩ := hown.some_ (by rw [List.length_map]; omega)
  rw [List.length_map] at hent y2
  have hqI : (q : Int) < x.ents.length := by omega
  obtain ⟨a', c', he', hat'⟩ := hrow.at_
  simp only [List.length_map, Value.slice.injEq] at he'
  obtain ⟨rfl, -, rfl⟩ := he'
  obtain ⟨be, oe, he2, iE0, -, hce⟩ := hat' w (Below.refl _ _) q e.cells (by rw [List.getElem?_map, hee]; rfl)
  simp only [Option.some.injEq, Addr.mk.injEq, and_true] at he2
  obtain ⟨rfl, rfl⟩ := he2
  have e1 := hce 1 _ rfl
  rw [Nat.zero_add] at e1
  have hdel : ∀ ww, Below w.heap.size w ww → Calls Tryz.prog 160 #[.slice (some ⟨g, 0, none⟩) x.ents.length ec, .int .i64 q, .int .i64 ((q : Int) + 1)] ww fun e w' => e = .returned (.slice (some ⟨g, 0, none⟩) (x.ents.length - 1) ec) ∧ OwnP B w' 99 2 (.slice (some ⟨g, 0, none⟩) (x.ents.length - 1) ec) ((delAt x.ents q).map PEnt.cells) ∧ Keep (fun k => k = g) ww w' := fun ww hb => by
    have := delete160 B g ec (x.ents.map PEnt.cells) q ww (hown.keep (Keep.of_below hb (fun _ => False)) (fun _ _ h => h)) (pent_len _) (pent_one _) (by rw [List.length_map]; exact hqt) (by rw [List.length_map]; omega)
    rw [List.length_map, ← delAt_map] at this
    exact this
  have HH := Lib.hid (And.intro h (And.intro hown hx))
  have hac : arr[K * 4 + 2]? = some (.slice (some ⟨g, 0, none⟩) x.ents.length ec) := by rw [← HB.out.cell]; exact y2
  have HAC := Lib.hid hac
  clear hac
  have hng : g ≠ bi := HN.out g rfl
  have nbg : ¬ bi = g := fun e => hng e.symm
  have iBi : BlockLt bi w := iG
  clear h hread hat hcl hrow hown hx hce hat'
  go_enter Tryz.func130, Tryz.ntmps130
  go_wp2_with (first | (go_at_call 114; refine (hent _ (bel _ _)).mono ?_; rintro e w' ⟨rfl, hb⟩; obtain ⟨p, rfl⟩ := hb.rest; clear hb) | (go_at_call 115; with_reducible refine (throw_no _ _).mono ?_; rintro e w' ⟨rfl, hb⟩; obtain ⟨p, rfl⟩ := hb.rest; clear hb) | (go_at_call 160; refine (hdel _ (bel _ _)).mono ?_; rintro e w2 ⟨rfl, ho2, hk2⟩; have hb2 := hk2.blk (b := bi) (c := arr) (t := 65) (by repeat (first | exact HB.out | refine Blk.alloc ?_ _ | refine Blk.junk ?_ _)) (fun h => nbg h); have hk3 := (Keep.of_below (bel w _) (fun k => k = g)).trans hk2 (fun _ _ h => h); have z2 : w2.cell? ⟨bi, K * 4 + 2, none⟩ = some (.slice (some ⟨g, 0, none⟩) x.ents.length ec) := (hb2.cell _).trans HAC.out; have f2 := hb2.frozen (K * 4 + 2); have i2 := hb2.lt; have H2 := Lib.hid (And.intro ho2 hk3); clear ho2 hk2 hk3 hb2))
  obtain ⟨r1, r2, r3⟩ := HH.out.1.setEnts HH.out.2.2 y2 (es' := delAt x.ents q) H2.out.1 (H2.out.2.mono (fun i _ h => by subst h; rfl)) (fun k h => .inl h) hB
  exact bodyPost_ret (v := .int .i64 e.num) (by simp [results, Tryz.results130, go_sem]) rfl ⟨rfl, r2, r3, r1⟩
end Go.Proofs.YtjkenolgkkknaaaGreatDoor
namespace Go.Proofs.YtjkenolgkkknaaaGreatDoor
open Go.RowKit
def thruAt (S : PSt) (ns : List ByteArray) (num : Int) (q : Nat) : Bool := match S.ins[(walkM S 0 (ns.take q)).1]? with
  | some x => x.num == num
  | none => false
def thruM (S : PSt) (ns : List ByteArray) (num : Int) : Bool := (List.range ns.length).any (thruAt S ns num)
theorem any_drop' {α : Type} {F : α → Bool} {zs : List α} {q : Nat} {z : α} (h : zs[q]? = some z) : (zs.drop q).any F = (F z || (zs.drop (q + 1)).any F) := by rw [drop_at h]; rfl
theorem RowAt.pre {w : World} {k n cap : Nat} {a : Option Addr} {rows : List (List Value)} (h : RowAt w k (.slice a n cap) rows) (q : Nat) (hq : q ≤ rows.length) : RowAt w k (.slice a q cap) (rows.take q) := by
  obtain ⟨a', cap', he, hm, hr⟩ := h
  simp only [Value.slice.injEq] at he
  obtain ⟨rfl, rfl, rfl⟩ := he
  have hl : (rows.take q).length = q := by rw [List.length_take]; omega
  refine ⟨a, cap, by rw [hl], by omega, fun h0 => ?_⟩
  obtain ⟨b, off, e2, hlt, hc⟩ := hr (by omega)
  refine ⟨b, off, e2, hlt, fun p cs hp => ?_⟩
  rw [List.getElem?_take] at hp
  split at hp
  · exact hc p cs hp
  · cases hp
set_option maxRecDepth 100000 in
set_option maxHeartbeats 4000000 in
theorem through131 (d b : Nat) (S : PSt) (c : PCall) (s : ByteArray) (num : Int) (w : World) (h : DR w d b S c) (hf : Fine S) (hp : (parseM s).1 = 0) (hpl : (parseM s).2.length ≤ 1000000000) :
    Calls Tryz.prog 131 #[.pointer (some ⟨d, 0, none⟩), .string s, .int .i64 num] w fun e w' => e = .returned (.bool (thruM S (parseM s).2 num)) ∧ Below w.heap.size w w' := by
  have hpar : ∀ ww, Calls Tryz.prog 150 #[.string s] ww fun e w' => ∃ v, e = .returned v ∧ Below ww.heap.size ww w' ∧ OwnP 0 w' 9 1 v ((parseM s).2.map fun n => [.string n]) := fun ww => parse150c s ww hp
  generalize (parseM s).2 = ns at hpar hpl ⊢
  have hwk : ∀ ww v q, Below w.heap.size w ww → RowAt ww 1 v ((ns.take q).map fun n => [.string n]) → Calls Tryz.prog 151 #[.pointer (some ⟨b, 0, none⟩), v] ww _ := fun ww v q hb hv => walk151 b S (ns.take q) v ww (h.sp.below hb (Nat.le_refl _)) hf.wf hf.pos hf.find hv (by rw [List.length_take]; omega)
  have hlt := fun q => walkM_lt hf (ns.take q) 0 hf.pos
  have d0 := h.d0
  have iD : BlockLt d w := ⟨h.lt⟩
  obtain ⟨hl, iv, ov, mv, c0, c1, c2, hr⟩ := h.sp
  have iB : BlockLt b w := ⟨hl⟩
  obtain ⟨ai, capi, rfl, hati⟩ := hr.ins_at2
  have HI := Lib.hid hati
  clear h hf hp hr hati c1 c2
  unfold thruM
  obtain ⟨R, hR⟩ : ∃ R, (List.range ns.length).any (thruAt S ns num) = R := ⟨_, rfl⟩
  rw [hR]
  have HR := Lib.hid hR
  clear hR
  go_enter Tryz.func131, Tryz.ntmps131
  go_upto_region 2 with (go_at_call 150; refine (hpar _).mono ?_; rintro e w1 ⟨nv, rfl, hb1, hnm⟩; have hrow := hnm.row; obtain ⟨an, cn, rfl, hcn⟩ := hnm.cap; rw [List.length_map] at hrow hcn; have HN := Lib.hid (And.intro hrow hb1); clear hb1 hnm hrow)
  go_wp2_with fail
  go_loopw [15] (fun i wr => ∃ (q : Nat), i = .int .i64 q ∧ q ≤ ns.length ∧ ((List.range ns.length).drop q).any (thruAt S ns num) = R ∧ Below w1.heap.size w1 wr) (fun i _ => (ns.length - intOf i).toNat)
  case atStart => exact ⟨0, rfl, by omega, HR.out, bel _ _⟩
  case round =>
    obtain ⟨q, rfl, hq, hre, hb⟩ := hrel
    have hbw : Below w.heap.size w wr := HN.out.2.trans (hb.mono HN.out.2.size)
    have iBw : Bel w wr := ⟨hbw⟩
    have r0 : wr.cell? ⟨d, 0, none⟩ = some (.pointer (some ⟨b, 0, none⟩)) := (hbw.cell (p := ⟨d, 0, none⟩) iD.lt).trans d0
    have s0 : wr.cell? ⟨b, 0, none⟩ = some (.slice ai S.ins.length capi) := (hbw.cell (p := ⟨b, 0, none⟩) iB.lt).trans c0
    have jD : BlockLt d wr := ⟨by have := hbw.size; have := iD.lt; omega⟩
    have jB : BlockLt b wr := ⟨by have := hbw.size; have := iB.lt; omega⟩
    by_cases hltq : q < ns.length
    · have hz : (List.range ns.length)[q]? = some q := by rw [List.getElem?_range hltq]
      rw [any_drop' hz] at hre
      have hpre : RowAt wr 1 (.slice an q cn) ((ns.take q).map fun n => [.string n]) := by
        have := (HN.out.1.below hb (Nat.le_refl _)).pre q (by rw [List.length_map]; omega)
        rw [← List.map_take] at this
        exact this
      have hw1 : ∀ ww, Below wr.heap.size wr ww → Calls Tryz.prog 151 #[.pointer (some ⟨b, 0, none⟩), .slice an q cn] ww _ := fun ww hb' => hwk ww _ q (hbw.trans (hb'.mono hbw.size)) (hpre.below hb' (Nat.le_refl _))
      have hltw := hlt q
      have hta : thruAt S ns num q = (match S.ins[(walkM S 0 (ns.take q)).1]? with | some x => x.num == num | none => false) := rfl
      rw [hta] at hre
      obtain ⟨⟨K, C⟩, hKC⟩ : ∃ KC, walkM S 0 (ns.take q) = KC := ⟨_, rfl⟩
      rw [hKC] at hw1 hltw hre
      simp only at hw1 hltw hre
      obtain ⟨x, hx⟩ : ∃ x, S.ins[K]? = some x := ⟨_, List.getElem?_eq_getElem hltw⟩
      rw [hx] at hre
      simp only at hre
      obtain ⟨bi, off, ev, rfl, iG0, ho1, hev, hcl⟩ := HI.out K x hx
      obtain ⟨iG, y0, y1, y2, y3⟩ := hcl wr hbw
      have hKI : (K : Int) < S.ins.length := by omega
      have hqc : (q : Int) ≤ ns.length := by omega
      have hqcn : (q : Int) ≤ cn := by omega
      have hqcn2 : q ≤ cn := by omega
      clear hpre hwk hcl hev hta hKC hx hz
      have iBr : Bel wr wr := inferInstance
      obtain ⟨xn, xd, xe, xdat⟩ := x
      simp only at y0 hre
      generalize hb1 : (xn == num) = b1 at hre
      rcases b1 with _ | _
      · simp only [Bool.false_or] at hre
        have HR2 := Lib.hid hre
        clear hre
        go_upto_region 5 with fail
        refine wp_region_quiet_rest (by kernel_rfl) (by kernel_rfl) (WQ.out ?_)
        repeat
          refine WQ_step (fun K hK => ?_)
          go_simp
          first
            | (refine hK _ ?_; clear hK K)
            | (apply Exists.intro
               refine ⟨fun _ => ?_, hK _ ?_⟩
               focus (refine calls_in (hw1 _ (bel wr _)) (fun w' hb => ?_); first | exact hb.rest | exact rest1 hb | exact rest2 hb)
               clear hK K)
        refine WQ_nil ?_
        intro w1 hw1
        obtain ⟨p, hw1⟩ := hw1
        subst hw1
        go_wp2_with fail
        go_roundw
        case rel => exact ⟨q + 1, by go_num, by omega, HR2.out, hb.trans ((bel wr _).mono hb.size)⟩
        case measure => simp [intOf]; omega
      · simp only [Bool.true_or] at hre
        subst hre
        go_upto_region 5 with fail
        refine wp_region_quiet_rest (by kernel_rfl) (by kernel_rfl) (WQ.out ?_)
        repeat
          refine WQ_step (fun K hK => ?_)
          go_simp
          first
            | (refine hK _ ?_; clear hK K)
            | (apply Exists.intro
               refine ⟨fun _ => ?_, hK _ ?_⟩
               focus (refine calls_in (hw1 _ (bel wr _)) (fun w' hb => ?_); first | exact hb.rest | exact rest1 hb | exact rest2 hb)
               clear hK K)
        refine WQ_nil ?_
        intro w1 hw1
        obtain ⟨p, hw1⟩ := hw1
        subst hw1
        go_wp2_with fail
        exact bodyPost_ret (v := .bool true) (by simp [results, Tryz.results131, go_sem]) rfl ⟨rfl, bel w _⟩
    · rw [List.drop_of_length_le (by rw [List.length_range]; omega)] at hre
      have hre : false = R := hre
      subst hre
      go_wp2_with fail
      exact bodyPost_ret (v := .bool false) (by simp [results, Tryz.results131, go_sem]) rfl ⟨rfl, hbw⟩
end Go.Proofs.YtjkenolgkkknaaaGreatDoor
