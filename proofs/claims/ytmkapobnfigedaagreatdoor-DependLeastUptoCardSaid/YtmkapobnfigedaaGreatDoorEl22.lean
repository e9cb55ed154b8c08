/- Cells laid in a row, copies of rows of some cells: words for slices.Insert. Conditions: none. -/
import Derived.Shelf.RegionOpenPlain
import Derived.Lib.AppendZeros
import Derived.Lib.Overlaps
import Derived.Laws.Externs
import Derived.Laws.IdiomCopy
import Derived.Test.YtmkapobnfigedaaGreatDoorEl20
set_option linter.unusedVariables false
set_option linter.unusedSimpArgs false
namespace Go.Proofs.YtmkapobnfigedaaGreatDoor
open Go.RowKit
theorem run_copy_k {P : Program} (w : World) (dT sT ty elem : TypeId) (b o dLen dCap : Nat) (a : Addr) (sLen sCap k : Nat) (cs : List Value)
 (hu : P.underlying dT = some (.slice elem)) (hs : (P.info? elem).map (·.size) = some k) (hn : cs.length = Nat.min sLen dLen * k)
 (hsrc : ∀ j v, cs[j]? = some v → w.cell? (a.add j) = some v) (hc : ∀ j, j < cs.length → (w.cell? ⟨b, o + j, none⟩).isSome = true) (hf : ∀ j, j < cs.length → w.frozen? ⟨b, o + j, none⟩ = false) (h1 : ∀ v ∈ cs, v.oneCell' = true) :
 (Builtin.copy_ #[dT, sT] ty #[.slice (some ⟨b, o, none⟩) dLen dCap, .slice (some a) sLen sCap]).run P w = .ok (goInt (Nat.min sLen dLen)) (w.setCells b o cs) := by
 have hl := run_loadCells_list (P := P) w a cs hsrc
 have hst := run_storeCells_cells (P := P) b o cs 0 w (by simpa using hc) (by simpa using hf) h1
 cases hq : P.info? elem with
 | none => simp [hq] at hs
 | some i =>
   have hi : i.size = k := by simpa [hq] using hs
   simp [Builtin.copy_, run_underlying hu, Builtin.lenOf, Builtin.firstCells, sizeOf, typeInfo, hq, hi, ← hn, hl, hst]
theorem wp_copy_runI {P : Program} (w : World) {o : Oper} {a : Act} {K : Act → World → Prop} {Q : Exit → Act → World → Prop} (d s : Operand) (t t' : TypeId)
 (ho : o.op = .call { callee := .builtin .copy, args := #[d, s], argTypes := #[t, t'] }) (v u : Value) (hd : a.eval d = v) (hs : a.eval s = u) {v' : Value} {w' : World}
 (hr : (Builtin.copy_ #[t, t'] o.type #[v, u]).run P w = .ok v' w') (h : K (a.put o.dst v') w') : o.wp P a w K Q := by
 unfold Oper.wp execOp
 simp only [ho, resolve, invoke, builtin, Sem.run_bind, Sem.run_pure, Result.andThen_ok, List.map_toArray, List.map_cons, List.map_nil, hd, hs, hr]
 exact h
theorem wpList_copy_runI {P : Program} (w : World) {ops : Array Oper} {rest : List Oper} {o : Oper} {a : Act} {Q : Exit → Act → World → Prop} (hgd : o.guard = none) (d s : Operand) (t t' : TypeId)
 (ho : o.op = .call { callee := .builtin .copy, args := #[d, s], argTypes := #[t, t'] }) (v u : Value) (hd : a.eval d = v) (hs : a.eval s = u) {v' : Value} {w' : World}
 (hr : (Builtin.copy_ #[t, t'] o.type #[v, u]).run P w = .ok v' w') (h : wpList P ops Q rest (a.put o.dst v') w') : wpList P ops Q (o :: rest) a w :=
 wpList_plain hgd fun _ hK => wp_copy_runI w d s t t' ho v u hd hs hr (hK _ _ h)
theorem exec_copy {P : Program} {o : Oper} {a : Act} {w : World} {d s : Operand} {t t' : TypeId}
 (ho : o.op = .call { callee := .builtin .copy, args := #[d, s], argTypes := #[t, t'] }) {v u : Value} (hd : a.eval d = v) (hs : a.eval s = u) {v' : Value} {w' : World}
 (hr : (Builtin.copy_ #[t, t'] o.type #[v, u]).run P w = .ok v' w') : (execOp a.eval o).run P w = .ok (.value v') w' := by
 unfold execOp
 simp only [ho, resolve, invoke, builtin, Sem.run_bind, Sem.run_pure, Result.andThen_ok, List.map_toArray, List.map_cons, List.map_nil, hd, hs, hr]
theorem RowsIn.flat {arr : Array Value} {k : Nat} {rows : List (List Value)} (h : RowsIn arr k rows) (hu : ∀ cs ∈ rows, cs.length = k) : ∀ j, j < rows.length * k → arr[j]? = rows.flatten[j]? := by
 intro i hi
 have hk : 0 < k := by
  rcases Nat.eq_zero_or_pos k with h0 | h0
  · rw [h0] at hi; simp at hi
  · exact h0
 have hi2 : i = i / k * k + i % k := by rw [Nat.mul_comm]; exact (Nat.div_add_mod i k).symm
 have ht : i % k < k := Nat.mod_lt _ hk
 have hq : i / k < rows.length := Nat.div_lt_of_lt_mul (by rwa [Nat.mul_comm])
 have hlen := hu rows[i / k] (List.getElem_mem hq)
 have h1 := h (i / k) rows[i / k] (List.getElem?_eq_getElem hq) (i % k) rows[i / k][i % k] (List.getElem?_eq_getElem (by omega))
 have key : ∀ j, j = i / k * k + i % k → arr[j]? = rows.flatten[j]? := by
  intro j hj; rw [hj, flat_at k rows hu _ _ ht, List.getElem?_eq_getElem hq]; show _ = rows[i / k][i % k]?; rw [show rows[i / k][i % k]? = some rows[i / k][i % k] from List.getElem?_eq_getElem (by omega), h1]
 exact key i hi2
theorem Blk.setCells_at (b : Nat) (t : TypeId) : ∀ (vs : List Value) (o : Nat) (w : World) (c : Array Value), Blk w b c t → o + vs.length ≤ c.size →
 ∃ c', Blk (w.setCells b o vs) b c' t ∧ c'.size = c.size ∧ (∀ j, j < o ∨ o + vs.length ≤ j → c'[j]? = c[j]?) ∧ ∀ j, j < vs.length → c'[o + j]? = vs[j]?
 | [], o, w, c, h, _ => ⟨c, h, rfl, fun _ _ => rfl, fun j hj => by simp at hj⟩
 | v :: r, o, w, c, h, hl => by
   simp only [List.length_cons] at hl; obtain ⟨c', h1, h2, h3, h4⟩ := Blk.setCells_at b t r (o + 1) (w.setCell ⟨b, o, none⟩ v) (c.setIfInBounds o v) (h.set_ o v) (by rw [Array.size_setIfInBounds]; omega); refine ⟨c', h1, by rw [h2, Array.size_setIfInBounds], fun j hj => ?_, fun j hj => ?_⟩
   · simp only [List.length_cons] at hj; rw [h3 j (by omega), Array.getElem?_setIfInBounds, if_neg (by omega)]
   · rcases j with _ | j
     · rw [Nat.add_zero, h3 o (by omega), Array.getElem?_setIfInBounds, if_pos rfl, if_pos (by omega)]; rfl
     · simp only [List.length_cons] at hj; have := h4 j (by omega); rw [show o + (j + 1) = o + 1 + j by omega, this]; rfl
theorem Keep.setCells {S : Nat → Prop} {b : Nat} (hb : S b) : ∀ (vs : List Value) (o : Nat) {a w : World}, Keep S a w → Keep S a (w.setCells b o vs)
 | [], _, _, _, h => h
 | v :: r, o, _, _, h => Keep.setCells hb r (o + 1) (h.setCell (p := ⟨b, o, none⟩) (.inl hb) v)
theorem RowsIn.insert {arr arr' : Array Value} {k i : Nat} {rows : List (List Value)} {row : List Value} (h : RowsIn arr k rows) (hu : ∀ cs ∈ rows, cs.length = k) (hr : row.length = k) (hi : i ≤ rows.length)
 (h1 : ∀ j, j < i * k → arr'[j]? = arr[j]?) (h2 : ∀ t, t < k → arr'[i * k + t]? = row[t]?) (h3 : ∀ j, i * k ≤ j → j < rows.length * k → arr'[j + k]? = arr[j]?) : RowsIn arr' k (rows.take i ++ row :: rows.drop i) := by
 intro q cs hq t u hu'
 have hmul : ∀ a b : Nat, a < b → a * k + k ≤ b * k := fun a b hab => by
  have := Nat.mul_le_mul_right k (show a + 1 ≤ b from hab); rw [Nat.add_mul] at this; omega
 have htl : (rows.take i).length = i := by rw [List.length_take]; omega
 rcases Nat.lt_trichotomy q i with hqi | hqi | hqi
 · rw [List.getElem?_append_left (by omega), List.getElem?_take, if_pos hqi] at hq; have htk : t < k := by
    have := hu cs (List.mem_of_getElem? hq); obtain ⟨h, _⟩ := List.getElem?_eq_some_iff.1 hu'; omega
   have := hmul q i hqi; rw [h1 _ (by omega)]; exact h q cs hq t u hu'
 · subst hqi; rw [List.getElem?_append_right (by omega), htl, Nat.sub_self] at hq; cases hq; have htk : t < k := by
    obtain ⟨h, _⟩ := List.getElem?_eq_some_iff.1 hu'; omega
   rw [h2 t htk]; exact hu'
 · rw [List.getElem?_append_right (by omega), htl, show q - i = (q - i - 1) + 1 by omega, List.getElem?_cons_succ, List.getElem?_drop] at hq; have hqq : i + (q - i - 1) = q - 1 := by omega
   rw [hqq] at hq; obtain ⟨hql, _⟩ := List.getElem?_eq_some_iff.1 hq; have htk : t < k := by
    have := hu cs (List.mem_of_getElem? hq); obtain ⟨h, _⟩ := List.getElem?_eq_some_iff.1 hu'; omega
   have e : q * k + t = ((q - 1) * k + t) + k := by
    have : q * k = (q - 1) * k + k := by
     rw [show q = (q - 1) + 1 by omega, Nat.add_mul]; simp
    omega
   have g1 : i * k ≤ (q - 1) * k := Nat.mul_le_mul_right _ (by omega); have g2 := hmul (q - 1) rows.length hql; rw [e, h3 _ (by omega) (by omega)]; exact h (q - 1) cs hq t u hu'
end Go.Proofs.YtmkapobnfigedaaGreatDoor
