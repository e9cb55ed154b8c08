/- Part of the proof of a law of chapter 15. Conditions: none. -/
import Derived.Test.YtmkapobnfigedaaGreatDoorDp02
import Derived.Shelf.Small.Strs
import Derived.ArgAppend
import Derived.Lib.AppendIntMem
import Derived.Test.YtmkapobnfigedaaGreatDoorProg
import Derived.Shelf.Strings.Builder1
import Derived.Shelf.Strings.Builder2
import Derived.Shelf.Strings.OnBuilder
import Derived.Shelf.Strconv.Itoa0
import Derived.Shelf.Strconv.Itoa1
import Derived.Shelf.LaysM
import Derived.Shelf.Strconv.Itoa2
import Derived.Shelf.Strconv.Itoa3
import Derived.Shelf.Slices.Turned
import Derived.Shelf.Slices.Empties2
set_option linter.unusedVariables false
set_option linter.unusedSimpArgs false
set_option maxRecDepth 100000
set_option maxHeartbeats 8000000
namespace Go.Proofs.YtmkapobnfigedaaGreatDoor
open Go.RowKit
def cmpS (a b : ByteArray) : Int := Lib.compareBytes a.data.toList b.data.toList
theorem cmp168 (a b : ByteArray) (w : World) :
 Calls Tryz.prog 211 #[.string a, .string b] w fun e w' => e = .returned (.int .i64 (cmpS a b)) ∧ Below w.heap.size w w' := by
 go_enter Tryz.func211, Tryz.ntmps211
 go_wp2
 rw [run_callFunc_extern Tryz.func220 (by kernel_rfl) (by kernel_rfl) (by kernel_rfl) (e := Extern.BytealgCompare.compare) (by kernel_rfl), Lib.run_compareString]
 simp only [Result.andThen]
 rw [Oper.upon_value]
 go_wp2
 go_ret
 exact ⟨rfl, bel _ _⟩
theorem cmp154 (a b : ByteArray) (w : World) :
 Calls Tryz.prog 201 #[.string a, .string b] w fun e w' => e = .returned (.int .i64 (cmpS a b)) ∧ Below w.heap.size w w' := by
 go_enter Tryz.func201, Tryz.ntmps201
 go_wp2_with ((go_at_call 211; refine aT (cmp168 _ _ _) fun p => ?_))
 go_ret
 exact ⟨rfl, bel _ _⟩
theorem cmp153 (a b : ByteArray) (n : Int) (w : World) :
 Calls Tryz.prog 200 #[.agg #[.string a, .int .i64 n], .string b] w fun e w' => e = .returned (.int .i64 (cmpS a b)) ∧ Below w.heap.size w w' := by
 go_enter Tryz.func200, Tryz.ntmps200
 go_wp2_with ((go_at_call 201; refine aT (cmp154 _ _ _) fun p => ?_))
 go_ret
 exact ⟨rfl, bel _ _⟩
def cmpE (es : List PEnt) (s : ByteArray) (q : Nat) : Int := match es[q]? with | some x => cmpS x.name s | none => 0
def bsE (es : List PEnt) (s : ByteArray) : Nat := bsFrom (cmpE es s) es.length 0 es.length
def hitE (es : List PEnt) (s : ByteArray) : Bool := decide (bsE es s < es.length) && (cmpE es s (bsE es s) == 0)
theorem bs152 (is : List PEnt) (v : Value) (n : ByteArray) (w : World) (h : RowAt w 2 v (is.map PEnt.cells)) (hlen : is.length ≤ 1000000000) :
 Calls Tryz.prog 199 #[v, .string n, .func (.func 200) #[] #[]] w fun e w' => e = .returned (.tuple #[.int .i64 (bsE is n), .bool (hitE is n)]) ∧ Below w.heap.size w w' := by
 obtain ⟨a, cap, rfl, _, hrow⟩ := h
 rw [lM] at hrow ⊢
 have cell : ∀ (wr : World), Below w.heap.size w wr → ∀ (q : Nat), q < is.length → ∃ (b off : Nat) (x : PEnt), a = some ⟨b, off, none⟩ ∧ BlockLt b wr ∧ is[q]? = some x ∧ cmpE is n q = cmpS x.name n ∧ wr.cell? ⟨b, off + q * 2, none⟩ = some (.string x.name) ∧ wr.cell? ⟨b, off + q * 2 + 1, none⟩ = some (.int .i64 x.num) := by
  intro wr hb q hq; obtain ⟨b, off, rfl, hlt, hc⟩ := hrow (by omega); obtain ⟨x, hx⟩ : ∃ x, is[q]? = some x := ⟨_, gE hq⟩
  have hm : (is.map PEnt.cells)[q]? = some x.cells := by rw [gM, hx]; rfl
  have hs := hb.size; have key : ∀ (t : Nat) (u : Value), x.cells[t]? = some u → wr.cell? ⟨b, off + q * 2 + t, none⟩ = some u := fun t u hu => (hb.cell (p := ⟨b, _, none⟩) hlt).trans (hc q _ hm t u hu)
  exact ⟨b, off, x, rfl, ⟨by omega⟩, hx, by unfold cmpE; rw [hx], key 0 _ rfl, key 1 _ rfl⟩
 have HC := Lib.hid cell
 clear cell hrow
 obtain ⟨P, hP⟩ : ∃ P, bsE is n = P := ⟨_, rfl⟩
 obtain ⟨T, hT⟩ : ∃ T, hitE is n = T := ⟨_, rfl⟩
 rw [hP, hT]
 have HP := Lib.hid (And.intro hP hT)
 clear hP hT
 go_enter Tryz.func199, Tryz.ntmps199
 go_wp2_with fail
 go_loopw [9, 10] (fun i j wr => ∃ (lo hi b : Nat), i = .int .i64 lo ∧ j = .int .i64 hi ∧ lo ≤ hi ∧ hi ≤ is.length ∧ hi ≤ lo + b ∧ bsFrom (cmpE is n) b lo hi = P ∧ Below w.heap.size w wr) (fun i j _ => (intOf j - intOf i).toNat)
 case atStart => exact ⟨0, is.length, is.length, rfl, rfl, by omega, by omega, by omega, HP.out.1, bel _ _⟩
 case round =>
  obtain ⟨lo, hi, b, rfl, rfl, hlh, hhn, hfu, hbs, hb⟩ := hrel; have iB : Bel w wr := ⟨hb⟩
  by_cases hlt : lo < hi
  · obtain ⟨b', rfl⟩ : ∃ b', b = b' + 1 := ⟨b - 1, by omega⟩
    obtain ⟨m, hm⟩ : ∃ m, (lo + hi) / 2 = m := ⟨_, rfl⟩
    obtain ⟨b0, off, x, rfl, iG, hx, hcm, c0, c1⟩ := HC.out wr hb m (by omega); rw [bsFrom, if_pos hlt, hm, hcm] at hbs; have HS := Lib.hid hbs; clear hbs hcm; have hmI : ((lo : Int) + hi) / 2 = m := by omega
    have hmn : m < is.length := by omega
    have hmnI : (m : Int) < is.length := by omega
    have hcall : ∀ ww, Calls Tryz.prog 200 #[.agg #[.string x.name, .int .i64 x.num], .string n] ww fun e w' => e = .returned (.int .i64 (cmpS x.name n)) ∧ Below ww.heap.size ww w' := fun ww => cmp153 x.name n x.num ww
    have HM := Lib.hid hm; clear hm; by_cases hneg : cmpS x.name n < 0
    · generalize hcv : cmpS x.name n = cv at hcall hneg; go_wp2_with (go_at_call 200; refine aT (hcall _) fun p => ?_)
      go_roundw
      case rel => exact ⟨m + 1, hi, b', by go_num, rfl, by have := HM.out; omega, by omega, by have := HM.out; omega, by have := HS.out; rw [hcv, if_pos hneg] at this; exact this, bel _ _⟩
      case measure => have := HM.out; simp [intOf]; omega
    · generalize hcv : cmpS x.name n = cv at hcall hneg; go_wp2_with (go_at_call 200; refine aT (hcall _) fun p => ?_)
      go_roundw
      case rel => exact ⟨lo, m, b', rfl, rfl, by have := HM.out; omega, by omega, by have := HM.out; omega, by have := HS.out; rw [hcv, if_neg (by omega)] at this; exact this, bel _ _⟩
      case measure => have := HM.out; simp [intOf]; omega
  · obtain rfl : lo = hi := by omega
    rw [bsFrom_end _ _ _ _ hlt] at hbs; have hPl : P = lo := hbs.symm; subst hPl; by_cases hln : P < is.length
    · obtain ⟨b0, off, x, rfl, iG, hx, hcm, c0, c1⟩ := HC.out wr hb P hln; have hlnI : (P : Int) < is.length := by omega
      have hcall : ∀ ww, Calls Tryz.prog 200 #[.agg #[.string x.name, .int .i64 x.num], .string n] ww fun e w' => e = .returned (.int .i64 (cmpS x.name n)) ∧ Below ww.heap.size ww w' := fun ww => cmp153 x.name n x.num ww
      have hTv : T = (cmpS x.name n == 0) := by
       have h1 := HP.out.2; have h2 := HP.out.1; rw [← h1]; unfold hitE; rw [h2, hcm]; simp [hln]
      clear hcm; generalize cmpS x.name n = cv at hcall hTv; subst hTv; go_wp2_with (go_at_call 200; refine aT (hcall _) fun p => ?_)
      refine bodyPost_ret (v := .tuple #[.int .i64 P, .bool (cv == 0)]) (by simp [results, Tryz.results199, go_sem]) rfl ⟨rfl, bel _ _⟩
    · have hlnI : ¬ (P : Int) < is.length := by omega
      have hTv : T = false := by
       have h1 := HP.out.2; have h2 := HP.out.1; rw [← h1]; unfold hitE; rw [h2]; simp [hln]
      subst hTv; go_wp2_with fail; refine bodyPost_ret (v := .tuple #[.int .i64 P, .bool false]) (by simp [results, Tryz.results199, go_sem]) rfl ⟨rfl, bel _ _⟩
theorem entry114 (es : List PEnt) (v : Value) (s : ByteArray) (w : World) (h : RowAt w 2 v (es.map PEnt.cells)) (hlen : es.length ≤ 1000000000) :
 Calls Tryz.prog 171 #[v, .string s] w fun e w' => e = .returned (.tuple #[.int .i64 (bsE es s), .bool (hitE es s)]) ∧ Below w.heap.size w w' := by
 have hv := h.one
 have hbs := bs152 es v s w h hlen
 generalize bsE es s = P at hbs ⊢
 generalize hitE es s = T at hbs ⊢
 clear h
 go_enter Tryz.func171, Tryz.ntmps171
 go_wp2_with (go_at_call 199; refine hbs.mono ?_; rintro e w' ⟨rfl, hb⟩; obtain ⟨p, rfl⟩ := hb.rest; clear hb)
 exact bodyPost_ret (v := .tuple #[.int .i64 P, .bool T]) (by simp [results, Tryz.results171, go_sem]) rfl ⟨rfl, bel _ _⟩
theorem info3 : (Tryz.prog.info? 3).map (fun i => (i.zero, i.size, i.bytes)) = some (some (.int .i64 0), 1, 8) := by kernel_rfl
theorem info4 : (Tryz.prog.info? 4).map (fun i => (i.zero, i.size, i.bytes)) = some (some (.bool false), 1, 1) := by kernel_rfl
def TodoAt (X : Nat → Prop) (w : World) (v : Value) (xs : List Nat) : Prop :=
 ∃ g off cap arr, v = .slice (some ⟨g, off, none⟩) xs.length cap ∧ ¬ X g ∧ Blk w g arr 3 ∧ xs.length ≤ cap ∧ off + cap ≤ arr.size ∧ ∀ (i x : Nat), xs[i]? = some x → arr[off + i]? = some (.int .i64 x)
theorem TodoAt.alloc {X : Nat → Prop} {w : World} {v : Value} {xs : List Nat} (h : TodoAt X w v xs) (o : Obj) : TodoAt X (w.alloc o) v xs := by
 obtain ⟨g, off, cap, arr, e, hx, hb, r⟩ := h
 exact ⟨g, off, cap, arr, e, hx, hb.alloc o, r⟩
theorem TodoAt.junk {X : Nat → Prop} {w : World} {v : Value} {xs : List Nat} (h : TodoAt X w v xs) (o : Behind) : TodoAt X (w.junk o) v xs := by
 obtain ⟨g, off, cap, arr, e, hx, hb, r⟩ := h
 exact ⟨g, off, cap, arr, e, hx, hb.junk o, r⟩
theorem TodoAt.far {X : Nat → Prop} {w : World} {v : Value} {xs : List Nat} (h : TodoAt X w v xs) {a : Addr} (ha : X a.block) (u : Value) : TodoAt X (w.setCell a u) v xs := by
 obtain ⟨g, off, cap, arr, e, hx, hb, r⟩ := h
 exact ⟨g, off, cap, arr, e, hx, hb.far (fun e => hx (by rw [e]; exact ha)) u, r⟩
theorem wpList_append_todo {P : Program} (hP : P.underlying 24 = some (.slice 3)) (hI : (P.info? 3).map (fun i => (i.zero, i.size, i.bytes)) = some (some (.int .i64 0), 1, 8))
 (w : World) {ops : Array Oper} {rest : List Oper} {o : Oper} {a : Act} {Q : Exit → Act → World → Prop} (hg : o.guard = none) (s x : Operand)
 (hop : o.op = Op.call { callee := Callee.builtin Builtin.append, args := #[s, x], argTypes := #[24, 24] }) (X : Nat → Prop) (v : Value) (xs : List Nat) (hs : a.eval s = v) (ht : TodoAt X w v xs) (hX : ∀ g, w.heap.size ≤ g → ¬ X g)
 (ad : Addr) (c k : Nat) (hx : a.eval x = .slice (some ad) 1 c) (hc : w.cell? ad = some (.int .i64 k)) (hlen : xs.length ≤ 1000000)
 (hK : ∀ v' w', TodoAt X w' v' (xs ++ [k]) → Keep (fun g => ¬ X g) w w' → wpList P ops Q rest (a.put o.dst v') w') :
 wpList P ops Q (o :: rest) a w := by
 obtain ⟨i0, hi, hz0, hz1, hz2⟩ := info_parts hI
 obtain ⟨g, off, cap, arr, rfl, hnx, hb, hle, har, hel⟩ := ht
 refine wpList_append_arg w hg s x 24 hop 3 i0 (.int .i64 0) 1 8 hP hi hz0 hz1 hz2 rfl (by decide) g off xs.length cap (xs.map fun y : Nat => .int .i64 y) hs (by simp) ?_ ad 1 c [.int .i64 k] hx rfl ?_ ?_ ?_ (by unfold maxLen; omega) (by omega) ?_ ?_
 · intro j u hj; rw [gM] at hj; obtain ⟨y, hy, rfl⟩ := Option.map_eq_some_iff.1 hj; rw [hb.cell]; exact hel j y hy
 · intro j u hj; have : j = 0 := by
    rcases j with _ | j
    · rfl
    · simp at hj
   subst this; simp only [List.getElem?_cons_zero, Option.some.injEq] at hj; subst hj; have e : ad.add 0 = ad := by unfold Addr.add; split <;> simp_all
   rw [e]; exact hc
 · intro u hu; simp only [List.mem_singleton] at hu; subst hu; rfl
 · intro hr j hj; simp only [List.length_cons, List.length_nil] at hj; obtain rfl : j = 0 := by omega
   rw [hb.cell, hb.frozen, Nat.add_zero, Nat.mul_one]; refine ⟨?_, rfl⟩; rw [Array.getElem?_eq_getElem (by omega)]; rfl
 · intro hr; refine hK _ _ ⟨g, off, cap, arr.setIfInBounds (off + xs.length) (.int .i64 k), by simp, hnx, ?_, by simp; omega, by simp; omega, ?_⟩ ?_
   · simp only [Nat.mul_one, World.setCells]; exact hb.set_ _ _
   · intro i y hy; rw [Array.getElem?_setIfInBounds]; by_cases hi : i < xs.length
     · rw [List.getElem?_append_left hi] at hy; rw [if_neg (by omega)]; exact hel i y hy
     · rw [List.getElem?_append_right (by omega)] at hy; have h0 : i - xs.length = 0 := by
        rcases hq : i - xs.length with _ | j
        · rfl
        · rw [hq] at hy; simp at hy
       rw [h0] at hy; simp only [List.getElem?_cons_zero, Option.some.injEq] at hy; subst hy; obtain rfl : i = xs.length := by omega
       rw [if_pos rfl, if_pos (by omega)]
   · simp only [Nat.mul_one, World.setCells]; exact (Keep.refl _ w).setCell (p := ⟨g, _, none⟩) (.inl hnx) _
 · intro hr v' w' hown hgr; refine hK _ _ ?_ ((Keep.refl _ w).grown hgr (by simp)); obtain ⟨hl, h0 | ⟨g', cap', cur, rfl, hge, hcur, hnc, hcm, hsz, htk⟩⟩ := hown
   · omega
   · refine ⟨g', 0, cap', cur, by simp, hX g' hge, hcur, by simp; omega, by omega, ?_⟩; intro i y hy; have hil : i < xs.length + 1 := by
      obtain ⟨h, _⟩ := gI.1 hy; simpa using h
     have h2 : (cur.toList.take ((xs.length + 1) * 1))[i]? = some (.int .i64 y) := by
      rw [htk]; have : (xs.map (fun y : Nat => Value.int .i64 y) ++ [.int .i64 k]) = (xs ++ [k]).map (fun y : Nat => Value.int .i64 y) := by simp
      rw [this, gM, hy]; rfl
     rw [List.getElem?_take, if_pos (by omega)] at h2; rw [Nat.zero_add]; simpa using h2
theorem StRead.ins_at2 {w : World} {iv ov mv : Value} {S : PSt} (h : StRead w iv ov mv S) :
 ∃ a cap, iv = .slice a S.ins.length cap ∧ ∀ (q : Nat) (x : PIn), S.ins[q]? = some x → ∃ b off ev, a = some ⟨b, off, none⟩ ∧ BlockLt b w ∧ ev.oneCell' = true ∧ RowAt w 2 ev (x.ents.map PEnt.cells) ∧
  ∀ wr, Below w.heap.size w wr → BlockLt b wr ∧ wr.cell? ⟨b, off + q * 4, none⟩ = some (.int .i64 x.num) ∧ wr.cell? ⟨b, off + q * 4 + 1, none⟩ = some (.bool x.dir) ∧ wr.cell? ⟨b, off + q * 4 + 2, none⟩ = some ev ∧ wr.cell? ⟨b, off + q * 4 + 3, none⟩ = some (.string x.data) := by
 obtain ⟨_, _, is, h3, h4, h5⟩ := h
 obtain ⟨a, cap, rfl, hat⟩ := h3.at_
 rw [lM]
 refine ⟨a, cap, by rw [h4], fun q x hx => ?_⟩
 obtain ⟨hq, _⟩ := gI.1 hx
 have hr : is[q]? = some is[q] := gE (by omega)
 have hm : (is.map IRec.cells)[q]? = some is[q].cells := by rw [gM, hr]; rfl
 obtain ⟨b, off, rfl, i1, _, _⟩ := hat w (Below.refl _ _) q is[q].cells hm
 obtain ⟨e1, e2, e3, e4⟩ := h5 q _ x hr hx
 refine ⟨b, off, is[q].ev, rfl, i1, is[q].one, e4, fun wr hb => ?_⟩
 obtain ⟨b', off', e, _, i2, hc⟩ := hat wr hb q is[q].cells hm
 cases e
 refine ⟨i2, ?_, ?_, ?_, ?_⟩
 · rw [← e1]; exact hc 0 _ rfl
 · rw [← e2]; exact hc 1 _ rfl
 · exact hc 2 _ rfl
 · rw [← e3]; exact hc 3 _ rfl
def boolCells (x : Bool) : List Value := [.bool x]
def bumpAt (m : List Int) (k : Int) : List Int := m.set k.toNat (wrap64 (m.getD k.toNat 0 + 1))
def manyE (ns : List Int) (m : List Int) (es : List PEnt) : List Int := es.foldl (fun m e => bumpAt m (findN ns e.num)) m
def manyM (ns : List Int) (m : List Int) (xs : List PIn) : List Int := xs.foldl (fun m x => manyE ns m x.ents) m
def pushS (ns : List Int) (s : List Nat × List Bool) (e : PEnt) : List Nat × List Bool :=
 if s.2.getD (findN ns e.num).toNat false = true then s else (s.1 ++ [(findN ns e.num).toNat], s.2.set (findN ns e.num).toNat true)
def pushE (ns : List Int) (s : List Nat × List Bool) (es : List PEnt) : List Nat × List Bool := es.foldl (pushS ns) s
def bfs (ns : List Int) (ins : List PIn) : Nat → List Nat → List Bool → List Bool
 | 0, _, fd => fd
 | _ + 1, [], fd => fd
 | b + 1, k :: td, fd => let r := pushE ns (td, fd) (match ins[k]? with | some x => x.ents | none => []); bfs ns ins b r.1 r.2
def manyOf (S : PSt) : List Int := manyM S.nums (List.replicate S.ins.length 0) S.ins
def foundOf (S : PSt) : List Bool := bfs S.nums S.ins S.ins.length [0] ((List.replicate S.ins.length false).set 0 true)
theorem bumpAt_len (m : List Int) (k : Int) : (bumpAt m k).length = m.length := by simp [bumpAt]
theorem manyE_len (ns : List Int) (es : List PEnt) : ∀ m, (manyE ns m es).length = m.length := by
 induction es with
 | nil => intro m; rfl
 | cons e es ih => intro m; show (manyE ns (bumpAt m (findN ns e.num)) es).length = _; rw [ih, bumpAt_len]
theorem manyM_len (ns : List Int) (xs : List PIn) : ∀ m, (manyM ns m xs).length = m.length := by
 induction xs with
 | nil => intro m; rfl
 | cons x xs ih => intro m; show (manyM ns (manyE ns m x.ents) xs).length = _; rw [ih, manyE_len]
theorem manyE_drop {ns : List Int} {m : List Int} {es : List PEnt} {q : Nat} {e : PEnt} (h : es[q]? = some e) : manyE ns m (es.drop q) = manyE ns (bumpAt m (findN ns e.num)) (es.drop (q + 1)) := by rw [drop_at h]; rfl
theorem manyM_drop {ns : List Int} {m : List Int} {xs : List PIn} {q : Nat} {x : PIn} (h : xs[q]? = some x) : manyM ns m (xs.drop q) = manyM ns (manyE ns m x.ents) (xs.drop (q + 1)) := by rw [drop_at h]; rfl
theorem pushE_drop {ns : List Int} {s : List Nat × List Bool} {es : List PEnt} {q : Nat} {e : PEnt} (h : es[q]? = some e) : pushE ns s (es.drop q) = pushE ns (pushS ns s e) (es.drop (q + 1)) := by rw [drop_at h]; rfl
theorem RowAt.of_blk {α : Type} {w : World} {b cap : Nat} {t : TypeId} (f : α → Value) (xs : List α) (h : Blk w b (xs.map f).toArray t) (hm : xs.length ≤ maxLen) : RowAt w 1 (.slice (some ⟨b, 0, none⟩) xs.length cap) (xs.map fun x => [f x]) := by
 refine ⟨_, _, by rw [lM], by rw [lM]; exact hm, fun _ => ⟨b, 0, rfl, h.lt.lt, fun q cs hq t u hu => ?_⟩⟩
 rw [gM] at hq
 obtain ⟨x, hx, rfl⟩ := Option.map_eq_some_iff.1 hq
 rcases t with _ | t
 · simp only [List.getElem?_cons_zero, Option.some.injEq] at hu; subst hu; rw [h.cell]; simp [hx]
 · simp at hu
theorem count_set (l : List Bool) (f : Nat) (h : l[f]? = some false) : (l.set f true).count false + 1 = l.count false := by
 obtain ⟨hf, he⟩ := gI.1 h
 rw [List.count_set (h := hf)]
 have hm : false ∈ l := by rw [← he]; exact List.getElem_mem hf
 have : 0 < l.count false := List.count_pos_iff.2 hm
 simp [he]
 omega
theorem pushS_len (ns : List Int) (s : List Nat × List Bool) (e : PEnt) : (pushS ns s e).2.length = s.2.length := by
 unfold pushS
 split
 · rfl
 · simp
theorem pushE_len (ns : List Int) (es : List PEnt) : ∀ s, (pushE ns s es).2.length = s.2.length := by
 induction es with
 | nil => intro s; rfl
 | cons e es ih => intro s; show (pushE ns (pushS ns s e) es).2.length = _; rw [ih, pushS_len]
theorem made_map {α : Type} (f : α → Value) (z : α) (n : Nat) : madeCells #[f z] n = ((List.replicate n z).map f).toArray := by
 apply Array.toList_inj.1
 rw [toList_madeCells_one]
 simp
theorem reached65 (b : Nat) (S : PSt) (w : World) (h : SP w b S) (hwf : S.wf) (hpos : 0 < S.ins.length) (hsm : S.ins.length ≤ 1000) (hfind : ∀ x ∈ S.ins, ∀ e ∈ x.ents, 0 ≤ findN S.nums e.num) :
 Calls Tryz.prog 71 #[.pointer (some ⟨b, 0, none⟩)] w fun e w' => ∃ mv fv, e = .returned (.tuple #[mv, fv]) ∧ Below w.heap.size w w' ∧ RowAt w' 1 mv ((manyOf S).map intCells) ∧ RowAt w' 1 fv ((foundOf S).map boolCells) := by
 have hf : ∀ ww, Below w.heap.size w ww → ∀ n, Calls Tryz.prog 102 #[.pointer (some ⟨b, 0, none⟩), .int .i64 n] ww fun e w' => e = .returned (.int .i64 (findN S.nums n)) ∧ Below ww.heap.size ww w' :=
  fun ww hb n => find_sp b S n ww (h.below hb (Nat.le_refl _)) hwf
 obtain ⟨hl, iv, ov, mv, c0, c1, c2, hr⟩ := h
 have ib : BlockLt b w := ⟨hl⟩
 have hlen := hwf.1
 have HWF := Lib.hid hwf.2.2.2.1
 obtain ⟨ai, capi, rfl, hati⟩ := hr.ins_at2
 have HI := Lib.hid hati
 clear hr hwf hati c1 c2
 obtain ⟨i0, hi, hz0, hz1, hz2⟩ := info_parts info3
 obtain ⟨j0, ji, jz0, jz1, jz2⟩ := info_parts info4
 have hmk : ∀ u : World, (Instr.makeSlice 24 (.int .i64 S.ins.length) (.int .i64 S.ins.length)).run Tryz.prog u = .ok (.slice (some ⟨u.heap.size, 0, none⟩) S.ins.length S.ins.length) (u.alloc (.cells ((List.replicate S.ins.length (0 : Int)).map fun x => Value.int .i64 x).toArray 3)) := fun u => by
  have := run_makeSlice (P := Tryz.prog) u 24 3 i0 _ Tryz.underlying24 hi hz0 .i64 .i64 S.ins.length S.ins.length (by omega) (Int.le_refl _) (by rw [hz1]; omega) (by rw [hz2]; omega) (by omega); rw [← made_map (fun x => Value.int .i64 x)]; simpa [hz1, Value.cells] using this
 have hmk2 : ∀ u : World, (Instr.makeSlice 39 (.int .i64 S.ins.length) (.int .i64 S.ins.length)).run Tryz.prog u = .ok (.slice (some ⟨u.heap.size, 0, none⟩) S.ins.length S.ins.length) (u.alloc (.cells ((List.replicate S.ins.length false).map fun x => Value.bool x).toArray 4)) := fun u => by
  have := run_makeSlice (P := Tryz.prog) u 39 4 j0 _ Tryz.underlying39 ji jz0 .i64 .i64 S.ins.length S.ins.length (by omega) (Int.le_refl _) (by rw [jz1]; omega) (by rw [jz2]; omega) (by omega); rw [← made_map (fun x => Value.bool x)]; simpa [jz1, Value.cells] using this
 obtain ⟨MM, hMM⟩ : ∃ MM, manyOf S = MM := ⟨_, rfl⟩
 obtain ⟨FF, hFF⟩ : ∃ FF, foundOf S = FF := ⟨_, rfl⟩
 rw [hMM, hFF]
 have HMM := Lib.hid (And.intro hMM hFF)
 clear hMM hFF
 go_enter Tryz.func71, Tryz.ntmps71
 go_upto_region 1 with fail
 go_cut [4, 5] (fun s4 s5 wx => ∃ M F : Nat, s4 = .slice (some ⟨M, 0, none⟩) S.ins.length S.ins.length ∧ s5 = .slice (some ⟨F, 0, none⟩) S.ins.length S.ins.length ∧ Below w.heap.size w wx ∧ Blk wx M (Array.replicate S.ins.length (.int .i64 0)) 3 ∧ Blk wx F (Array.replicate S.ins.length (.bool false)) 4 ∧ M ≠ F ∧ w.heap.size ≤ M ∧ w.heap.size ≤ F)
 case first =>
  go_region_held3 (fun w' => w'.cell? ⟨b, 0, none⟩ = some (.slice ai S.ins.length capi))
   (first | (try dsimp only) <;> go_simp)
   (fail)
  all_goals go_wp2_with fail
  all_goals go_meet
  all_goals (refine ⟨_, _, rfl, rfl, bel _ _, ?_, ?_, by omega, by omega, by omega⟩)
  all_goals (repeat (first | exact Blk.new_i _ _ _ _ | refine Blk.alloc ?_ _ | refine Blk.drew ?_))
 case rest =>
  obtain ⟨M, F, rfl, rfl, hb, hM, hF, hMF, hMg, hFg⟩ := hcut; have iM := hM.lt; have iF := hF.lt; have iB : Bel w wc := ⟨hb⟩
  have iL0 : BlockLt b wc := ⟨by have := hb.size; have := ib.lt; omega⟩
  have c0r : wc.cell? ⟨b, 0, none⟩ = some (.slice ai S.ins.length capi) := (hb.cell (p := ⟨b, 0, none⟩) ib.lt).trans c0; have hM' : Blk wc M ((List.replicate S.ins.length (0 : Int)).map fun x => Value.int .i64 x).toArray 3 := by simpa using hM
  have hF' : Blk wc F ((List.replicate S.ins.length false).map fun x => Value.bool x).toArray 4 := by simpa using hF
  have HMF := Lib.hid (And.intro hM' hF'); have HG := Lib.hid (And.intro hMF (And.intro hMg hFg)); have HC0 := Lib.hid c0; clear hM hF hM' hF' hMF hMg hFg c0; go_wp2_with fail
  go_loopw [32] (fun i wr => ∃ (q : Nat) (m : List Int), i = .int .i64 q ∧ q ≤ S.ins.length ∧ m.length = S.ins.length ∧ manyM S.nums m (S.ins.drop q) = MM ∧ Below w.heap.size w wr ∧ Blk wr M (m.map fun x => Value.int .i64 x).toArray 3 ∧ Blk wr F ((List.replicate S.ins.length false).map fun x => Value.bool x).toArray 4) (fun i _ => (S.ins.length - intOf i).toNat)
  case atStart => exact ⟨0, List.replicate S.ins.length 0, rfl, by omega, by simp, HMM.out.1, bel _ _, HMF.out.1, HMF.out.2⟩
  case round =>
   obtain ⟨q, m, rfl, hq, hml, hre, hbr, hMr, hFr⟩ := hrel
   rename World => wo
   have iBr : Bel w wo := ⟨hbr⟩
   have iMr := hMr.lt; have iFr := hFr.lt; have iL0r : BlockLt b wo := ⟨by have := hbr.size; have := ib.lt; omega⟩
   by_cases hlt : q < S.ins.length
   · obtain ⟨z, hz⟩ : ∃ z, S.ins[q]? = some z := ⟨_, gE hlt⟩
     rw [manyM_drop hz] at hre; obtain ⟨bi, off, ev1, rfl, iG0, ho1, hev, hcl⟩ := HI.out q z hz; obtain ⟨iGr, y0, y1, y2, y3⟩ := hcl wo hbr; obtain ⟨hez, _⟩ := (HWF.out z (mG hz)).2; have hfz := hfind z (mG hz); obtain ⟨ae, ce, rfl, hat⟩ := hev.at_; rw [lM] at y2; have HE := Lib.hid hat; have HR := Lib.hid (And.intro hre (And.intro hml (And.intro hMr hFr))); have HZ := Lib.hid hfz; clear hat hev hz hre hMr hFr hml hfz ho1 hcl; go_wp2_with fail
     go_loopw [39] (fun i w2 => ∃ (k : Nat) (m2 : List Int), i = .int .i64 k ∧ k ≤ z.ents.length ∧ m2.length = S.ins.length ∧ manyE S.nums m2 (z.ents.drop k) = manyE S.nums m z.ents ∧ Keep (fun g => g = M) wo w2 ∧ Blk w2 M (m2.map fun x => Value.int .i64 x).toArray 3) (fun i _ => (z.ents.length - intOf i).toNat)
     case atStart => exact ⟨0, m, rfl, by omega, HR.out.2.1, rfl, ((Keep.refl _ _).alloc _), HR.out.2.2.1.alloc _⟩
     case round =>
      obtain ⟨k, m2, rfl, hk, hm2, hre2, hkp, hM2⟩ := hrel; have hb2 : Below w.heap.size w wr := hbr.trans (hkp.below hbr.size (fun i hi e => by have := HG.out.2.1; omega)); have iB2 : Bel w wr := ⟨hb2⟩
      have iM2 := hM2.lt; have iL2 : BlockLt b wr := ⟨by have := hb2.size; have := ib.lt; omega⟩
      by_cases hlk : k < z.ents.length
      · obtain ⟨e, he⟩ : ∃ e, z.ents[k]? = some e := ⟨_, gE hlk⟩
        rw [manyE_drop he] at hre2; obtain ⟨be, offe, rfl, iE0, iE, hce⟩ := HE.out wr hb2 k e.cells (by rw [gM, he]; rfl); have e0 := hce 0 _ rfl; have e1 := hce 1 _ rfl; rw [Nat.add_zero] at e0; have hfe : ∀ ww, Below w.heap.size w ww → Calls Tryz.prog 102 #[.pointer (some ⟨b, 0, none⟩), .int .i64 e.num] ww _ := fun ww hww => hf ww hww e.num
        have hfb := findN_bounds S.nums e.num; have hnl : S.nums.length = S.ins.length := by unfold PSt.nums; rw [lM]
        have hf0 := HZ.out e (mG he); generalize findN S.nums e.num = fv at hfe hfb hf0 hre2; obtain ⟨f, rfl⟩ : ∃ f : Nat, fv = f := ⟨fv.toNat, by omega⟩
        have hfl : f < S.ins.length := by omega
        obtain ⟨x, hx⟩ : ∃ x, m2[f]? = some x := ⟨_, gE (by omega)⟩
        have c3 : wr.cell? ⟨M, f, none⟩ = some (.int .i64 x) := by rw [hM2.cell f]; simp [hx]
        have fz : wr.frozen? ⟨M, f, none⟩ = false := hM2.frozen f; have hbump : bumpAt m2 (f : Int) = m2.set f (wrap64 (x + 1)) := by
         unfold bumpAt; rw [Int.toNat_natCast, List.getD_eq_getElem?_getD, hx]; rfl
        rw [hbump] at hre2; have HN := Lib.hid (And.intro hre2 (And.intro hkp (And.intro hM2 hm2))); have iMg : BlockGe M w := ⟨HG.out.2.1⟩
        clear hce he hfb hnl hbump hx hre2 hkp hM2 hm2 hf0; go_wp2_with ((go_at_call 102; refine aT (hfe _ (bel _ _)) fun p => ?_))
        go_roundw
        case rel =>
         refine ⟨k + 1, m2.set f (wrap64 (x + 1)), by go_num, by omega, by rw [List.length_set]; exact HN.out.2.2.2, HN.out.1, ((HN.out.2.1.setCell (p := ⟨M, f, none⟩) (.inl rfl) _).alloc _).junk _, ?_⟩; have := ((HN.out.2.2.1.set_ f (.int .i64 (wrap64 (x + 1)))).alloc (Obj.cells #[Value.string e.name, Value.int IntKind.i64 e.num] 97)).junk p; rw [sA, ← List.map_set (f := fun x => Value.int .i64 x)] at this; exact this
        case measure => simp [intOf]; omega
      · rw [List.drop_of_length_le (by omega)] at hre2; have hm2e : m2 = manyE S.nums m z.ents := hre2; have HN := Lib.hid (And.intro hm2e (And.intro hkp (And.intro hM2 hm2))); clear hre2 hm2e hkp hM2 hm2; go_wp2_with fail
        go_roundw
        case rel => exact ⟨q + 1, m2, by go_num, by omega, HN.out.2.2.2, by rw [HN.out.1]; exact HR.out.1, bel _ _, HN.out.2.2.1, HN.out.2.1.blk HR.out.2.2.2 (fun e => by have := HG.out.1; omega)⟩
        case measure => simp [intOf]; omega
   · rw [List.drop_of_length_le (by omega)] at hre; have hme : m = MM := hre; subst hme; have HN := Lib.hid (And.intro hml (And.intro hMr hFr)); have iFg : BlockGe F w := ⟨HG.out.2.2⟩
     have cF0 : wo.cell? ⟨F, 0, none⟩ = some (.bool false) := by rw [hFr.cell 0]; simp [List.getElem?_replicate, hpos]
     have fF0 : wo.frozen? ⟨F, 0, none⟩ = false := hFr.frozen 0; clear hre hMr hFr hml; obtain ⟨X, hX⟩ : ∃ X : Nat → Prop, X = fun g => g < w.heap.size ∨ g = M ∨ g = F := ⟨_, rfl⟩
     have XM : X M := by rw [hX]; exact .inr (.inl rfl)
     have XF : X F := by rw [hX]; exact .inr (.inr rfl)
     have Xw : ∀ i, i < w.heap.size → X i := fun i hi => by rw [hX]; exact .inl hi
     have hXX : ∀ (wz : World), BlockLt M wz → BlockLt F wz → Bel w wz → ∀ g, wz.heap.size ≤ g → ¬ X g := by
      intro wz i1 i2 i3 g hg hx; rw [hX] at hx; have := i1.lt; have := i2.lt; have := i3.below.size; rcases hx with h | h | h <;> omega
     have HX := Lib.hid (And.intro XM (And.intro XF (And.intro Xw hXX))); clear XM XF Xw hXX hX; go_wp2_with fail
     go_loopg [10] S.ins.length (fun gk td wr => ∃ (todo : List Nat) (fd : List Bool), TodoAt X wr td todo ∧ fd.length = S.ins.length ∧ (∀ k ∈ todo, k < S.ins.length) ∧ fd.count false + todo.length ≤ gk ∧ bfs S.nums S.ins gk todo fd = FF ∧ Below w.heap.size w wr ∧ Blk wr M (m.map fun x => Value.int .i64 x).toArray 3 ∧ Blk wr F (fd.map fun x => Value.bool x).toArray 4 ∧ gk ≤ S.ins.length)
     case atStart =>
      refine ⟨[0], (List.replicate S.ins.length false).set 0 true, ?_, by simp, by simpa using hpos, ?_, HMM.out.2, bel _ _, (HN.out.2.1.far (fun e => by have := HG.out.1; simp at e; omega) _).alloc _, ?_, Nat.le_refl _⟩
      · have h0 : SizeIs (wo.setCell ⟨F, 0, none⟩ (.bool true)) wo.heap.size := inferInstance; exact ⟨wo.heap.size, 0, 1, #[.int .i64 0], rfl, HX.out.2.2.2 wo iMr iFr iBr _ (Nat.le_refl _), Blk.new_i _ _ _ _, by simp, by simp, fun i x hx => by
         rcases i with _ | i
         · simp at hx; subst hx; rfl
         · simp at hx⟩
      · have := count_set (List.replicate S.ins.length false) 0 (by simp [List.getElem?_replicate, hpos]); rw [List.count_replicate_self] at this; simp only [List.length_cons, List.length_nil]; omega
      · have := (HN.out.2.2.set_ 0 (.bool true)).alloc (Obj.cells #[Value.int IntKind.i64 0] 3); rw [sA, ← List.map_set (f := fun x => Value.bool x)] at this; exact this
     case round =>
      obtain ⟨todo, fd, hT, hfl, htd, hcnt, hre, hb3, hM3, hF3, hgk⟩ := hrel
      rename World => wq
      have iB3 : Bel w wq := ⟨hb3⟩
      have iM3 := hM3.lt; have iF3 := hF3.lt; have iL3 : BlockLt b wq := ⟨by have := hb3.size; have := ib.lt; omega⟩
      have c0q : wq.cell? ⟨b, 0, none⟩ = some (.slice ai S.ins.length capi) := (hb3.cell (p := ⟨b, 0, none⟩) ib.lt).trans HC0.out; obtain ⟨g, off, cap, arr, rfl, hng, hbk, hle, har, hel⟩ := hT; rcases todo with _ | ⟨at_, td⟩
      · have hff : fd = FF := by rw [← hre]; rcases gk with _ | gk <;> rfl
        subst hff; have HP := Lib.hid (And.intro hM3 (And.intro hF3 (And.intro hfl (And.intro HN.out.1 hb3)))); clear hM3 hF3 hre hcnt htd hel hfl; simp only [List.length_nil] at *; go_wp2_with fail; refine bodyPost_ret (v := .tuple #[.slice (some ⟨M, 0, none⟩) S.ins.length S.ins.length, .slice (some ⟨F, 0, none⟩) S.ins.length S.ins.length]) (by simp [results, Tryz.results71, go_sem]) rfl ⟨_, _, rfl, bel _ _, ?_, ?_⟩
        · have := RowAt.of_blk (cap := S.ins.length) (fun x => Value.int .i64 x) m HP.out.1 (by unfold maxLen; have := HP.out.2.2.2.1; omega); rw [HP.out.2.2.2.1] at this; exact this
        · have := RowAt.of_blk (cap := S.ins.length) (fun x => Value.bool x) fd HP.out.2.1 (by unfold maxLen; have := HP.out.2.2.1; omega); rw [HP.out.2.2.1] at this; exact this
      · rcases gk with _ | gk
        · simp at hcnt
        have hat_ : at_ < S.ins.length := htd at_ (by simp); obtain ⟨x, hx⟩ : ∃ x, S.ins[at_]? = some x := ⟨_, gE hat_⟩
        have hre : bfs S.nums S.ins gk (pushE S.nums (td, fd) x.ents).1 (pushE S.nums (td, fd) x.ents).2 = FF := by
         rw [← hre]; show _ = bfs S.nums S.ins gk (pushE S.nums (td, fd) (match S.ins[at_]? with | some x => x.ents | none => [])).1 (pushE S.nums (td, fd) (match S.ins[at_]? with | some x => x.ents | none => [])).2; rw [hx]
        obtain ⟨bi, offi, ev1, rfl, iG0, ho1, hev, hcl⟩ := HI.out at_ x hx; obtain ⟨iGq, y0, y1, y2, y3⟩ := hcl wq hb3; obtain ⟨hez, _⟩ := (HWF.out x (mG hx)).2; have hfx := hfind x (mG hx); obtain ⟨ae, ce, rfl, hat⟩ := hev.at_; rw [lM] at y2; have cg0 : wq.cell? ⟨g, off, none⟩ = some (.int .i64 at_) := by rw [hbk.cell]; exact hel 0 at_ rfl
        have iGg := hbk.lt; have HE := Lib.hid hat; have HZ := Lib.hid (And.intro hfx (And.intro hre (And.intro htd (And.intro hel hcnt)))); have HB := Lib.hid (And.intro hbk (And.intro hng (And.intro hM3 (And.intro hF3 (And.intro hfl har))))); have hlen1 : (td.length : Int) + 1 ≤ cap := by simp only [List.length_cons] at hle; omega
        clear hat hev hx hre hM3 hF3 hfl hfx ho1 hcl htd hel hcnt hbk hng har; simp only [List.length_cons] at *
        go_upto_region 15 with fail
        go_cut [10] (fun v10 wx => TodoAt X wx v10 td ∧ wx = wq)
        case first =>
         go_wp2_with fail
         all_goals go_meet
         · have h1 : cap = 1 := by assumption
           refine ⟨⟨g, off, 0, arr, by simp, HB.out.2.1, HB.out.1, by omega, by have := HB.out.2.2.2.2.2; omega, ?_⟩, rfl⟩; intro i y hy; obtain ⟨h, _⟩ := gI.1 hy; omega
         · refine ⟨⟨g, off + 1, cap - 1, arr, rfl, HB.out.2.1, HB.out.1, by omega, by have := HB.out.2.2.2.2.2; omega, ?_⟩, rfl⟩; intro i y hy; have := HZ.out.2.2.2.1 (i + 1) y (by simpa using hy); rw [← this]
           congr 1
           omega
        case rest =>
         obtain ⟨hT, rfl⟩ := hcut
         rename World => wq
         have HT := Lib.hid hT; have HT1 := hT; obtain ⟨g1, off1, cap1, arr1, rfl, -⟩ := HT1; clear hT; go_wp2_with fail
         go_loopw [10, 74] (fun v10 i wr => ∃ (k : Nat) (td2 : List Nat) (fd2 : List Bool), i = .int .i64 k ∧ k ≤ x.ents.length ∧ TodoAt X wr v10 td2 ∧ fd2.length = S.ins.length ∧ (∀ y ∈ td2, y < S.ins.length) ∧ pushE S.nums (td2, fd2) (x.ents.drop k) = pushE S.nums (td, fd) x.ents ∧ fd2.count false + td2.length ≤ gk ∧ Below w.heap.size w wr ∧ Blk wr M (m.map fun x => Value.int .i64 x).toArray 3 ∧ Blk wr F (fd2.map fun x => Value.bool x).toArray 4) (fun _ i _ => (x.ents.length - intOf i).toNat)
         case atStart => exact ⟨0, td, fd, rfl, by omega, HT.out, HB.out.2.2.2.2.1, fun y hy => HZ.out.2.2.1 y (List.mem_cons_of_mem _ hy), rfl, by have := HZ.out.2.2.2.2; (try simp only [List.length_cons] at this); omega, hb3, HB.out.2.2.1, HB.out.2.2.2.1⟩
         case round =>
          obtain ⟨k, td2, fd2, rfl, hk, hT2, hf2, htd2, hpu, hcn, hb4, hM4, hF4⟩ := hrel; have iB4 : Bel w wr := ⟨hb4⟩
          have iM4 := hM4.lt; have iF4 := hF4.lt; have iL4 : BlockLt b wr := ⟨by have := hb4.size; have := ib.lt; omega⟩
          by_cases hlk : k < x.ents.length
          · obtain ⟨e, he⟩ : ∃ e, x.ents[k]? = some e := ⟨_, gE hlk⟩
            rw [pushE_drop he] at hpu; obtain ⟨be, offe, rfl, iE0, iE, hce⟩ := HE.out wr hb4 k e.cells (by rw [gM, he]; rfl); have e0 := hce 0 _ rfl; have e1 := hce 1 _ rfl; rw [Nat.add_zero] at e0; have hfe : ∀ ww, Below w.heap.size w ww → Calls Tryz.prog 102 #[.pointer (some ⟨b, 0, none⟩), .int .i64 e.num] ww _ := fun ww hww => hf ww hww e.num
            have hfb := findN_bounds S.nums e.num; have hnl : S.nums.length = S.ins.length := by unfold PSt.nums; rw [lM]
            have hf0 := HZ.out.1 e (mG he); unfold pushS at hpu; generalize findN S.nums e.num = fv at hfe hfb hf0 hpu; obtain ⟨f, rfl⟩ : ∃ f : Nat, fv = f := ⟨fv.toNat, by omega⟩
            have hfl : f < S.ins.length := by omega
            have hflI : (f : Int) < S.ins.length := by omega
            obtain ⟨y, hy⟩ : ∃ y, fd2[f]? = some y := ⟨_, gE (by omega)⟩
            have c3 : wr.cell? ⟨F, f, none⟩ = some (.bool y) := by rw [hF4.cell f]; simp [hy]
            have fz : wr.frozen? ⟨F, f, none⟩ = false := hF4.frozen f; simp only [Int.toNat_natCast, List.getD_eq_getElem?_getD, hy, Option.getD_some] at hpu; obtain ⟨g2, off2, cap2, arr2, rfl, -⟩ := id hT2; rcases y with _ | _
            · simp only [Bool.false_eq_true, if_false] at hpu; have hcs := count_set fd2 f hy; have HN2 := Lib.hid (And.intro hpu (And.intro htd2 (And.intro hM4 (And.intro hF4 (And.intro hf2 (And.intro hcn hcs)))))); have HT2 := Lib.hid hT2; have htl : td2.length ≤ 1000000 := by
               omega
              clear hce he hfb hnl hy hpu hT2 hM4 hF4 htd2 hf2 hcs hf0; go_wp2_with (first | (go_at_call 102; refine aT (hfe _ (bel _ _)) fun p => ?_) | (at_builtin; refine wpList_append_todo (by kernel_rfl) info3 _ rfl (.tmp 90) (.tmp 92) rfl X _ td2 rfl (by repeat (first | exact HT2.out | refine TodoAt.alloc ?_ _ | refine TodoAt.junk ?_ _ | refine TodoAt.far ?_ HX.out.2.1 _)) (HX.out.2.2.2 _ inferInstance inferInstance ⟨bel _ _⟩) _ _ f rfl (by go_simp) htl ?_))
              intro v' w' hT3 hkp3; have HT3 := Lib.hid (And.intro hT3 hkp3); obtain ⟨g3, off3, cap3, arr3, rfl, -⟩ := id hT3; clear hT3 hkp3; go_wp2_with fail
              go_roundw
              case rel =>
               refine ⟨k + 1, td2 ++ [f], fd2.set f true, by go_num, by omega, HT3.out.1, by rw [List.length_set]; exact HN2.out.2.2.2.2.1, ?_, HN2.out.1, ?_, (bel w _).trans (HT3.out.2.below (bel w _).size (fun i hi hn => hn (HX.out.2.2.1 i hi))), ?_, ?_⟩
               · intro y hy; rcases List.mem_append.1 hy with h | h
                 · exact HN2.out.2.1 y h
                 · simp only [List.mem_singleton] at h; omega
               · have h1 := HN2.out.2.2.2.2.2.1; have h2 := HN2.out.2.2.2.2.2.2; simp only [lP, List.length_cons, List.length_nil]; omega
               · exact HT3.out.2.blk ((((HN2.out.2.2.1.far (fun e => by have := HG.out.1; simp at e; omega) _).alloc _).junk _).alloc _) (fun hn => hn HX.out.1)
               · have := HT3.out.2.blk ((((HN2.out.2.2.2.1.set_ f (.bool true)).alloc _).junk _).alloc _) (fun hn => hn HX.out.2.1); rw [sA, ← List.map_set (f := fun x => Value.bool x)] at this; exact this
              case measure => simp [intOf]; omega
            · simp only [if_true] at hpu; have HN2 := Lib.hid (And.intro hpu (And.intro htd2 (And.intro hM4 (And.intro hF4 hf2)))); have HT2 := Lib.hid hT2; clear hce he hfb hnl hy hpu hT2 hM4 hF4 htd2 hf2 hf0; go_wp2_with ((go_at_call 102; refine aT (hfe _ (bel _ _)) fun p => ?_))
              go_roundw
              case rel => exact ⟨k + 1, td2, fd2, by go_num, by omega, by repeat (first | exact HT2.out | refine TodoAt.alloc ?_ _ | refine TodoAt.junk ?_ _), HN2.out.2.2.2.2, HN2.out.2.1, HN2.out.1, hcn, bel _ _, (HN2.out.2.2.1.alloc _).junk _, (HN2.out.2.2.2.1.alloc _).junk _⟩
              case measure => simp [intOf]; omega
          · rw [List.drop_of_length_le (by omega)] at hpu; have hpe : (td2, fd2) = pushE S.nums (td, fd) x.ents := hpu; have HN2 := Lib.hid (And.intro hpe (And.intro htd2 (And.intro hM4 (And.intro hF4 (And.intro hf2 (And.intro hT2 hcn)))))); obtain ⟨g2, off2, cap2, arr2, rfl, -⟩ := id hT2; clear hpu hpe hT2 hM4 hF4 htd2 hf2 hcn; go_wp2_with fail
            go_roundg gk
            case rel => exact ⟨td2, fd2, HN2.out.2.2.2.2.2.1, HN2.out.2.2.2.2.1, HN2.out.2.1, HN2.out.2.2.2.2.2.2, by have h1 := HZ.out.2.1; rw [← HN2.out.1] at h1; exact h1, bel _ _, HN2.out.2.2.1, HN2.out.2.2.2.1, by omega⟩
            case measure => omega
theorem info65 : (Tryz.prog.info? 68).map (fun i => (i.zero, i.size, i.bytes)) = some (some (.agg #[.int .i64 0, .bool false, .slice none 0 0, .string ByteArray.empty]), 4, 56) := by kernel_rfl
theorem info99 : (Tryz.prog.info? 97).map (fun i => (i.zero, i.size, i.bytes)) = some (some (.agg #[.string ByteArray.empty, .int .i64 0]), 2, 24) := by kernel_rfl
theorem info88 : (Tryz.prog.info? 95).map (fun i => (i.zero, i.size, i.bytes)) = some (some (.agg #[.int .i64 0, .int .i64 0, .int .i64 0]), 3, 24) := by kernel_rfl
theorem flat_at {α : Type} (k : Nat) : ∀ (rows : List (List α)), (∀ cs ∈ rows, cs.length = k) → ∀ q t, t < k → rows.flatten[q * k + t]? = (rows[q]?).bind fun cs => cs[t]?
 | [], _, q, t, _ => by simp
 | c :: r, h, q, t, ht => by
   have hc : c.length = k := h c (by simp); rw [List.flatten_cons]; rcases q with _ | q
   · rw [Nat.zero_mul, Nat.zero_add, List.getElem?_append_left (by omega)]; rfl
   · rw [List.getElem?_append_right (by rw [hc, Nat.add_mul]; omega), hc, show (q + 1) * k + t - k = q * k + t by rw [Nat.add_mul]; omega, flat_at k r (fun cs hcs => h cs (by simp [hcs])) q t ht]; rfl
theorem flat_len {α : Type} (k : Nat) : ∀ (rows : List (List α)), (∀ cs ∈ rows, cs.length = k) → rows.flatten.length = rows.length * k
 | [], _ => by simp
 | c :: r, h => by
   rw [List.flatten_cons, lP, flat_len k r (fun cs hcs => h cs (by simp [hcs])), h c (by simp), List.length_cons, Nat.add_mul]; omega
theorem RowAt.flat {w : World} {k : Nat} {v : Value} {rows : List (List Value)} (h : RowAt w k v rows) (hk : 0 < k) (hu : ∀ cs ∈ rows, cs.length = k) :
 ∃ a cap, v = .slice a rows.length cap ∧ ∀ x, a = some x → ∀ j u, rows.flatten[j]? = some u → w.cell? (x.add j) = some u := by
 obtain ⟨a, cap, rfl, hm, hr⟩ := h
 refine ⟨a, cap, rfl, fun x hx j u hj => ?_⟩
 have hjl : j < rows.length * k := by
  obtain ⟨h, _⟩ := gI.1 hj
  rwa [flat_len k rows hu] at h
 have hpos : 0 < rows.length := by
  rcases Nat.eq_zero_or_pos rows.length with h0 | h0
  · rw [h0, Nat.zero_mul] at hjl; omega
  · exact h0
 obtain ⟨b, off, hab, _, hc⟩ := hr hpos
 subst hx
 obtain rfl : x = ⟨b, off, none⟩ := by simpa using hab
 have hj2 : j = j / k * k + j % k := by rw [Nat.mul_comm]; exact (Nat.div_add_mod j k).symm
 rw [hj2] at hj ⊢
 have ht : j % k < k := Nat.mod_lt _ hk
 rw [flat_at k rows hu _ _ ht] at hj
 obtain ⟨cs, hcs, hcu⟩ := Option.bind_eq_some_iff.1 hj
 rw [Addr.add_lit]
 show w.cell? ⟨b, off + (j / k * k + j % k), none⟩ = some u
 rw [← Nat.add_assoc]
 exact hc _ _ hcs _ _ hcu
theorem clone67 (rows : List (List Value)) (v : Value) (w : World) (h : RowAt w 4 v rows) (hu : ∀ cs ∈ rows, cs.length = 4) (h1 : ∀ cs ∈ rows, ∀ u ∈ cs, u.oneCell' = true) (hn : rows.length ≤ 1000000000) :
 Calls Tryz.prog 137 #[v] w fun e w' => ∃ v', e = .returned v' ∧ w'.ownsRow w.heap.size 68 4 v' rows.length rows.flatten ∧ Below w.heap.size w w' := by
 obtain ⟨i0, hi, hz0, hz1, hz2⟩ := info_parts info65
 have hl := flat_len 4 rows hu
 have h1' : ∀ u ∈ rows.flatten, u.oneCell' = true := fun u hm => by
  obtain ⟨cs, hc, hm⟩ := List.mem_flatten.1 hm; exact h1 cs hc u hm
 have h0' : RowAt w 4 v rows := h
 obtain ⟨a, cap, rfl, hc⟩ := h.flat (by decide) hu
 have q : ∀ (w : World) (a : Option Addr) (n c n' c' : Nat), (binOp .eql 22 (.slice a n c) (.slice none n' c')).run Tryz.prog w = .ok (.bool a.isNone) w := fun w a n c n' c' => Lib.run_eql_slice_nil w _ _ a n c n' c' Tryz.underlying22
 rcases a with _ | x
 · obtain ⟨a', c', e1, _, hr⟩ := h0'; have hz : rows.length = 0 := by
    rcases Nat.eq_zero_or_pos rows.length with h0 | h0
    · exact h0
    · obtain ⟨b, off, hb, _⟩ := hr h0; rw [hb] at e1; simp at e1
   obtain rfl : rows = [] := List.eq_nil_of_length_eq_zero hz; clear hc h1 h1' hr h
   go_enter Tryz.func137, Tryz.ntmps137
   go_wp2_with fail; go_ret; exact ⟨_, rfl, ⟨rfl, .inl ⟨rfl, rfl⟩⟩, bel _ _⟩
 · have A := Lib.hid (hc x rfl); clear hc h h0'
   go_enter Tryz.func137, Tryz.ntmps137
   go_wp2_with (at_builtin; refine wpList_append_own _ rfl _ _ 22 rfl w.heap.size 68 i0 (.agg #[.int .i64 0, .bool false, .slice none 0 0, .string ByteArray.empty]) 4 56 Tryz.underlying22 hi hz0 hz1 hz2 rfl (by decide) _ _ _ rfl (World.ownsRow_made w #[] 0 (Nat.le_refl _) (Nat.zero_le _) (by simp)) x rows.length cap rows.flatten rfl ?qc1 ?qc2 ?qc3 ?qc4 ?qc5 ?qc6 ?_)
   case qc1 => exact hl
   case qc2 =>
    intro j u hj; exact Lib.cell?_alloc_some _ (A.out j u hj)
   case qc3 => exact h1'
   case qc4 => unfold maxLen; omega
   case qc5 => omega
   case qc6 => simp
   intro v' w1 hown hgrow hnil; go_wp2_with fail; go_ret; refine ⟨v', rfl, by simpa using hown, ?_⟩; exact ((Keep.refl (fun _ => False) w).alloc _ |>.grown hgrow (fun k hk => .inr (by simp [Value.ownBlock] at hk; omega))).below (Nat.le_refl _) (fun i _ h => h)
theorem clone68 (rows : List (List Value)) (v : Value) (w : World) (h : RowAt w 2 v rows) (hu : ∀ cs ∈ rows, cs.length = 2) (h1 : ∀ cs ∈ rows, ∀ u ∈ cs, u.oneCell' = true) (hn : rows.length ≤ 1000000000) :
 Calls Tryz.prog 138 #[v] w fun e w' => ∃ v', e = .returned v' ∧ w'.ownsRow w.heap.size 97 2 v' rows.length rows.flatten ∧ Below w.heap.size w w' := by
 obtain ⟨i0, hi, hz0, hz1, hz2⟩ := info_parts info99
 have hl := flat_len 2 rows hu
 have h1' : ∀ u ∈ rows.flatten, u.oneCell' = true := fun u hm => by
  obtain ⟨cs, hc, hm⟩ := List.mem_flatten.1 hm; exact h1 cs hc u hm
 have h0' : RowAt w 2 v rows := h
 obtain ⟨a, cap, rfl, hc⟩ := h.flat (by decide) hu
 have q : ∀ (w : World) (a : Option Addr) (n c n' c' : Nat), (binOp .eql 66 (.slice a n c) (.slice none n' c')).run Tryz.prog w = .ok (.bool a.isNone) w := fun w a n c n' c' => Lib.run_eql_slice_nil w _ _ a n c n' c' Tryz.underlying66
 rcases a with _ | x
 · obtain ⟨a', c', e1, _, hr⟩ := h0'; have hz : rows.length = 0 := by
    rcases Nat.eq_zero_or_pos rows.length with h0 | h0
    · exact h0
    · obtain ⟨b, off, hb, _⟩ := hr h0; rw [hb] at e1; simp at e1
   obtain rfl : rows = [] := List.eq_nil_of_length_eq_zero hz; clear hc h1 h1' hr h
   go_enter Tryz.func138, Tryz.ntmps138
   go_wp2_with fail; go_ret; exact ⟨_, rfl, ⟨rfl, .inl ⟨rfl, rfl⟩⟩, bel _ _⟩
 · have A := Lib.hid (hc x rfl); clear hc h h0'
   go_enter Tryz.func138, Tryz.ntmps138
   go_wp2_with (at_builtin; refine wpList_append_own _ rfl _ _ 66 rfl w.heap.size 97 i0 (.agg #[.string ByteArray.empty, .int .i64 0]) 2 24 Tryz.underlying66 hi hz0 hz1 hz2 rfl (by decide) _ _ _ rfl (World.ownsRow_made w #[] 0 (Nat.le_refl _) (Nat.zero_le _) (by simp)) x rows.length cap rows.flatten rfl ?qc1 ?qc2 ?qc3 ?qc4 ?qc5 ?qc6 ?_)
   case qc1 => exact hl
   case qc2 =>
    intro j u hj; exact Lib.cell?_alloc_some _ (A.out j u hj)
   case qc3 => exact h1'
   case qc4 => unfold maxLen; omega
   case qc5 => omega
   case qc6 => simp
   intro v' w1 hown hgrow hnil; go_wp2_with fail; go_ret; refine ⟨v', rfl, by simpa using hown, ?_⟩; exact ((Keep.refl (fun _ => False) w).alloc _ |>.grown hgrow (fun k hk => .inr (by simp [Value.ownBlock] at hk; omega))).below (Nat.le_refl _) (fun i _ h => h)
theorem clone69 (rows : List (List Value)) (v : Value) (w : World) (h : RowAt w 3 v rows) (hu : ∀ cs ∈ rows, cs.length = 3) (h1 : ∀ cs ∈ rows, ∀ u ∈ cs, u.oneCell' = true) (hn : rows.length ≤ 1000000000) :
 Calls Tryz.prog 139 #[v] w fun e w' => ∃ v', e = .returned v' ∧ w'.ownsRow w.heap.size 95 3 v' rows.length rows.flatten ∧ Below w.heap.size w w' := by
 obtain ⟨i0, hi, hz0, hz1, hz2⟩ := info_parts info88
 have hl := flat_len 3 rows hu
 have h1' : ∀ u ∈ rows.flatten, u.oneCell' = true := fun u hm => by
  obtain ⟨cs, hc, hm⟩ := List.mem_flatten.1 hm; exact h1 cs hc u hm
 have h0' : RowAt w 3 v rows := h
 obtain ⟨a, cap, rfl, hc⟩ := h.flat (by decide) hu
 have q : ∀ (w : World) (a : Option Addr) (n c n' c' : Nat), (binOp .eql 23 (.slice a n c) (.slice none n' c')).run Tryz.prog w = .ok (.bool a.isNone) w := fun w a n c n' c' => Lib.run_eql_slice_nil w _ _ a n c n' c' Tryz.underlying23
 rcases a with _ | x
 · obtain ⟨a', c', e1, _, hr⟩ := h0'; have hz : rows.length = 0 := by
    rcases Nat.eq_zero_or_pos rows.length with h0 | h0
    · exact h0
    · obtain ⟨b, off, hb, _⟩ := hr h0; rw [hb] at e1; simp at e1
   obtain rfl : rows = [] := List.eq_nil_of_length_eq_zero hz; clear hc h1 h1' hr h
   go_enter Tryz.func139, Tryz.ntmps139
   go_wp2_with fail; go_ret; exact ⟨_, rfl, ⟨rfl, .inl ⟨rfl, rfl⟩⟩, bel _ _⟩
 · have A := Lib.hid (hc x rfl); clear hc h h0'
   go_enter Tryz.func139, Tryz.ntmps139
   go_wp2_with (at_builtin; refine wpList_append_own _ rfl _ _ 23 rfl w.heap.size 95 i0 (.agg #[.int .i64 0, .int .i64 0, .int .i64 0]) 3 24 Tryz.underlying23 hi hz0 hz1 hz2 rfl (by decide) _ _ _ rfl (World.ownsRow_made w #[] 0 (Nat.le_refl _) (Nat.zero_le _) (by simp)) x rows.length cap rows.flatten rfl ?qc1 ?qc2 ?qc3 ?qc4 ?qc5 ?qc6 ?_)
   case qc1 => exact hl
   case qc2 =>
    intro j u hj; exact Lib.cell?_alloc_some _ (A.out j u hj)
   case qc3 => exact h1'
   case qc4 => unfold maxLen; omega
   case qc5 => omega
   case qc6 => simp
   intro v' w1 hown hgrow hnil; go_wp2_with fail; go_ret; refine ⟨v', rfl, by simpa using hown, ?_⟩; exact ((Keep.refl (fun _ => False) w).alloc _ |>.grown hgrow (fun k hk => .inr (by simp [Value.ownBlock] at hk; omega))).below (Nat.le_refl _) (fun i _ h => h)
theorem clone70 (rows : List (List Value)) (v : Value) (w : World) (h : RowAt w 1 v rows) (hu : ∀ cs ∈ rows, cs.length = 1) (h1 : ∀ cs ∈ rows, ∀ u ∈ cs, u.oneCell' = true) (hn : rows.length ≤ 1000000000) :
 Calls Tryz.prog 140 #[v] w fun e w' => ∃ v', e = .returned v' ∧ w'.ownsRow w.heap.size 3 1 v' rows.length rows.flatten ∧ Below w.heap.size w w' := by
 obtain ⟨i0, hi, hz0, hz1, hz2⟩ := info_parts info3
 have hl := flat_len 1 rows hu
 have h1' : ∀ u ∈ rows.flatten, u.oneCell' = true := fun u hm => by
  obtain ⟨cs, hc, hm⟩ := List.mem_flatten.1 hm; exact h1 cs hc u hm
 have h0' : RowAt w 1 v rows := h
 obtain ⟨a, cap, rfl, hc⟩ := h.flat (by decide) hu
 have q : ∀ (w : World) (a : Option Addr) (n c n' c' : Nat), (binOp .eql 24 (.slice a n c) (.slice none n' c')).run Tryz.prog w = .ok (.bool a.isNone) w := fun w a n c n' c' => Lib.run_eql_slice_nil w _ _ a n c n' c' Tryz.underlying24
 rcases a with _ | x
 · obtain ⟨a', c', e1, _, hr⟩ := h0'; have hz : rows.length = 0 := by
    rcases Nat.eq_zero_or_pos rows.length with h0 | h0
    · exact h0
    · obtain ⟨b, off, hb, _⟩ := hr h0; rw [hb] at e1; simp at e1
   obtain rfl : rows = [] := List.eq_nil_of_length_eq_zero hz; clear hc h1 h1' hr h
   go_enter Tryz.func140, Tryz.ntmps140
   go_wp2_with fail; go_ret; exact ⟨_, rfl, ⟨rfl, .inl ⟨rfl, rfl⟩⟩, bel _ _⟩
 · have A := Lib.hid (hc x rfl); clear hc h h0'
   go_enter Tryz.func140, Tryz.ntmps140
   go_wp2_with (at_builtin; refine wpList_append_own _ rfl _ _ 24 rfl w.heap.size 3 i0 (.int .i64 0) 1 8 Tryz.underlying24 hi hz0 hz1 hz2 rfl (by decide) _ _ _ rfl (World.ownsRow_made w #[] 0 (Nat.le_refl _) (Nat.zero_le _) (by simp)) x rows.length cap rows.flatten rfl ?qc1 ?qc2 ?qc3 ?qc4 ?qc5 ?qc6 ?_)
   case qc1 => exact hl
   case qc2 =>
    intro j u hj; exact Lib.cell?_alloc_some _ (A.out j u hj)
   case qc3 => exact h1'
   case qc4 => unfold maxLen; omega
   case qc5 => omega
   case qc6 => simp
   intro v' w1 hown hgrow hnil; go_wp2_with fail; go_ret; refine ⟨v', rfl, by simpa using hown, ?_⟩; exact ((Keep.refl (fun _ => False) w).alloc _ |>.grown hgrow (fun k hk => .inr (by simp [Value.ownBlock] at hk; omega))).below (Nat.le_refl _) (fun i _ h => h)
def RowsIn (arr : Array Value) (k : Nat) (rows : List (List Value)) : Prop := ∀ (q : Nat) (cs : List Value), rows[q]? = some cs → ∀ (t : Nat) (u : Value), cs[t]? = some u → arr[q * k + t]? = some u
def OwnP (B : Nat) (w : World) (e : TypeId) (k : Nat) (v : Value) (rows : List (List Value)) : Prop :=
 (v = .slice none 0 0 ∧ rows = []) ∨ ∃ g cap arr, v = .slice (some ⟨g, 0, none⟩) rows.length cap ∧ B ≤ g ∧ Blk w g arr e ∧ rows.length ≤ cap ∧ cap ≤ maxLen ∧ arr.size = cap * k ∧ RowsIn arr k rows
theorem OwnP.of_own {B : Nat} {w : World} {e : TypeId} {k : Nat} {v : Value} {rows : List (List Value)} (h : w.ownsRow B e k v rows.length rows.flatten) (hk : 0 < k) (hu : ∀ cs ∈ rows, cs.length = k) : OwnP B w e k v rows := by
 obtain ⟨hl, h0 | ⟨g, cap, cur, rfl, hg, hb, hn, hm, hs, ht⟩⟩ := h
 · exact .inl ⟨h0.1, List.eq_nil_of_length_eq_zero h0.2⟩
 · refine .inr ⟨g, cap, cur, rfl, hg, hb, hn, hm, hs, fun q cs hq t u hc => ?_⟩; have htk : t < k := by
    have := hu cs (mG hq); obtain ⟨h, _⟩ := gI.1 hc; omega
   obtain ⟨hql, _⟩ := gI.1 hq; have h1 : rows.flatten[q * k + t]? = some u := by rw [flat_at k rows hu q t htk, hq]; exact hc
   rw [← ht, List.getElem?_take] at h1; have : q * k + t < rows.length * k := by
    have h2 : (q + 1) * k ≤ rows.length * k := Nat.mul_le_mul_right _ (by omega); rw [Nat.add_mul, Nat.one_mul] at h2; omega
   rw [if_pos this] at h1; simpa using h1
theorem OwnP.own {B : Nat} {w : World} {e : TypeId} {k : Nat} {v : Value} {rows : List (List Value)} (h : OwnP B w e k v rows) (hk : 0 < k) (hu : ∀ cs ∈ rows, cs.length = k) : w.ownsRow B e k v rows.length rows.flatten := by
 refine ⟨flat_len k rows hu, ?_⟩
 rcases h with ⟨rfl, rfl⟩ | ⟨g, cap, cur, rfl, hg, hb, hn, hm, hs, hr⟩
 · exact .inl ⟨rfl, rfl⟩
 · refine .inr ⟨g, cap, cur, rfl, hg, hb, hn, hm, hs, ?_⟩; apply List.ext_getElem?; intro i; have hl := flat_len k rows hu; rw [List.getElem?_take]; by_cases hi : i < rows.length * k
   · rw [if_pos hi]; have hi2 : i = i / k * k + i % k := by rw [Nat.mul_comm]; exact (Nat.div_add_mod i k).symm
     have ht : i % k < k := Nat.mod_lt _ hk; have hq : i / k < rows.length := Nat.div_lt_of_lt_mul (by rwa [Nat.mul_comm]); have hlen := hu rows[i / k] (List.getElem_mem hq); have h1 := hr (i / k) rows[i / k] (gE hq) (i % k) rows[i / k][i % k] (gE (by omega)); have key : ∀ j, j = i / k * k + i % k → cur.toList[j]? = rows.flatten[j]? := by
      intro j hj; rw [hj, flat_at k rows hu _ _ ht, gE hq]; show _ = rows[i / k][i % k]?; rw [show rows[i / k][i % k]? = some rows[i / k][i % k] from gE (by omega), ← h1]; simp
     exact key i hi2
   · rw [if_neg hi, List.getElem?_eq_none (by omega)]
theorem OwnP.row {B : Nat} {w : World} {e : TypeId} {k : Nat} {v : Value} {rows : List (List Value)} (h : OwnP B w e k v rows) : RowAt w k v rows := by
 rcases h with ⟨rfl, rfl⟩ | ⟨g, cap, cur, rfl, hg, hb, hn, hm, hs, hr⟩
 · exact ⟨none, 0, rfl, by simp, fun h => absurd h (by simp)⟩
 · exact ⟨_, _, rfl, by omega, fun _ => ⟨g, 0, rfl, hb.lt.lt, fun q cs hq t u hc => by rw [hb.cell, Nat.zero_add]; exact hr q cs hq t u hc⟩⟩
theorem OwnP.keep {B : Nat} {w w' : World} {e : TypeId} {k : Nat} {v : Value} {rows : List (List Value)} {S : Nat → Prop} (h : OwnP B w e k v rows) (hk : Keep S w w') (hn : ∀ g, v.ownBlock = some g → ¬ S g) : OwnP B w' e k v rows := by
 rcases h with h | ⟨g, cap, cur, rfl, hg, hb, r⟩
 · exact .inl h
 · exact .inr ⟨g, cap, cur, rfl, hg, hk.blk hb (hn g rfl), r⟩
theorem OwnP.mono {B B' : Nat} {w : World} {e : TypeId} {k : Nat} {v : Value} {rows : List (List Value)} (h : OwnP B w e k v rows) (hb : B' ≤ B) : OwnP B' w e k v rows := by
 rcases h with h | ⟨g, cap, cur, rfl, hg, r⟩
 · exact .inl h
 · exact .inr ⟨g, cap, cur, rfl, by omega, r⟩
theorem OwnP.ge {B : Nat} {w : World} {e : TypeId} {k : Nat} {v : Value} {rows : List (List Value)} (h : OwnP B w e k v rows) {g : Nat} (hg : v.ownBlock = some g) : B ≤ g := by
 rcases h with ⟨rfl, _⟩ | ⟨g', cap, cur, rfl, hg', r⟩
 · simp [Value.ownBlock] at hg
 · simp [Value.ownBlock] at hg; omega
theorem OwnP.lt {B : Nat} {w : World} {e : TypeId} {k : Nat} {v : Value} {rows : List (List Value)} (h : OwnP B w e k v rows) {g : Nat} (hg : v.ownBlock = some g) : g < w.heap.size := by
 rcases h with ⟨rfl, _⟩ | ⟨g', cap, cur, rfl, hg', hb, r⟩
 · simp [Value.ownBlock] at hg
 · simp [Value.ownBlock] at hg; subst hg; exact hb.lt.lt
theorem OwnP.ne_blk {B : Nat} {w : World} {e t : TypeId} {k b : Nat} {v : Value} {rows : List (List Value)} {c : Array Value} (h : OwnP B w e k v rows) (hb : Blk w b c t) (hne : e ≠ t) {g : Nat} (hg : v.ownBlock = some g) : g ≠ b := by
 rcases h with ⟨rfl, _⟩ | ⟨g', cap, cur, rfl, hg', hb', r⟩
 · simp [Value.ownBlock] at hg
 · simp [Value.ownBlock] at hg; subst hg; exact hb'.ne_ hb hne
theorem OwnP.one {B : Nat} {w : World} {e : TypeId} {k : Nat} {v : Value} {rows : List (List Value)} (h : OwnP B w e k v rows) : v.oneCell' = true := by
 rcases h with ⟨rfl, _⟩ | ⟨g', cap, cur, rfl, _⟩ <;> rfl
theorem RowsIn.set {arr : Array Value} {k : Nat} {rows : List (List Value)} (h : RowsIn arr k rows) (hu : ∀ cs ∈ rows, cs.length = k) {q t : Nat} {cs : List Value} (hq : rows[q]? = some cs) (ht : t < k) (hs : q * k + t < arr.size) (u : Value) : RowsIn (arr.setIfInBounds (q * k + t) u) k (rows.set q (cs.set t u)) := by
 intro q' cs' hq' t' u' hc'
 obtain ⟨hql, _⟩ := gI.1 hq
 have hcl := hu cs (mG hq)
 by_cases e : q = q'
 · subst e; rw [List.getElem?_set_self hql] at hq'; cases hq'; by_cases e2 : t = t'
   · subst e2; rw [List.getElem?_set_self (by omega)] at hc'; cases hc'; rw [Array.getElem?_setIfInBounds, if_pos rfl, if_pos hs]
   · rw [List.getElem?_set_ne e2] at hc'; rw [Array.getElem?_setIfInBounds, if_neg (by omega)]; exact h q cs hq t' u' hc'
 · rw [List.getElem?_set_ne e] at hq'; have ht' : t' < k := by
    have := hu cs' (mG hq'); obtain ⟨h, _⟩ := gI.1 hc'; omega
   rw [Array.getElem?_setIfInBounds, if_neg ?_]
   · exact h q' cs' hq' t' u' hc'
   · intro hh; rcases Nat.lt_or_gt_of_ne e with h | h
     · have := Nat.mul_le_mul_right k (show q + 1 ≤ q' from h); rw [Nat.add_mul] at this; omega
     · have := Nat.mul_le_mul_right k (show q' + 1 ≤ q from h); rw [Nat.add_mul] at this; omega
theorem irec_len : ∀ (is : List IRec), ∀ cs ∈ is.map IRec.cells, cs.length = 4 := by
 intro is cs h
 obtain ⟨r, _, rfl⟩ := List.mem_map.1 h
 rfl
theorem pent_len : ∀ (es : List PEnt), ∀ cs ∈ es.map PEnt.cells, cs.length = 2 := by
 intro es cs h
 obtain ⟨r, _, rfl⟩ := List.mem_map.1 h
 rfl
theorem pdesc_len : ∀ (es : List PDesc), ∀ cs ∈ es.map PDesc.cells, cs.length = 3 := by
 intro es cs h
 obtain ⟨r, _, rfl⟩ := List.mem_map.1 h
 rfl
theorem int_len : ∀ (es : List Int), ∀ cs ∈ es.map intCells, cs.length = 1 := by
 intro es cs h
 obtain ⟨r, _, rfl⟩ := List.mem_map.1 h
 rfl
theorem irec_one : ∀ (is : List IRec), ∀ cs ∈ is.map IRec.cells, ∀ u ∈ cs, u.oneCell' = true := by
 intro is cs h u hu
 obtain ⟨r, _, rfl⟩ := List.mem_map.1 h
 simp only [IRec.cells, List.mem_cons, List.not_mem_nil, or_false] at hu
 rcases hu with rfl | rfl | rfl | rfl <;> first | rfl | exact r.one
theorem pent_one : ∀ (is : List PEnt), ∀ cs ∈ is.map PEnt.cells, ∀ u ∈ cs, u.oneCell' = true := by
 intro is cs h u hu
 obtain ⟨r, _, rfl⟩ := List.mem_map.1 h
 simp only [PEnt.cells, List.mem_cons, List.not_mem_nil, or_false] at hu
 rcases hu with rfl | rfl <;> rfl
theorem pdesc_one : ∀ (is : List PDesc), ∀ cs ∈ is.map PDesc.cells, ∀ u ∈ cs, u.oneCell' = true := by
 intro is cs h u hu
 obtain ⟨r, _, rfl⟩ := List.mem_map.1 h
 simp only [PDesc.cells, List.mem_cons, List.not_mem_nil, or_false] at hu
 rcases hu with rfl | rfl | rfl <;> rfl
theorem int_one : ∀ (is : List Int), ∀ cs ∈ is.map intCells, ∀ u ∈ cs, u.oneCell' = true := by
 intro is cs h u hu
 obtain ⟨r, _, rfl⟩ := List.mem_map.1 h
 simp only [intCells, List.mem_cons, List.not_mem_nil, or_false] at hu
 subst hu; rfl
def StOwn (B : Nat) (w : World) (iv ov mv : Value) (S : PSt) : Prop :=
 OwnP B w 95 3 ov (S.op.map PDesc.cells) ∧ OwnP B w 3 1 mv (S.made.map intCells) ∧ ∃ is : List IRec, OwnP B w 68 4 iv (is.map IRec.cells) ∧ is.length = S.ins.length ∧
  (∀ (q : Nat) (r : IRec) (x : PIn), is[q]? = some r → S.ins[q]? = some x → r.num = x.num ∧ r.dir = x.dir ∧ r.data = x.data ∧ OwnP B w 97 2 r.ev (x.ents.map PEnt.cells)) ∧
  ∀ (p q : Nat) (r r' : IRec), p ≠ q → is[p]? = some r → is[q]? = some r' → ∀ g, r.ev.ownBlock = some g → r'.ev.ownBlock ≠ some g
theorem StOwn.read {B : Nat} {w : World} {iv ov mv : Value} {S : PSt} (h : StOwn B w iv ov mv S) : StRead w iv ov mv S := by
 obtain ⟨h1, h2, is, h3, h4, h5, _⟩ := h
 exact ⟨h1.row, h2.row, is, h3.row, h4, fun q r x hr hx => by
  obtain ⟨a1, a2, a3, a4⟩ := h5 q r x hr hx; exact ⟨a1, a2, a3, a4.row⟩⟩
theorem own_one {w : World} {B n k : Nat} {e : TypeId} {v : Value} {xs : List Value} (h : w.ownsRow B e k v n xs) : v.oneCell' = true := by
 obtain ⟨_, ⟨rfl, _⟩ | ⟨g, cap, cur, rfl, _⟩⟩ := h <;> rfl
structure ClAt (w : World) (iv iv' ov mv : Value) (S : PSt) (q : Nat) (wr : World) : Prop where
 le : q ≤ S.ins.length
 rows : ∃ is : List IRec, OwnP w.heap.size wr 68 4 iv' (is.map IRec.cells) ∧ is.length = S.ins.length ∧
  (∀ (j : Nat) (r : IRec) (x : PIn), is[j]? = some r → S.ins[j]? = some x → r.num = x.num ∧ r.dir = x.dir ∧ r.data = x.data ∧ (j < q → OwnP w.heap.size wr 97 2 r.ev (x.ents.map PEnt.cells)) ∧ (q ≤ j → RowAt w 2 r.ev (x.ents.map PEnt.cells))) ∧
  ∀ (p j : Nat) (r r' : IRec), p ≠ j → p < q → j < q → is[p]? = some r → is[j]? = some r' → ∀ g, r.ev.ownBlock = some g → r'.ev.ownBlock ≠ some g
 below : Below w.heap.size w wr
 box : Blk wr w.heap.size #[iv', ov, mv] 26
 out : ∃ c, Blk wr (w.heap.size + 1) c 26 ∧ c.size = 3
theorem clone39 (iv ov mv : Value) (S : PSt) (w : World) (h : StRead w iv ov mv S) (hwf : S.wf) :
 Calls Tryz.prog 106 #[.agg #[iv, ov, mv]] w fun e w' => ∃ iv' ov' mv', e = .returned (.agg #[iv', ov', mv']) ∧ Below w.heap.size w w' ∧ StOwn w.heap.size w' iv' ov' mv' S := by
 have hi1 : iv.oneCell' = true := by obtain ⟨_, _, _, h3, _⟩ := h; exact h3.one
 have ho1 := h.1.one
 have hm1 := h.2.1.one
 obtain ⟨hop, hmade, is0, hrow, his, hrec⟩ := h
 have hlen := hwf.1
 have h67 : ∀ ww, Below w.heap.size w ww → Calls Tryz.prog 137 #[iv] ww _ := fun ww hb => clone67 (is0.map IRec.cells) iv ww (hrow.below hb (Nat.le_refl _)) (irec_len _) (irec_one _) (by rw [lM]; omega)
 have H0 := Lib.hid (And.intro hop (And.intro hmade (And.intro hrow (And.intro his (And.intro hrec hwf)))))
 clear hop hmade hrow hrec hwf
 go_enter Tryz.func106, Tryz.ntmps106
 go_wp2_with (go_at_call 137; refine (h67 _ (bel _ _)).mono ?_; rintro e w1 ⟨iv', rfl, hown, hb1⟩; have hP := (OwnP.of_own hown (by decide) (irec_len _)).mono (bel w _).size; rw [lM, his] at hown; obtain ⟨ga, gc, rfl⟩ := own_form hown; have hbox : Blk w1 w.heap.size #[iv, ov, mv] 26 := ((Blk.new w _ 26).alloc _).below hb1 (by simp; omega); have hres : Blk w1 (w.heap.size + 1) #[.slice none 0 0, .slice none 0 0, .slice none 0 0] 26 := (Blk.new_i (w.alloc (.cells #[iv, ov, mv] 26)) _ 26 _).below hb1 (by simp); have hbw := (bel w _).trans (hb1.mono (bel w _).size); have iBw : Bel w w1 := ⟨hbw⟩; have iX := hbox.lt; have iR := hres.lt; have x0 := hbox.cell 0; have fx0 := hbox.frozen 0; have x1 := hbox.cell 1; have x2 := hbox.cell 2; simp only [List.getElem?_toArray, List.getElem?_cons_zero, List.getElem?_cons_succ] at x0 x1 x2; have H1 := Lib.hid (And.intro hP (And.intro hbw (And.intro hbox hres))); clear hown hb1 hP hbw hbox hres)
 go_loopw [11] (fun i wr => ∃ (q : Nat), i = .int .i64 q ∧ ClAt w iv (.slice ga S.ins.length gc) ov mv S q wr) (fun i _ => (S.ins.length - intOf i).toNat)
 case atStart =>
  obtain ⟨hP, hbw, hbox, hres⟩ := H1.out; have hk : Keep (fun g => g = w.heap.size) w1 (w1.setCell ⟨w.heap.size, 0, none⟩ (.slice ga S.ins.length gc)) := Keep.setCell (S := fun g => g = w.heap.size) (p := ⟨w.heap.size, 0, none⟩) (Keep.refl _ w1) (.inl rfl) _; refine ⟨0, rfl, by omega, ⟨is0, hP.keep hk (fun g hg => hP.ne_blk hbox (by decide) hg), his, ?_, fun p j r r' _ h => by omega⟩, bel _ _, ?_, ⟨_, hk.blk hres (by omega), rfl⟩⟩
  · intro j r x hr hx; obtain ⟨e1, e2, e3, e4⟩ := H0.out.2.2.2.2.1 j r x hr hx; exact ⟨e1, e2, e3, fun h => by omega, fun _ => e4⟩
  · exact hbox.set_ 0 _
 case round =>
  obtain ⟨q, rfl, hc⟩ := hrel; have hcb := hc.below; have iB : Bel w wr := ⟨hcb⟩
  have iX' := hc.box.lt; have x0' := hc.box.cell 0; have x1' := hc.box.cell 1; have x2' := hc.box.cell 2; simp only [List.getElem?_toArray, List.getElem?_cons_zero, List.getElem?_cons_succ] at x0' x1' x2'; have hle := hc.le; by_cases hlt : q < S.ins.length
  · obtain ⟨is, hO, hil, hrec, hdis⟩ := hc.rows; have hO' := hO; rcases hO' with ⟨h0, h1⟩ | ⟨g, cap, arr, he, hgB, hgb, hnc, hcm, hsz, hri⟩
    · have : is.length = 0 := by
       have := congrArg List.length h1; simpa using this
      omega
    rw [lM, hil] at he hnc; simp only [Value.slice.injEq] at he; obtain ⟨rfl, -, rfl⟩ := he; obtain ⟨r, hr⟩ : ∃ r, is[q]? = some r := ⟨_, gE (by omega)⟩
    obtain ⟨x, hx⟩ : ∃ x, S.ins[q]? = some x := ⟨_, gE hlt⟩
    obtain ⟨r1, r2, r3, _, r4⟩ := hrec q r x hr hx; have hm : (is.map IRec.cells)[q]? = some r.cells := by rw [gM, hr]; rfl
    have g2 : wr.cell? ⟨g, q * 4 + 2, none⟩ = some r.ev := by rw [hgb.cell]; exact hri q _ hm 2 _ rfl
    have iG := hgb.lt; have hxe := (H0.out.2.2.2.2.2.2.2.2.1 x (mG hx)).2.1; have hone := r.one; have h68 : ∀ ww, Below w.heap.size w ww → Calls Tryz.prog 138 #[r.ev] ww _ := fun ww hb => clone68 (x.ents.map PEnt.cells) r.ev ww ((r4 (Nat.le_refl _)).below hb (Nat.le_refl _)) (pent_len _) (pent_one _) (by rw [lM]; exact hxe)
    have HC := Lib.hid (And.intro hc (And.intro hO (And.intro hgb (And.intro hri (And.intro hrec (And.intro hdis (And.intro hr (And.intro hx (And.intro hsz hil))))))))); clear hc hO hgb hri hrec hdis hr hx r1 r2 r3 r4 hm hxe hsz hil
    go_upto_region 5 with fail
    have iQ : 0 ≤ (q : Int) ∧ (q : Int) < S.ins.length := by omega
    refine wp_region_eff [9, 12] true (fun w' => w'.cell? ⟨w.heap.size, 0, none⟩ = some (.slice (some ⟨g, 0, none⟩) S.ins.length gc) ∧ w'.cell? ⟨g, q * 4 + 2, none⟩ = some r.ev) (by kernel_rfl) (by kernel_rfl) ?_ ?_
    · (try dsimp only); (repeat' apply And.intro) <;> go_simp
    repeat
     refine wpL_look rfl rfl ?_; apply Exists.intro; refine ⟨?_, ?_⟩
     focus
      rintro w' ⟨s0, s1⟩; go_simp
      first | done | rfl
     simp only [Act.put, sA, sZ, sS]
    refine wpL_act rfl rfl ?_; refine eff_call 138 #[r.ev] ?hr ?_
    case hr =>
     go_simp
     first | done | rfl
    refine (h68 wr.drew (bel w _)).mono ?_; rintro e w2 ⟨v', rfl, hown2, hb2⟩; have hP2 := OwnP.of_own hown2 (by decide) (pent_len _); have hone2 := own_one hown2; rw [lM] at hown2; obtain ⟨va, vc, rfl⟩ := own_form hown2; have hbox2 := (HC.out.1.box.drew).below hb2 iX'.lt; have hgb2 := (HC.out.2.2.1.drew).below hb2 iG.lt; have iX2 := hbox2.lt; have iG2 := hgb2.lt; have y0 := hbox2.cell 0; simp only [List.getElem?_toArray, List.getElem?_cons_zero, List.getElem?_cons_succ] at y0; have y2 : w2.cell? ⟨g, q * 4 + 2, none⟩ = some r.ev := by
     rw [hgb2.cell]; exact HC.out.2.2.2.1 q _ (by rw [gM, HC.out.2.2.2.2.2.2.1]; rfl) 2 _ rfl
    have fz := hgb2.frozen (q * 4 + 2); have H2 := Lib.hid (And.intro hP2 (And.intro hb2 (And.intro hbox2 hgb2))); clear hown2 hP2 hb2 hbox2 hgb2; refine ⟨_, rfl, .inl ⟨y0, y2⟩, ?_⟩; simp only [Act.put, sA, sZ, sS]
    repeat
     refine wpL_look rfl rfl ?_; apply Exists.intro; refine ⟨?_, ?_⟩
     focus
      rintro w' ⟨s0, s1⟩; go_simp
      first | done | rfl
     simp only [Act.put, sA, sZ, sS]
    refine wpL_skip rfl rfl ?_; apply Exists.intro; refine ⟨?_, .inr ⟨rfl, rfl⟩, ?_⟩
    focus
     go_simp; rfl
    simp only [Act.put]; refine wpL_end ?_; go_wp2_with fail
    go_roundw
    case rel =>
     obtain ⟨hc, hO, hgb, hri, hrec, hdis, hr, hx, hsz, hil⟩ := HC.out; obtain ⟨hP2, hb2, hbox2, hgb2⟩ := H2.out; obtain ⟨r1, r2, r3, _, _⟩ := hrec q r x hr hx; obtain ⟨c, hout, hcs⟩ := hc.out; have hgl := hgb.lt.lt; have hsw := hcb.size; have hK : Keep (fun k => k = g) wr (w2.setCell ⟨g, q * 4 + 2, none⟩ (.slice va x.ents.length vc)) :=
      Keep.setCell (S := fun k => k = g) (p := ⟨g, q * 4 + 2, none⟩) (Keep.of_below (show Below wr.heap.size wr w2 from (Below.refl wr.heap.size wr).drew.trans hb2) _) (.inl rfl) _
     have hK2 : Keep (fun k => k = g) w2 (w2.setCell ⟨g, q * 4 + 2, none⟩ (.slice va x.ents.length vc)) :=
      Keep.setCell (S := fun k => k = g) (p := ⟨g, q * 4 + 2, none⟩) (Keep.refl _ _) (.inl rfl) _
     have hql : q < is.length := by omega
     have hup : ∀ k, w.heap.size ≤ k → ∀ (hk : k < wr.heap.size), k ≠ g → True := fun _ _ _ _ => trivial
     have hmset : (is.map IRec.cells).set q (r.cells.set 2 (.slice va x.ents.length vc)) = (is.set q ⟨r.num, r.dir, .slice va x.ents.length vc, r.data, rfl⟩).map IRec.cells := by
      rw [List.map_set]; rfl
     refine ⟨q + 1, by go_num, by omega, ⟨is.set q ⟨r.num, r.dir, .slice va x.ents.length vc, r.data, rfl⟩, .inr ⟨g, gc, arr.setIfInBounds (q * 4 + 2) (.slice va x.ents.length vc), by rw [lM, List.length_set, hil], hgB, hgb2.set_ _ _, by rw [lM, List.length_set]; omega, hcm, by rw [Array.size_setIfInBounds]; exact hsz, ?_⟩, by rw [List.length_set]; exact hil, ?_, ?_⟩, ?_, ?_, ?_⟩
     · rw [← hmset]; exact hri.set (irec_len _) (by rw [gM, hr]; rfl) (by decide) (by omega) _
     · intro j r'' x'' hr'' hx''; by_cases e : q = j
       · subst e; rw [List.getElem?_set_self hql] at hr''; rw [hx] at hx''; cases hr''; cases hx''; exact ⟨r1, r2, r3, fun _ => ((hP2.mono (show w.heap.size ≤ wr.drew.heap.size from hsw)).keep hK2 (fun k hk => hP2.ne_blk hgb2 (by decide) hk)), fun h => by omega⟩
       · rw [List.getElem?_set_ne e] at hr''; obtain ⟨a1, a2, a3, a4, a5⟩ := hrec j r'' x'' hr'' hx''; exact ⟨a1, a2, a3, fun h => (a4 (by omega)).keep hK (fun k hk => (a4 (by omega)).ne_blk hgb (by decide) hk), fun h => a5 (by omega)⟩
     · intro p j ra rb hpj hp hj ha hb k hk; have hold : ∀ (j : Nat) (rb : IRec), j < q → is[j]? = some rb → ∀ k, rb.ev.ownBlock = some k → k < wr.heap.size := by
        intro j rb hj hb k hk; obtain ⟨xb, hxb⟩ : ∃ xb, S.ins[j]? = some xb := ⟨_, gE (by omega)⟩
        exact ((hrec j rb xb hb hxb).2.2.2.1 hj).lt hk
       by_cases e : q = p
       · subst e; rw [List.getElem?_set_self hql] at ha; rw [List.getElem?_set_ne hpj] at hb; cases ha; intro h; have h1 := hold j rb (by omega) hb k h; have h2 := hP2.ge hk; have h3 : wr.drew.heap.size = wr.heap.size := rfl; omega
       · rw [List.getElem?_set_ne e] at ha; by_cases e2 : q = j
         · subst e2; rw [List.getElem?_set_self hql] at hb; cases hb; intro h; have h1 := hold p ra (by omega) ha k hk; have h2 := hP2.ge h; have h3 : wr.drew.heap.size = wr.heap.size := rfl; omega
         · rw [List.getElem?_set_ne e2] at hb; exact hdis p j ra rb hpj (by omega) (by omega) ha hb k hk
     · exact hcb.trans (hK.below hsw (fun i hi h => by omega))
     · exact hbox2.far (fun e => (hgb.ne_ hc.box (by decide)) (by simpa using e.symm)) _
     · exact ⟨c, hK.blk hout (fun e => (hgb.ne_ hout (by decide)) e.symm), hcs⟩
    case measure => simp [intOf]; omega
  · have hq : q = S.ins.length := by omega
    have HC := Lib.hid hc; have HQ := Lib.hid hq; obtain ⟨c, hout, hcs⟩ := hc.out; have iR' := hout.lt; have hR0 : ∀ i, i < 3 → ∃ u, wr.cell? ⟨w.heap.size + 1, i, none⟩ = some u := fun i hi => by rw [hout.cell]; exact ⟨_, Array.getElem?_eq_getElem (by omega)⟩
    obtain ⟨u0, z0⟩ := hR0 0 (by omega); obtain ⟨u1, z1⟩ := hR0 1 (by omega); obtain ⟨u2, z2⟩ := hR0 2 (by omega); have f0 := hout.frozen 0; have f1 := hout.frozen 1; have f2 := hout.frozen 2; have fx1 := hc.box.frozen 1; have fx2 := hc.box.frozen 2; have h69 : ∀ ww, Below w.heap.size w ww → Calls Tryz.prog 139 #[ov] ww _ := fun ww hb => clone69 (S.op.map PDesc.cells) ov ww (H0.out.1.below hb (Nat.le_refl _)) (pdesc_len _) (pdesc_one _) (by rw [lM]; exact H0.out.2.2.2.2.2.2.1)
    have h70 : ∀ ww, Below w.heap.size w ww → Calls Tryz.prog 140 #[mv] ww _ := fun ww hb => clone70 (S.made.map intCells) mv ww (H0.out.2.1.below hb (Nat.le_refl _)) (int_len _) (int_one _) (by rw [lM]; exact H0.out.2.2.2.2.2.2.2.1)
    clear hc hq hout hR0 hcs
    go_upto_region 7 with fail
    have x1b := x1'; go_cut [] (fun wx => ∃ ov' mv', Blk wx w.heap.size #[.slice ga S.ins.length gc, ov', mv'] 26 ∧ Keep (fun k => k = w.heap.size) wr wx ∧ OwnP wr.heap.size wx 95 3 ov' (S.op.map PDesc.cells) ∧ OwnP wr.heap.size wx 3 1 mv' (S.made.map intCells))
    case first =>
     refine wp_region_eff [1, 2, 5, 7, 9] true (fun w' => w'.cell? ⟨w.heap.size, 2, none⟩ = some mv) (by kernel_rfl) (by kernel_rfl) ?_ ?_
     · go_simp
     repeat
      refine wpL_look rfl rfl ?_; apply Exists.intro; refine ⟨?_, ?_⟩
      focus
       rintro w' s0; go_simp
       first | done | rfl
      simp only [Act.put, sA, sZ, sS]
     refine wpL_do rfl rfl ?_; refine ⟨ov, wr.drew, ?_, .inl (by go_simp), ?_⟩
     focus
      go_simp
      first | done | rfl
     simp only [Act.put, sA, sZ, sS]; refine wpL_act rfl rfl ?_; refine eff_call 139 #[ov] ?hr ?_
     case hr =>
      go_simp
      first | done | rfl
     refine (h69 wr.drew (bel w _)).mono ?_; rintro e w5 ⟨ov', rfl, hownO, hb5⟩; have hP5 := OwnP.of_own hownO (by decide) (pdesc_len _); have hone5 := own_one hownO; rw [lM] at hownO; obtain ⟨oa, oc, rfl⟩ := own_form hownO; have hB5 := (HC.out.box.drew).below hb5 iX'.lt; have iX5 := hB5.lt; have x51 := hB5.cell 1; have x52 := hB5.cell 2; simp only [List.getElem?_toArray, List.getElem?_cons_zero, List.getElem?_cons_succ] at x51 x52; have iB5 : Bel w w5 := ⟨(bel w wr.drew).trans (hb5.mono (bel w wr.drew).size)⟩
     have HO := Lib.hid (And.intro hP5 (And.intro hb5 hB5)); clear hownO hP5 hb5 hB5; refine ⟨_, rfl, .inl x52, ?_⟩; simp only [Act.put, sA, sZ, sS]
     repeat
      refine wpL_look rfl rfl ?_; apply Exists.intro; refine ⟨?_, ?_⟩
      focus
       rintro w' s0; go_simp
       first | done | rfl
      simp only [Act.put, sA, sZ, sS]
     refine wpL_act rfl rfl ?_; refine eff_call 140 #[mv] ?hr2 ?_
     case hr2 =>
      go_simp
      first | done | rfl
     refine (h70 w5 (bel w _)).mono ?_; rintro e w6 ⟨mv', rfl, hownM, hb6⟩; have hP6 := OwnP.of_own hownM (by decide) (int_len _); have hone6 := own_one hownM; rw [lM] at hownM; obtain ⟨ma, mc, rfl⟩ := own_form hownM; have hB6 := (HO.out.2.2).below hb6 iX5.lt; have iX6 := hB6.lt; have x61 := hB6.cell 1; have x62 := hB6.cell 2; have fx61 := hB6.frozen 1; have fx62 := hB6.frozen 2; simp only [List.getElem?_toArray, List.getElem?_cons_zero, List.getElem?_cons_succ] at x61 x62; have HM := Lib.hid (And.intro hP6 (And.intro hb6 hB6)); clear hownM hP6 hb6 hB6; refine ⟨_, rfl, .inl x62, ?_⟩; simp only [Act.put, sA, sZ, sS]
     repeat
      refine wpL_look rfl rfl ?_; apply Exists.intro; refine ⟨?_, ?_⟩
      focus
       rintro w' s0; go_simp
       first | done | rfl
      simp only [Act.put, sA, sZ, sS]
     refine wpL_skip rfl rfl ?_; refine ⟨w6.setCell ⟨w.heap.size, 1, none⟩ (.slice oa S.op.length oc), ?_, .inl (by go_simp), ?_⟩
     focus
      go_simp
      first | done | rfl
     simp only [Act.put, sA, sZ, sS]
     repeat
      refine wpL_look rfl rfl ?_; apply Exists.intro; refine ⟨?_, ?_⟩
      focus
       rintro w' s0; go_simp
       first | done | rfl
      simp only [Act.put, sA, sZ, sS]
     refine wpL_skip rfl rfl ?_; refine ⟨(w6.setCell ⟨w.heap.size, 1, none⟩ (.slice oa S.op.length oc)).setCell ⟨w.heap.size, 2, none⟩ (.slice ma S.made.length mc), ?_, .inr ⟨rfl, rfl⟩, ?_⟩
     focus
      go_simp
      first | done | rfl
     simp only [Act.put]; refine wpL_end ?_; go_wp2_with fail
     go_meet
     have hb05 : Below wr.heap.size wr w5 := (Below.refl wr.heap.size wr).drew.trans HO.out.2.1; have hb06 : Below wr.heap.size wr w6 := hb05.trans (HM.out.2.1.mono hb05.size); refine ⟨_, _, ((HM.out.2.2.set_ 1 _).set_ 2 _), Keep.setCell (S := fun k => k = w.heap.size) (p := ⟨w.heap.size, 2, none⟩) (Keep.setCell (S := fun k => k = w.heap.size) (p := ⟨w.heap.size, 1, none⟩) (Keep.of_below hb06 _) (.inl rfl) _) (.inl rfl) _, ?_, ?_⟩
     · exact HO.out.1.keep (Keep.setCell (S := fun k => k = w.heap.size) (p := ⟨w.heap.size, 2, none⟩) (Keep.setCell (S := fun k => k = w.heap.size) (p := ⟨w.heap.size, 1, none⟩) (Keep.of_below HM.out.2.1 _) (.inl rfl) _) (.inl rfl) _) (fun k hk => HO.out.1.ne_blk HO.out.2.2 (by decide) hk)
     · exact (HM.out.1.mono hb05.size).keep (Keep.setCell (S := fun k => k = w.heap.size) (p := ⟨w.heap.size, 2, none⟩) (Keep.setCell (S := fun k => k = w.heap.size) (p := ⟨w.heap.size, 1, none⟩) (Keep.refl _ _) (.inl rfl) _) (.inl rfl) _) (fun k hk => HM.out.1.ne_blk HM.out.2.2 (by decide) hk)
    case rest =>
     obtain ⟨ov', mv', hbx, hk, hO, hM⟩ := hcut
     rename World => wx
     obtain ⟨c, hout, hcs⟩ := HC.out.out; have hout2 := hk.blk hout (by omega); have iX3 := hbx.lt; have iR3 := hout2.lt; have b0 := hbx.cell 0; have b1 := hbx.cell 1; have b2 := hbx.cell 2; simp only [List.getElem?_toArray, List.getElem?_cons_zero, List.getElem?_cons_succ] at b0 b1 b2; have hR0 : ∀ i, i < 3 → ∃ u, wx.cell? ⟨w.heap.size + 1, i, none⟩ = some u := fun i hi => by rw [hout2.cell]; exact ⟨_, Array.getElem?_eq_getElem (by omega)⟩
     obtain ⟨v0, q0⟩ := hR0 0 (by omega); obtain ⟨v1, q1⟩ := hR0 1 (by omega); obtain ⟨v2, q2⟩ := hR0 2 (by omega); have g0 := hout2.frozen 0; have g1 := hout2.frozen 1; have g2 := hout2.frozen 2; have ho' := hO.one; have hm' := hM.one; obtain ⟨oa, oc, rfl, -⟩ := hO.row; obtain ⟨ma, mc, rfl, -⟩ := hM.row; have HE := Lib.hid (And.intro hk (And.intro hO (And.intro hM (And.intro hout2 hbx)))); clear hout hout2 hk hO hM hR0 hbx; go_wp2_with fail; refine bodyPost_ret (v := .agg #[.slice ga S.ins.length gc, .slice oa S.op.length oc, .slice ma S.made.length mc]) (by unfold results; simp only [Tryz.results106]; go_simp) rfl ?_; have hbx := HE.out.2.2.2.2; obtain ⟨is, hO, hil, hrec, hdis⟩ := HC.out.rows; have hsw := hcb.size; have hK1 : Keep (fun k => k = w.heap.size + 1) wx (((wx.setCell ⟨w.heap.size + 1, 0, none⟩ (.slice ga S.ins.length gc)).setCell ⟨w.heap.size + 1, 1, none⟩ (.slice oa (S.op.map PDesc.cells).length oc)).setCell ⟨w.heap.size + 1, 2, none⟩ (.slice ma (S.made.map intCells).length mc)) :=
      Keep.setCell (S := fun k => k = w.heap.size + 1) (p := ⟨w.heap.size + 1, 2, none⟩) (Keep.setCell (S := fun k => k = w.heap.size + 1) (p := ⟨w.heap.size + 1, 1, none⟩) (Keep.setCell (S := fun k => k = w.heap.size + 1) (p := ⟨w.heap.size + 1, 0, none⟩) (Keep.refl _ _) (.inl rfl) _) (.inl rfl) _) (.inl rfl) _
     have hK2 : Keep (fun k => k = w.heap.size ∨ k = w.heap.size + 1) wr (((wx.setCell ⟨w.heap.size + 1, 0, none⟩ (.slice ga S.ins.length gc)).setCell ⟨w.heap.size + 1, 1, none⟩ (.slice oa (S.op.map PDesc.cells).length oc)).setCell ⟨w.heap.size + 1, 2, none⟩ (.slice ma (S.made.map intCells).length mc)) :=
      (HE.out.1.mono (fun i _ h => .inl h)).trans (hK1.mono (fun i _ h => .inr h)) (fun i _ h => h)
     have hobl := HE.out.2.2.2.1; obtain ⟨c', hout', _⟩ := HC.out.out; simp only [lM] at hK1 hK2; refine ⟨_, _, _, rfl, hcb.trans (hK2.below hsw (fun i hi h => by omega)), ?_, ?_, is, ?_, hil, ?_, fun p j r r' hpj hp hj => hdis p j r r' hpj ?_ ?_ hp hj⟩
     · have := (HE.out.2.1.keep hK1 (fun k hk => HE.out.2.1.ne_blk hobl (by decide) hk)).mono hsw; rw [lM] at this; exact this
     · have := (HE.out.2.2.1.keep hK1 (fun k hk => HE.out.2.2.1.ne_blk hobl (by decide) hk)).mono hsw; rw [lM] at this; exact this
     · exact hO.keep hK2 (fun k hk h => by rcases h with h | h <;> first | exact hO.ne_blk HC.out.box (by decide) hk h | exact hO.ne_blk hout' (by decide) hk h)
     · intro j r x hr hx; obtain ⟨hjl, _⟩ := gI.1 hx; obtain ⟨a1, a2, a3, a4, _⟩ := hrec j r x hr hx; have a4 := a4 (by have := HQ.out; omega); exact ⟨a1, a2, a3, a4.keep hK2 (fun k hk h => by rcases h with h | h <;> first | exact a4.ne_blk HC.out.box (by decide) hk h | exact a4.ne_blk hout' (by decide) hk h)⟩
     · obtain ⟨h, _⟩ := gI.1 hp; have := HQ.out; omega
     · obtain ⟨h, _⟩ := gI.1 hj; have := HQ.out; omega
def chainOf (c : Int) : List PanicEntry := [{ v := .iface 132 (.agg #[.int .i64 c]), recovered := false }]
abbrev thrown (c : Int) : Ending := .panicked (chainOf c)
theorem throw_no (c : Int) (w : World) :
 Calls Tryz.prog 172 #[.bool false, .int .i64 c] w fun e w' => e = .returned (.tuple #[]) ∧ Below w.heap.size w w' := by
 go_enter Tryz.func172, Tryz.ntmps172
 go_wp2_with fail
 exact bodyPost_end (v := .tuple #[]) (by simp [results, go_sem]) rfl ⟨rfl, bel _ _⟩
theorem throw_yes (c : Int) (w : World) :
 Calls Tryz.prog 172 #[.bool true, .int .i64 c] w fun e w' => e = thrown c ∧ Below w.heap.size w w' := by
 go_enter Tryz.func172, Tryz.ntmps172
 go_wp2_with fail
 exact ⟨rfl, rfl, Below.refl _ _⟩
theorem own_one' {w : World} {B n k : Nat} {e : TypeId} {v : Value} {xs : List Value} (h : w.ownsRow B e k v n xs) : v.oneCell' = true := by
 obtain ⟨_, ⟨rfl, _⟩ | ⟨g, cap, cur, rfl, _⟩⟩ := h <;> rfl
def ParsedOr (w : World) (s : ByteArray) (e : Ending) (w' : World) : Prop :=
 ((parseM s).1 = 0 ∧ ∃ v, e = .returned v ∧ Below w.heap.size w w' ∧ RowAt w' 1 v ((parseM s).2.map fun n => [.string n])) ∨ ((parseM s).1 ≠ 0 ∧ e = thrown (codeM (parseM s).1) ∧ Below w.heap.size w w')
theorem flat_one {α β : Type} (f : α → β) : ∀ ns : List α, (ns.map fun n => [f n]).flatten = ns.map f
 | [] => rfl
 | n :: ns => by simp [flat_one f ns]
theorem parse150 (s : ByteArray) (w : World) : Calls Tryz.prog 198 #[.string s] w (ParsedOr w s) := by
 have hp := parse136 s w
 unfold ParsedOr
 generalize parseM s = F at hp ⊢
 obtain ⟨c, ns⟩ := F
 by_cases h : c = 0
 · subst h; have hc : ∀ ww, Calls Tryz.prog 190 #[.int .i64 0] ww _ := fun ww => code167 0 ww
   go_enter Tryz.func198, Tryz.ntmps198
   go_wp2_with (first | (go_at_call 153; refine hp.mono ?_; rintro e w1 ⟨v, rfl, hb, hown, hbl⟩; have hone := own_one' hown; have iB : Bel w w1 := ⟨hb⟩; have HO := Lib.hid (And.intro hown hb); clear hown hb hbl) | (go_at_call 190; refine aT (hc _) fun p => ?_) | (go_at_call 172; refine aT (throw_no _ _) fun p => ?_))
   go_ret; refine .inl ⟨by simp, _, rfl, bel _ _, ?_⟩; have := (OwnP.of_own (rows := ns.map fun n => [.string n]) (by rw [lM, flat_one]; exact HO.out.1) (by decide) (by intro cs h; obtain ⟨x, _, rfl⟩ := List.mem_map.1 h; rfl)).row; exact this.below (bel w1 _) (Nat.le_refl _)
 · have hc : ∀ ww, Calls Tryz.prog 190 #[.int .i64 c] ww _ := fun ww => code167 c ww
   have hcb : (c != 0) = true := by simpa using h
   generalize hcm : codeM c = cm at hc
   go_enter Tryz.func198, Tryz.ntmps198
   go_wp2_with (first | (go_at_call 153; refine hp.mono ?_; rintro e w1 ⟨v, rfl, hb, hown, hbl⟩; have hone := own_one' hown; have iB : Bel w w1 := ⟨hb⟩; clear hown hb hbl) | (go_at_call 190; refine aT (hc _) fun p => ?_) | (go_at_call 172; refine aE (throw_yes _ _) fun p => ?_))
   exact ⟨rfl, .inr ⟨h, rfl, bel _ _⟩⟩
def walkM (S : PSt) : Nat → List ByteArray → Nat × Int
 | k, [] => (k, 0)
 | k, n :: r => match S.ins[k]? with
   | some x => if x.dir = true then (if hitE x.ents n = true then (match x.ents[bsE x.ents n]? with | some e => walkM S (findN S.nums e.num).toNat r | none => (0, 1)) else (0, 1)) else (0, 7)
   | none => (0, 7)
theorem walk151 (b : Nat) (S : PSt) (ns : List ByteArray) (v : Value) (w : World) (h : SP w b S) (hwf : S.wf) (hpos : 0 < S.ins.length) (hfind : ∀ x ∈ S.ins, ∀ e ∈ x.ents, 0 ≤ findN S.nums e.num) (hv : RowAt w 1 v (ns.map fun n => [.string n])) (hlen : ns.length ≤ 1000000000) :
 Calls Tryz.prog 191 #[.pointer (some ⟨b, 0, none⟩), v] w fun e w' => e = .returned (.tuple #[.int .i64 (walkM S 0 ns).1, .int .i64 (walkM S 0 ns).2]) ∧ Below w.heap.size w w' := by
 have hf : ∀ ww, Below w.heap.size w ww → ∀ n, Calls Tryz.prog 102 #[.pointer (some ⟨b, 0, none⟩), .int .i64 n] ww fun e w' => e = .returned (.int .i64 (findN S.nums n)) ∧ Below ww.heap.size ww w' :=
  fun ww hb n => find_sp b S n ww (h.below hb (Nat.le_refl _)) hwf
 obtain ⟨hl, iv, ov, mv, c0, c1, c2, hr⟩ := h
 have ib : BlockLt b w := ⟨hl⟩
 have hlin := hwf.1
 have HWF := Lib.hid hwf.2.2.2.1
 obtain ⟨ai, capi, rfl, hati⟩ := hr.ins_at2
 obtain ⟨an, capn, rfl, hatn⟩ := hv.at_
 rw [lM]
 have HI := Lib.hid hati
 have HN := Lib.hid hatn
 have HF := Lib.hid hfind
 clear hr hwf hati hatn hv c1 c2 hfind
 obtain ⟨RK, RC, hR⟩ : ∃ RK RC, walkM S 0 ns = (RK, RC) := ⟨_, _, rfl⟩
 rw [hR]
 have HR := Lib.hid hR
 clear hR
 go_enter Tryz.func191, Tryz.ntmps191
 go_wp2_with fail
 go_loopw [6, 13] (fun at_ i wr => ∃ (q k : Nat), at_ = .int .i64 k ∧ i = .int .i64 q ∧ q ≤ ns.length ∧ k < S.ins.length ∧ walkM S k (ns.drop q) = (RK, RC) ∧ Below w.heap.size w wr) (fun _ i _ => (ns.length - intOf i).toNat)
 case atStart => exact ⟨0, 0, rfl, rfl, by omega, hpos, HR.out, bel _ _⟩
 case round =>
  obtain ⟨q, k, rfl, rfl, hq, hk, hre, hb⟩ := hrel; have iB : Bel w wr := ⟨hb⟩
  have iL : BlockLt b wr := ⟨by have := hb.size; have := ib.lt; omega⟩
  have c0r : wr.cell? ⟨b, 0, none⟩ = some (.slice ai S.ins.length capi) := (hb.cell (p := ⟨b, 0, none⟩) ib.lt).trans c0; by_cases hlt : q < ns.length
  · obtain ⟨n, hn⟩ : ∃ n, ns[q]? = some n := ⟨_, gE hlt⟩
    obtain ⟨x, hx⟩ : ∃ x, S.ins[k]? = some x := ⟨_, gE hk⟩
    rw [drop_at hn] at hre; unfold walkM at hre; rw [hx] at hre; simp only at hre; obtain ⟨bn, offn, rfl, iN0, iN, hcn⟩ := HN.out wr hb q [.string n] (by rw [gM, hn]; rfl); have n0 := hcn 0 _ rfl; rw [Nat.mul_one, Nat.add_zero] at n0; obtain ⟨bi, offi, ev, rfl, iG0, ho1, hev, hcl⟩ := HI.out k x hx; obtain ⟨iG, y0, y1, y2, y3⟩ := hcl wr hb; have hez := (HWF.out x (mG hx)).2.1; have hfx := HF.out x (mG hx); have hent : ∀ ww, Below w.heap.size w ww → Calls Tryz.prog 171 #[ev, .string n] ww _ := fun ww hww => entry114 x.ents ev n ww (hev.below hww (Nat.le_refl _)) hez
    obtain ⟨ae, ce, rfl, hat⟩ := hev.at_; rw [lM] at y2 hent; have hqI : (q : Int) < ns.length := by omega
    have hkI : (k : Int) < S.ins.length := by omega
    have HX := Lib.hid (And.intro hx (And.intro hfx hat)); clear hn hx hcn hcl hev hfx hat; generalize hdir : x.dir = d at y1 hre; rcases d with _ | _
    · simp only [Bool.false_eq_true, if_false, Prod.mk.injEq] at hre; obtain ⟨rfl, rfl⟩ := hre; go_wp2_with fail; exact bodyPost_ret (v := .tuple #[.int .i64 0, .int .i64 7]) (by simp [results, Tryz.results191, go_sem]) rfl ⟨rfl, bel _ _⟩
    · simp only [if_true] at hre; generalize hhit : hitE x.ents n = hi at hre hent; have hbs : hi = true → bsE x.ents n < x.ents.length := by
       intro h; rw [h] at hhit; unfold hitE at hhit; simp only [Bool.and_eq_true, decide_eq_true_eq] at hhit; exact hhit.1
      generalize bsE x.ents n = j at hre hent hbs; clear hhit hdir; rcases hi with _ | _
      · simp only [Bool.false_eq_true, if_false, Prod.mk.injEq] at hre; obtain ⟨rfl, rfl⟩ := hre; go_wp2_with ((go_at_call 171; refine aT (hent _ (bel _ _)) fun p => ?_))
        exact bodyPost_ret (v := .tuple #[.int .i64 0, .int .i64 1]) (by simp [results, Tryz.results191, go_sem]) rfl ⟨rfl, bel _ _⟩
      · simp only [if_true] at hre; have hjl := hbs rfl; obtain ⟨e, he⟩ : ∃ e, x.ents[j]? = some e := ⟨_, gE hjl⟩
        rw [he] at hre; simp only at hre; obtain ⟨be, offe, rfl, iE0, iE, hce⟩ := HX.out.2.2 wr hb j e.cells (by rw [gM, he]; rfl); have e1 := hce 1 _ rfl; have hfe : ∀ ww, Below w.heap.size w ww → Calls Tryz.prog 102 #[.pointer (some ⟨b, 0, none⟩), .int .i64 e.num] ww _ := fun ww hww => hf ww hww e.num
        have hf0 := HX.out.2.1 e (mG he); have hfb := findN_bounds S.nums e.num; have hnl : S.nums.length = S.ins.length := by unfold PSt.nums; rw [lM]
        generalize findN S.nums e.num = fv at hfe hf0 hfb hre; obtain ⟨f, rfl⟩ : ∃ f : Nat, fv = f := ⟨fv.toNat, by omega⟩
        rw [Int.toNat_natCast] at hre; have hfl : f < S.ins.length := by omega
        have hjI : (j : Int) < x.ents.length := by omega
        have HRE := Lib.hid hre; clear hre hce he hbs hf0 hfb hnl; go_wp2_with (first | (go_at_call 171; refine aT (hent _ (bel _ _)) fun p => ?_) | (go_at_call 102; refine aT (hfe _ (bel _ _)) fun p => ?_))
        go_roundw
        case rel => exact ⟨q + 1, f, rfl, by go_num, by omega, hfl, HRE.out, bel _ _⟩
        case measure => simp [intOf]; omega
  · rw [List.drop_of_length_le (by omega)] at hre; have hre : (k, (0 : Int)) = (RK, RC) := hre; simp only [Prod.mk.injEq] at hre; obtain ⟨rfl, rfl⟩ := hre; go_wp2_with fail; exact bodyPost_ret (v := .tuple #[.int .i64 k, .int .i64 0]) (by simp [results, Tryz.results191, go_sem]) rfl ⟨rfl, bel _ _⟩
def cmpD (x n : Int) : Int := wrap64 (x - n)
theorem cmp120 (x n : Int) (d : Bool) (ev : Value) (s : ByteArray) (hev : ev.oneCell' = true) (w : World) :
 Calls Tryz.prog 176 #[.agg #[.int .i64 x, .bool d, ev, .string s], .int .i64 n] w fun e w' => e = .returned (.int .i64 (cmpD x n)) ∧ Below w.heap.size w w' := by
 unfold cmpD
 go_enter Tryz.func176, Tryz.ntmps176
 go_wp2_with fail
 go_ret
 exact ⟨by first | rfl | simp, bel _ _⟩
def cmpAtD (is : List IRec) (n : Int) (q : Nat) : Int := match is[q]? with | some x => cmpD x.num n | none => 0
def bsD (is : List IRec) (n : Int) : Nat := bsFrom (cmpAtD is n) is.length 0 is.length
def bsHitD (is : List IRec) (n : Int) : Bool := decide (bsD is n < is.length) && (cmpAtD is n (bsD is n) == 0)
def cmpND (ns : List Int) (n : Int) (q : Nat) : Int := match ns[q]? with | some x => cmpD x n | none => 0
def bsND (ns : List Int) (n : Int) : Nat := bsFrom (cmpND ns n) ns.length 0 ns.length
theorem bsD_num (is : List IRec) (n : Int) : bsD is n = bsND (is.map IRec.num) n := by
 have hc : cmpAtD is n = cmpND (is.map IRec.num) n := by
  funext q
  unfold cmpAtD cmpND; rw [gM]; cases is[q]? <;> rfl
 unfold bsD bsND
 rw [hc, lM]
theorem bs119d (is : List IRec) (v : Value) (n : Int) (w : World) (h : RowAt w 4 v (is.map IRec.cells)) (hlen : is.length ≤ 1000000000) :
 Calls Tryz.prog 134 #[v, .int .i64 n, .func (.func 176) #[] #[]] w fun e w' => e = .returned (.tuple #[.int .i64 (bsD is n), .bool (bsHitD is n)]) ∧ Below w.heap.size w w' := by
 obtain ⟨a, cap, rfl, _, hrow⟩ := h
 rw [lM] at hrow ⊢
 have cell : ∀ (wr : World), Below w.heap.size w wr → ∀ (q : Nat), q < is.length → ∃ (b off : Nat) (x : IRec), a = some ⟨b, off, none⟩ ∧ BlockLt b wr ∧ is[q]? = some x ∧ cmpAtD is n q = cmpD x.num n ∧ wr.cell? ⟨b, off + q * 4, none⟩ = some (.int .i64 x.num) ∧ wr.cell? ⟨b, off + q * 4 + 1, none⟩ = some (.bool x.dir) ∧ wr.cell? ⟨b, off + q * 4 + 2, none⟩ = some x.ev ∧ wr.cell? ⟨b, off + q * 4 + 3, none⟩ = some (.string x.data) := by
  intro wr hb q hq; obtain ⟨b, off, rfl, hlt, hc⟩ := hrow (by omega); obtain ⟨x, hx⟩ : ∃ x, is[q]? = some x := ⟨_, gE hq⟩
  have hm : (is.map IRec.cells)[q]? = some x.cells := by rw [gM, hx]; rfl
  have hs := hb.size; have key : ∀ (t : Nat) (u : Value), x.cells[t]? = some u → wr.cell? ⟨b, off + q * 4 + t, none⟩ = some u := fun t u hu => (hb.cell (p := ⟨b, _, none⟩) hlt).trans (hc q _ hm t u hu)
  exact ⟨b, off, x, rfl, ⟨by omega⟩, hx, by unfold cmpAtD; rw [hx], key 0 _ rfl, key 1 _ rfl, key 2 _ rfl, key 3 _ rfl⟩
 have HC := Lib.hid cell
 clear cell hrow
 obtain ⟨P, hP⟩ : ∃ P, bsD is n = P := ⟨_, rfl⟩
 obtain ⟨T, hT⟩ : ∃ T, bsHitD is n = T := ⟨_, rfl⟩
 rw [hP, hT]
 have HP := Lib.hid (And.intro hP hT)
 clear hP hT
 go_enter Tryz.func134, Tryz.ntmps134
 go_wp2_with fail
 go_loopw [9, 10] (fun i j wr => ∃ (lo hi b : Nat), i = .int .i64 lo ∧ j = .int .i64 hi ∧ lo ≤ hi ∧ hi ≤ is.length ∧ hi ≤ lo + b ∧ bsFrom (cmpAtD is n) b lo hi = P ∧ Below w.heap.size w wr) (fun i j _ => (intOf j - intOf i).toNat)
 case atStart => exact ⟨0, is.length, is.length, rfl, rfl, by omega, by omega, by omega, HP.out.1, bel _ _⟩
 case round =>
  obtain ⟨lo, hi, b, rfl, rfl, hlh, hhn, hfu, hbs, hb⟩ := hrel; have iB : Bel w wr := ⟨hb⟩
  by_cases hlt : lo < hi
  · obtain ⟨b', rfl⟩ : ∃ b', b = b' + 1 := ⟨b - 1, by omega⟩
    obtain ⟨m, hm⟩ : ∃ m, (lo + hi) / 2 = m := ⟨_, rfl⟩
    obtain ⟨b0, off, x, rfl, iG, hx, hcm, c0, c1, c2, c3⟩ := HC.out wr hb m (by omega); have hone := x.one; rw [bsFrom, if_pos hlt, hm, hcm] at hbs; have HS := Lib.hid hbs; clear hbs hcm; have hmI : ((lo : Int) + hi) / 2 = m := by omega
    have hmn : m < is.length := by omega
    have hmnI : (m : Int) < is.length := by omega
    have hcall : ∀ ww, Calls Tryz.prog 176 #[.agg #[.int .i64 x.num, .bool x.dir, x.ev, .string x.data], .int .i64 n] ww fun e w' => e = .returned (.int .i64 (cmpD x.num n)) ∧ Below ww.heap.size ww w' := fun ww => cmp120 x.num n x.dir x.ev x.data hone ww
    have HM := Lib.hid hm; clear hm; by_cases hneg : cmpD x.num n < 0
    · generalize hcv : cmpD x.num n = cv at hcall hneg; go_wp2_with (go_at_call 176; refine aT (hcall _) fun p => ?_)
      go_roundw
      case rel => exact ⟨m + 1, hi, b', by go_num, rfl, by have := HM.out; omega, by omega, by have := HM.out; omega, by have := HS.out; rw [hcv, if_pos hneg] at this; exact this, bel _ _⟩
      case measure => have := HM.out; simp [intOf]; omega
    · generalize hcv : cmpD x.num n = cv at hcall hneg; go_wp2_with (go_at_call 176; refine aT (hcall _) fun p => ?_)
      go_roundw
      case rel => exact ⟨lo, m, b', rfl, rfl, by have := HM.out; omega, by omega, by have := HM.out; omega, by have := HS.out; rw [hcv, if_neg (by omega)] at this; exact this, bel _ _⟩
      case measure => have := HM.out; simp [intOf]; omega
  · obtain rfl : lo = hi := by omega
    rw [bsFrom_end _ _ _ _ hlt] at hbs; have hPl : P = lo := hbs.symm; subst hPl; by_cases hln : P < is.length
    · obtain ⟨b0, off, x, rfl, iG, hx, hcm, c0, c1, c2, c3⟩ := HC.out wr hb P hln; have hone := x.one; have hlnI : (P : Int) < is.length := by omega
      have hcall : ∀ ww, Calls Tryz.prog 176 #[.agg #[.int .i64 x.num, .bool x.dir, x.ev, .string x.data], .int .i64 n] ww fun e w' => e = .returned (.int .i64 (cmpD x.num n)) ∧ Below ww.heap.size ww w' := fun ww => cmp120 x.num n x.dir x.ev x.data hone ww
      have hTv : T = (cmpD x.num n == 0) := by
       have h1 := HP.out.2; have h2 := HP.out.1; rw [← h1]; unfold bsHitD; rw [h2, hcm]; simp [hln]
      clear hcm; generalize cmpD x.num n = cv at hcall hTv; subst hTv; go_wp2_with (go_at_call 176; refine aT (hcall _) fun p => ?_)
      refine bodyPost_ret (v := .tuple #[.int .i64 P, .bool (cv == 0)]) (by simp [results, Tryz.results134, go_sem]) rfl ⟨rfl, bel _ _⟩
    · have hlnI : ¬ (P : Int) < is.length := by omega
      have hTv : T = false := by
       have h1 := HP.out.2; have h2 := HP.out.1; rw [← h1]; unfold bsHitD; rw [h2]; simp [hln]
      subst hTv; go_wp2_with fail; refine bodyPost_ret (v := .tuple #[.int .i64 P, .bool false]) (by simp [results, Tryz.results134, go_sem]) rfl ⟨rfl, bel _ _⟩
def isNum (n : Int) (x : PIn) : Bool := x.num == n
end Go.Proofs.YtmkapobnfigedaaGreatDoor
