/- Lines, numbers and hex digits, as package shape writes them. Conditions: none. The text of what is below an inode, as package shape walks it. Conditions: none. The text of a state, as package shape writes it. Conditions: none. -/
import Derived.Test.YtjkenolgkkknaaaGreatDoorTw11
import Derived.Test.YtjkenolgkkknaaaGreatDoorTw02
import Derived.Lib.AppendIntMem
import Derived.Test.YtjkenolgkkknaaaGreatDoorTw05
import Derived.Test.YtjkenolgkkknaaaGreatDoorTw07
set_option linter.unusedVariables false
set_option linter.unusedSimpArgs false
namespace Go.Proofs.YtjkenolgkkknaaaGreatDoor
open Go.RowKit
theorem byteCells_app (t : List UInt8) (s : ByteArray) : Lib.byteCells t ++ Lib.strCells s = Lib.byteCells (t ++ s.data.toList) := by rw [Lib.strCells_eq, Lib.byteCells_append]
/-- What holds at a world whose blocks lie all below B, and since then none of these was touched. -/
def Laid (B : Nat) (P : World → Prop) (w : World) : Prop := ∃ w0, P w0 ∧ w0.heap.size ≤ B ∧ Below w0.heap.size w0 w
theorem Laid.below {B : Nat} {P : World → Prop} {w w' : World} (h : Laid B P w) (hb : Below B w w') : Laid B P w' := by
  obtain ⟨w0, h0, h1, h2⟩ := h
  exact ⟨w0, h0, h1, h2.trans (hb.mono h1)⟩
theorem Laid.at_ {P : World → Prop} {w : World} (h : P w) : Laid w.heap.size P w := ⟨w, h, Nat.le_refl _, Below.refl _ _⟩
theorem Laid.imp {B : Nat} {P Q : World → Prop} {w : World} (h : Laid B P w) (hpq : ∀ w, P w → Q w) : Laid B Q w := by
  obtain ⟨w0, h0, h1, h2⟩ := h
  exact ⟨w0, hpq _ h0, h1, h2⟩
theorem Laid.up {B B' : Nat} {P : World → Prop} {w : World} (h : Laid B P w) (hB : B ≤ B') : Laid B' P w := by
  obtain ⟨w0, h0, h1, h2⟩ := h
  exact ⟨w0, h0, Nat.le_trans h1 hB, h2⟩
/-- The table of powers of ten. -/
def Pow10 (w : World) : Prop := Lib.TabIs Tryz.prog w "internal/strconv.uint64pow10" .u64 Lib.pow10Tab
theorem itoa84 (B : Nat) (n : Int) (hn : I64 n) (w : World) (h : Laid B Pow10 w) :
    Calls Tryz.prog 84 #[.int .i64 n] w fun e w' => e = .returned (.string ⟨(Lib.itoa n).toArray⟩) ∧ Below w.heap.size w w' := by
  obtain ⟨w0, h0, h1, h2⟩ := h
  have ht : Lib.TabIs Tryz.prog w "internal/strconv.uint64pow10" .u64 Lib.pow10Tab := Lib.tabBelow_of_tabIs h0 w h2
  refine (Tryz.strconv_Itoa n hn.1 hn.2 w ht).mono ?_
  rintro e w' ⟨rfl, k, os, rfl⟩
  exact ⟨rfl, Lib.below_grow _ _ (Nat.le_refl _) k os⟩
def lineM (ws : List ByteArray) : List UInt8 := Lib.join (ws.map (·.data.toList)) [32] ++ [10]
theorem IsWr.below {B b : Nat} {sv : Value} {bs : List Value} {w w' : World} (h : IsWr B b sv bs w) (hb : Below w.heap.size w w') : IsWr B b sv bs w' := by
  have key : ∀ p, WrAt B b sv p bs w → WrAt B b sv p bs w' := by
    intro p h
    have hl := h.lt
    obtain ⟨hB, v, hbk, hown⟩ := h
    exact ⟨hB, v, (hb.block b hl).trans hbk, hown.kept (row := none) ⟨hb.os, hb.tape, hb.output, hb.size, fun k hk _ => hb.block k hk⟩ (by cases v.ownBlock <;> simp)⟩
  rcases h with h | h
  · exact .inl (key _ h)
  · exact .inr (key _ h)
theorem IsWr.lt {B b : Nat} {sv : Value} {bs : List Value} {w : World} (h : IsWr B b sv bs w) : b < w.heap.size := by
  rcases h with h | h <;> exact h.lt
set_option maxRecDepth 100000 in
set_option maxHeartbeats 2000000 in
theorem line83 (B b : Nat) (sv : Value) (t : List UInt8) (ws : List ByteArray) (bk c : Nat) (w : World) (h : IsWr B b sv (Lib.byteCells t) w)
    (hcells : ∀ (j : Nat) (x : ByteArray), ws[j]? = some x → w.cell? ⟨bk, 0 + j, none⟩ = some (.string x)) (hbk : bk < w.heap.size) (hcap : ws.length ≤ c) (hN : ws.length ≤ 1000) (hlen : (t ++ lineM ws).length ≤ 140737488355328) (hB : B ≤ w.heap.size) :
    Calls Tryz.prog 83 #[.pointer (some ⟨b, 0, none⟩), .slice (some ⟨bk, 0, none⟩) ws.length c] w fun e w' => e = .returned (.tuple #[]) ∧ IsWr B b sv (Lib.byteCells (t ++ lineM ws)) w' ∧ Below B w w' := by
  have hj := Tryz.strings_Join bk 0 c ws ⟨#[32]⟩ w.drew hcells hbk (by omega) hcap (by simp only [lineM, List.length_append] at hlen; show (Lib.join _ [32]).length ≤ _; omega)
  generalize hJ : Lib.join (ws.map (·.data.toList)) (⟨#[32]⟩ : ByteArray).data.toList = J at hj
  have hL : lineM ws = J ++ [10] := by rw [← hJ]; rfl
  rw [hL] at hlen ⊢
  have hS : ∀ ww (s : ByteArray), s.data.toList = J ++ [10] → Below w.heap.size w ww → Calls Tryz.prog 87 #[.pointer (some ⟨b, 1, none⟩), .string s] ww fun e w' => ∃ n : Int, e = .returned (.tuple #[.int .i64 n, .nilIface]) ∧ IsWr B b sv (Lib.byteCells (t ++ (J ++ [10]))) w' ∧ Below B ww w' := fun ww s hs hb => by
    refine (wr_str B b sv (Lib.byteCells t) s ww (h.below hb) ?_ (Nat.le_trans hB hb.size)).mono ?_
    · rw [Lib.byteCells_length]
      have hsz : s.size = (J ++ [10]).length := by rw [← hs, Array.length_toList]; rfl
      rw [hsz]
      rw [List.length_append] at hlen
      exact hlen
    · rintro e w' ⟨rfl, h1, h2⟩
      rw [byteCells_app, hs] at h1
      exact ⟨_, rfl, .inr h1, h2⟩
  have hJl : ¬ 9223372036854775807 < J.length + 1 := by simp only [List.length_append, List.length_cons, List.length_nil] at hlen; omega
  have iL : BlockLt b w := ⟨h.lt⟩
  have hb0 : Below w.heap.size w w.drew := (Below.refl _ _).drew
  clear hcells hJ hL h
  go_enter Tryz.func83, Tryz.ntmps83
  refine wp_region_eff [4, 6] true (fun w' => True) (by kernel_rfl) (by kernel_rfl) trivial ?_
  repeat
    refine wpL_look rfl rfl ?_
    apply Exists.intro
    refine ⟨?_, ?_⟩
    focus
      rintro w' _
      go_simp
      first | done | rfl
    simp only [Act.put, List.setIfInBounds_toArray, List.set_cons_zero, List.set_cons_succ]
  refine wpL_act rfl rfl ?_
  refine eff_call 133 #[.slice (some ⟨bk, 0, none⟩) ws.length c, .string ⟨#[32]⟩] ?hr ?_
  case hr =>
    go_simp
    first | done | rfl
  refine hj.mono ?_
  rintro e w1 ⟨rfl, hb1⟩
  refine ⟨_, rfl, .inl trivial, ?_⟩
  simp only [Act.put, List.setIfInBounds_toArray, List.set_cons_zero, List.set_cons_succ]
  refine wpL_look rfl rfl ?_
  apply Exists.intro
  refine ⟨?_, ?_⟩
  focus
    rintro w' _
    go_simp
    first | done | rfl
  simp only [Act.put, List.setIfInBounds_toArray, List.set_cons_zero, List.set_cons_succ]
  refine wpL_act rfl rfl ?_
  refine eff_call 87 #[.pointer (some ⟨b, 1, none⟩), .string (({ data := J.toArray } : ByteArray) ++ { data := #[10] })] ?hr2 ?_
  case hr2 =>
    go_simp
    first | done | rfl
  refine (hS w1 _ (by simp) (hb0.trans hb1)).mono ?_
  rintro e w2 ⟨n, rfl, h2, hb2⟩
  refine ⟨_, rfl, .inl trivial, ?_⟩
  simp only [Act.put, List.setIfInBounds_toArray, List.set_cons_zero, List.set_cons_succ]
  refine wpL_end ?_
  refine bodyPost_end (v := .tuple #[]) (by simp [results, go_sem]) rfl ⟨rfl, h2, ((hb0.trans hb1).mono hB).trans hb2⟩
def hexTab : Array UInt8 := #[48, 49, 50, 51, 52, 53, 54, 55, 56, 57, 97, 98, 99, 100, 101, 102]
def hexD (n : Nat) : UInt8 := hexTab[n]?.getD 0
def hexL : List UInt8 → List UInt8
  | [] => []
  | b :: r => hexD (b.toNat / 16) :: hexD (b.toNat % 16) :: hexL r
def hexM (s : ByteArray) : ByteArray := if s.data.toList = [] then ⟨#[45]⟩ else ⟨(hexL s.data.toList).toArray⟩
theorem hexL_snoc (l : List UInt8) (b : UInt8) : hexL (l ++ [b]) = hexL l ++ [hexD (b.toNat / 16), hexD (b.toNat % 16)] := by
  induction l with
  | nil => rfl
  | cons a l ih => simp [hexL, ih]
theorem hexL_len (l : List UInt8) : (hexL l).length = 2 * l.length := by
  induction l with
  | nil => rfl
  | cons a l ih => simp [hexL, ih]; omega
theorem hex_at (n : Nat) (h : n < 16) : (({ data := #[48, 49, 50, 51, 52, 53, 54, 55, 56, 57, 97, 98, 99, 100, 101, 102] } : ByteArray)[n]'h) = hexD n := by
  have e : hexTab[n]? = some (hexTab[n]'h) := Array.getElem?_eq_getElem h
  unfold hexD
  rw [e]
  rfl
theorem hexL_take (l : List UInt8) (q : Nat) (h : q < l.length) : hexL (l.take (q + 1)) = hexL (l.take q) ++ [hexD (l[q].toNat / 16)] ++ [hexD (l[q].toNat % 16)] := by
  rw [List.take_succ_eq_append_getElem h, hexL_snoc]
  simp
theorem hexW (B : Nat) (l : List UInt8) (c : UInt8) (w : World) (h : Lib.IsBuilder 122 5 B B (Lib.byteCells l) w) (hl : l.length + 1 ≤ 140737488355328) (hBw : B ≤ w.heap.size) :
    Calls Tryz.prog 86 #[.pointer (some ⟨B, 0, none⟩), .int .u8 c.toNat] w fun e w' => e = .returned .nilIface ∧ Lib.IsBuilder 122 5 B B (Lib.byteCells (l ++ [c])) w' ∧ Below B w w' := by
  refine (Tryz.Builder_WriteByte B B (Lib.byteCells l) c.toNat w h (by rw [Lib.byteCells_length]; exact hl) hBw).mono ?_
  rintro e w' ⟨rfl, h1, h2⟩
  refine ⟨rfl, .inr ?_, h2⟩
  rw [Lib.byteCells_append]
  exact h1
set_option maxRecDepth 100000 in
set_option maxHeartbeats 2000000 in
theorem hex85 (s : ByteArray) (hs : s.size ≤ 1000000000000) (w : World) :
    Calls Tryz.prog 85 #[.string s] w fun e w' => e = .returned (.string (hexM s)) ∧ Below w.heap.size w w' := by
  generalize hR : hexM s = R
  have HR := Lib.hid hR
  clear hR
  by_cases h0 : s.data.toList = []
  · obtain rfl : s = ⟨#[]⟩ := by
      rcases s with ⟨⟨l⟩⟩
      simp at h0
      rw [h0]
    clear h0
    go_enter Tryz.func85, Tryz.ntmps85
    go_wp2_with fail
    go_ret
    exact ⟨by rw [← HR.out]; rfl, bel _ _⟩
  · have hne : s.toList.isEmpty = false := by
      rw [ByteArray.toList_eq]
      rcases h : s.data.toList with _ | ⟨a, r⟩
      · exact absurd h h0
      · rfl
    go_enter Tryz.func85, Tryz.ntmps85
    go_wp2_with fail
    go_loopw [9] (fun i wr => ∃ (q : Nat), i = .int .i64 q ∧ q ≤ s.size ∧ Lib.IsBuilder 122 5 w.heap.size w.heap.size (Lib.byteCells (hexL (s.data.toList.take q))) wr ∧ Below w.heap.size w wr) (fun i _ => (s.size - intOf i).toNat)
    case atStart => exact ⟨0, rfl, by omega, .inl ⟨Nat.le_refl _, _, heap_alloc_new w _, ⟨by simp [hexL, Lib.byteCells], .inl ⟨rfl, rfl⟩⟩, by simp [Value.ownBlock]⟩, bel _ _⟩
    case round =>
      obtain ⟨q, rfl, hq, hbu, hb⟩ := hrel
      have iB : Bel w wr := ⟨hb⟩
      by_cases hlt : q < s.size
      · have hb8 : s[q].toNat < 256 := s[q].toNat_lt
        have hc1 : (0 : Int) ≤ (s[q].toNat : Int) / 16 ∧ (s[q].toNat : Int) / 16 < 16 := by omega
        have hc2 : (0 : Int) ≤ (s[q].toNat : Int) % 16 ∧ (s[q].toNat : Int) % 16 < 16 := by omega
        have hsl : s.data.toList.length = s.size := by rw [Array.length_toList]; rfl
        have hll := hexL_len (s.data.toList.take q)
        have htl : (s.data.toList.take q).length ≤ q := by rw [List.length_take]; omega
        have htk := hexL_take s.data.toList q (by omega)
        have hg : (s.data.toList)[q]'(by omega) = s[q] := by simp [ByteArray.getElem_eq_getElem_data]
        rw [hg] at htk
        generalize hexL (s.data.toList.take q) = L at hbu htk hll
        go_wp2_with (go_at_call 86; refine (hexW w.heap.size L _ wr hbu (by omega) hb.size).mono ?_; rintro e w1 ⟨rfl, hbu1, hb1⟩)
        go_wp2_with (go_at_call 86; refine (hexW w.heap.size _ _ w1 hbu1 (by rw [List.length_append]; simp; omega) (by have := hb.size; have := hb1.size; omega)).mono ?_; rintro e w2 ⟨rfl, hbu2, hb2⟩)
        rw [hex_at _ (by omega), hex_at _ (by omega), ← htk] at hbu2
        go_roundw
        case rel => exact ⟨q + 1, by go_num, by omega, hbu2, (hb.trans hb1).trans hb2⟩
        case measure => simp [intOf]; omega
      · have hsl : s.data.toList.length = s.size := by rw [Array.length_toList]; rfl
        rw [List.take_of_length_le (by omega)] at hbu
        have hm : hexM s = ⟨(hexL s.data.toList).toArray⟩ := by unfold hexM; rw [if_neg h0]
        rw [HR.out] at hm
        subst hm
        go_wp2_with (go_at_call 88; refine (Tryz.Builder_String_any w.heap.size w.heap.size _ wr hbu hb.size).mono ?_; rintro e w1 ⟨rfl, hb1⟩)
        go_ret
        exact ⟨rfl, hb.trans hb1⟩
end Go.Proofs.YtjkenolgkkknaaaGreatDoor
namespace Go.Proofs.YtjkenolgkkknaaaGreatDoor
open Go.RowKit
def itoaB (n : Int) : ByteArray := ⟨(Lib.itoa n).toArray⟩
def shownM (p : ByteArray) : ByteArray := if p.toList.isEmpty = true then ⟨#[47]⟩ else p
def wlkT (S : PSt) : Nat → Int → ByteArray → List UInt8
  | 0, _, _ => []
  | f + 1, n, p => match S.ins[(idxM (isNum n) S.ins).toNat]? with
    | none => []
    | some x => if x.dir = true then lineM [⟨#[100]⟩, shownM p, itoaB n] ++ x.ents.flatMap (fun e => wlkT S f e.num (p ++ ⟨#[47]⟩ ++ e.name)) else lineM [⟨#[102]⟩, shownM p, itoaB n, hexM x.data]
def wlkOk (S : PSt) : Nat → Int → Bool
  | 0, _ => false
  | f + 1, n => decide (0 ≤ idxM (isNum n) S.ins) && match S.ins[(idxM (isNum n) S.ins).toNat]? with
    | none => false
    | some x => !x.dir || x.ents.all (fun e => wlkOk S f e.num)
theorem lineM_mem (ws : List ByteArray) (s : ByteArray) (h : s ∈ ws) : s.size ≤ (lineM ws).length := by
  have key : ∀ (ls : List (List UInt8)) (l : List UInt8), l ∈ ls → l.length ≤ (Lib.join ls [32]).length := by
    intro ls
    unfold Lib.join
    induction ls with
    | nil => intro l hl; cases hl
    | cons a r ih =>
      intro l hl
      rcases r with _ | ⟨b, r⟩
      · simp only [List.mem_singleton] at hl
        subst hl
        simp [List.intercalate]
      · rcases List.mem_cons.1 hl with rfl | hl
        · simp [List.intercalate, List.intersperse]
        · have := ih l hl
          simp only [List.intercalate, List.intersperse, List.flatten_cons, List.length_append] at this ⊢
          omega
  have := key (ws.map (·.data.toList)) s.data.toList (List.mem_map.2 ⟨s, h, rfl⟩)
  unfold lineM
  rw [List.length_append]
  have e : s.size = s.data.toList.length := by rw [Array.length_toList]; rfl
  omega
theorem shownM_le (p : ByteArray) : p.size ≤ (shownM p).size := by
  unfold shownM
  by_cases h : p.toList.isEmpty = true
  · rw [ByteArray.toList_eq] at h
    have h2 : p.data.toList = [] := by simpa using h
    have e : p.size = p.data.toList.length := by rw [Array.length_toList]; rfl
    rw [e, h2]
    simp
  · rw [if_neg h]
    exact Nat.le_refl _
theorem wlkT_path {S : PSt} {f : Nat} {n : Int} (p : ByteArray) (h : wlkOk S f n = true) : p.size ≤ (wlkT S f n p).length := by
  rcases f with _ | f
  · cases h
  unfold wlkOk at h
  simp only [Bool.and_eq_true] at h
  unfold wlkT
  rcases hx : S.ins[(idxM (isNum n) S.ins).toNat]? with _ | x
  · rw [hx] at h; simp at h
  · simp only
    have h1 := shownM_le p
    by_cases hd : x.dir = true
    · rw [if_pos hd, List.length_append]
      have := lineM_mem [⟨#[100]⟩, shownM p, itoaB n] (shownM p) (by simp)
      omega
    · rw [if_neg hd]
      have := lineM_mem [⟨#[102]⟩, shownM p, itoaB n, hexM x.data] (shownM p) (by simp)
      omega
theorem strs_at {w : World} {bk : Nat} {t : TypeId} (ws : List ByteArray) (h : Blk w bk (ws.map Value.string).toArray t) : ∀ (j : Nat) (x : ByteArray), ws[j]? = some x → w.cell? ⟨bk, 0 + j, none⟩ = some (.string x) := by
  intro j x hj
  rw [h.cell]
  simp [hj]
theorem flatMap_take {α β : Type} (F : α → List β) (l : List α) (q : Nat) (z : α) (h : l[q]? = some z) : (l.take (q + 1)).flatMap F = (l.take q).flatMap F ++ F z := by
  obtain ⟨hlt, rfl⟩ := List.getElem?_eq_some_iff.1 h
  rw [List.take_succ_eq_append_getElem hlt, List.flatMap_append]
  congr 1
  simp
theorem flatMap_take_le {α β : Type} (F : α → List β) (l : List α) (q : Nat) : ((l.take q).flatMap F).length ≤ (l.flatMap F).length := by
  conv => rhs; rw [← List.take_append_drop q l]
  rw [List.flatMap_append, List.length_append]
  omega
/-- What a walk of package shape wants of a world: a state below B, the table of Itoa. -/
def Shw (p0 : Nat) (S : PSt) (w : World) : Prop := SP w p0 S ∧ Pow10 w
set_option maxRecDepth 100000 in
set_option maxHeartbeats 4000000 in
theorem walk132 (B b p0 : Nat) (S : PSt) (hwf : S.wf) (hd : ∀ x ∈ S.ins, x.data.size ≤ 1000000) : ∀ (f : Nat) (n : Int) (s : ByteArray) (t : List UInt8) (w : World), wlkOk S f n = true → I64 n → (t ++ wlkT S f n s).length ≤ 1000000000000 →
    Laid B (Shw p0 S) w → IsWr B b (.pointer (some ⟨p0, 0, none⟩)) (Lib.byteCells t) w → B ≤ w.heap.size →
    Calls Tryz.prog 132 #[.pointer (some ⟨b, 0, none⟩), .int .i64 n, .string s] w fun e w' => e = .returned (.tuple #[]) ∧ IsWr B b (.pointer (some ⟨p0, 0, none⟩)) (Lib.byteCells (t ++ wlkT S f n s)) w' ∧ Below B w w' := by
  intro f
  induction f with
  | zero => intro n s t w hok; cases hok
  | succ f ih =>
    intro n s t w hok hn hlen hL hW hBw
    have hL0 := hL
    obtain ⟨w0, ⟨hsp, h10⟩, hB0, hb0⟩ := hL0
    unfold wlkOk at hok
    unfold wlkT at hlen ⊢
    obtain ⟨K, hK⟩ : ∃ K : Nat, idxM (isNum n) S.ins = K := ⟨(idxM (isNum n) S.ins).toNat, by simp at hok; omega⟩
    rw [hK] at hok hlen ⊢
    simp only [Int.toNat_natCast] at hok hlen ⊢
    obtain ⟨x, hx⟩ : ∃ x, S.ins[K]? = some x := by
      rcases h : S.ins[K]? with _ | x
      · rw [h] at hok; simp at hok
      · exact ⟨x, rfl⟩
    rw [hx] at hok hlen ⊢
    simp only at hok hlen ⊢
    obtain ⟨hKl, _⟩ := List.getElem?_eq_some_iff.1 hx
    have hxm := List.mem_of_getElem? hx
    have iW := hW.lt
    have hsz := hb0.size
    obtain ⟨hl0, iv, ov, mv, c0, c1, c2, hr⟩ := hsp
    obtain ⟨ai, capi, rfl, hati⟩ := hr.ins_at2
    obtain ⟨bi, off, ev, rfl, iG0, ho1, hev, hcl⟩ := hati K x hx
    have hino : ∀ ww, Below w.heap.size w ww → Calls Tryz.prog 161 #[.pointer (some ⟨b, 0, none⟩), .int .i64 n] ww fun e w' => e = .returned (.pointer (some ⟨bi, off + K * 4, none⟩)) ∧ Below ww.heap.size ww w' := fun ww hb => by
      have hbb : Below w0.heap.size w0 ww := hb0.trans (hb.mono hsz)
      have hcw : ww.cell? ⟨b, 0, none⟩ = some (.pointer (some ⟨p0, 0, none⟩)) := by
        rw [hb.cell (p := ⟨b, 0, none⟩) iW]
        rcases hW with ⟨_, v, h, _⟩ | ⟨_, v, h, _⟩ <;> (rw [Lib.cell_of_heap h]; rfl)
      refine (inode161 b p0 S n ww ⟨by have := hb.size; omega⟩ hcw (SP.below ⟨hl0, _, ov, mv, c0, c1, c2, hr⟩ hbb (Nat.le_refl _)) hwf.1 K hK hKl).mono ?_
      rintro e w' ⟨⟨bi', off', cap', h1, rfl⟩, h2⟩
      have h3 := (hbb.cell (p := ⟨p0, 0, none⟩) hl0).trans c0
      rw [h3] at h1
      simp only [Option.some.injEq, Value.slice.injEq, Addr.mk.injEq] at h1
      obtain ⟨⟨rfl, rfl, -⟩, -, rfl⟩ := h1
      exact ⟨rfl, h2⟩
    have hito : ∀ ww, Below B w ww → Calls Tryz.prog 84 #[.int .i64 n] ww fun e w' => e = .returned (.string (itoaB n)) ∧ Below ww.heap.size ww w' := fun ww hb => itoa84 B n hn ww ((hL.below hb).imp (fun _ h => h.2))
    obtain ⟨iGw, y0, y1, y2, y3⟩ := hcl w hb0
    have iL : BlockLt b w := ⟨iW⟩
    have iBB : ∀ ww, Below w.heap.size w ww → Below B w ww := fun ww h => h.mono hBw
    have hlin : ∀ ws ww t' bk c, Below w.heap.size w ww → Blk ww bk (ws.map Value.string).toArray 9 → ws.length ≤ c → ws.length ≤ 1000 → t' = t → (t ++ lineM ws).length ≤ 1000000000000 → Calls Tryz.prog 83 #[.pointer (some ⟨b, 0, none⟩), .slice (some ⟨bk, 0, none⟩) ws.length c] ww fun e w' => e = .returned (.tuple #[]) ∧ IsWr B b (.pointer (some ⟨p0, 0, none⟩)) (Lib.byteCells (t ++ lineM ws)) w' ∧ Below B ww w' := fun ws ww t' bk c hb hbk h1 h2 _ h3 =>
      line83 B b _ t ws bk c ww (hW.below hb) (strs_at ws hbk) hbk.lt.lt h1 h2 (by omega) (Nat.le_trans hBw hb.size)
    obtain ⟨xn, xd, xe, xdat⟩ := x
    simp only at hok hlen y0 y1 y2 y3 hev hcl ⊢
    rcases xd with _ | _
    · simp only [Bool.false_eq_true, if_false] at hlen ⊢
      have hhex : ∀ ww, Calls Tryz.prog 85 #[.string xdat] ww fun e w' => e = .returned (.string (hexM xdat)) ∧ Below ww.heap.size ww w' := fun ww => hex85 xdat (by have := hd _ hxm; simp only at this; omega) ww
      clear hok hL hW hcl hati hr hev ih hd hwf
      rcases hemp : s.toList.isEmpty with _ | _
      · have hs : shownM s = s := by unfold shownM; rw [hemp]; rfl
        rw [hs] at hlen ⊢
        have HL := Lib.hid hlen
        clear hlen
        go_enter Tryz.func132, Tryz.ntmps132
        go_wp2_with (go_at_call 161; refine (hino _ (bel _ _)).mono ?_; rintro e w' ⟨rfl, hb⟩; obtain ⟨p, rfl⟩ := hb.rest; clear hb)
        refine wp_region_eff [3, 8, 9, 10] true (fun w' => w'.cell? ⟨bi, off + K * 4 + 3, none⟩ = some (.string xdat)) (by kernel_rfl) (by kernel_rfl) (by go_simp) ?_
        repeat
          refine wpL_look rfl rfl ?_
          apply Exists.intro
          refine ⟨?_, ?_⟩
          focus
            rintro w' s0
            go_simp
            first | done | rfl
          simp only [Act.put, List.setIfInBounds_toArray, List.set_cons_zero, List.set_cons_succ]
        refine wpL_act rfl rfl ?_
        refine eff_call 84 #[.int .i64 n] ?hrq1 ?_
        case hrq1 =>
          go_simp
          first | done | rfl
        refine (hito _ (iBB _ (bel w _))).mono ?_
        rintro e w' ⟨rfl, hb⟩
        obtain ⟨q1, rfl⟩ := hb.rest
        clear hb
        refine ⟨_, rfl, .inl (by go_simp), ?_⟩
        simp only [Act.put, List.setIfInBounds_toArray, List.set_cons_zero, List.set_cons_succ]
        repeat
          refine wpL_look rfl rfl ?_
          apply Exists.intro
          refine ⟨?_, ?_⟩
          focus
            rintro w' s0
            go_simp
            first | done | rfl
          simp only [Act.put, List.setIfInBounds_toArray, List.set_cons_zero, List.set_cons_succ]
        refine wpL_act rfl rfl ?_
        refine eff_call 85 #[.string xdat] ?hrq2 ?_
        case hrq2 =>
          go_simp
          first | done | rfl
        refine (hhex _).mono ?_
        rintro e w' ⟨rfl, hb⟩
        obtain ⟨q2, rfl⟩ := hb.rest
        clear hb
        refine ⟨_, rfl, .inl (by go_simp), ?_⟩
        simp only [Act.put, List.setIfInBounds_toArray, List.set_cons_zero, List.set_cons_succ]
        refine wpL_do rfl rfl ?_
        apply Exists.intro
        apply Exists.intro
        refine ⟨?_, ?_, ?_⟩
        focus
          go_simp
          exact ⟨rfl, rfl⟩
        focus
          refine .inl ?_
          go_simp
        simp only [Act.put, List.setIfInBounds_toArray, List.set_cons_zero, List.set_cons_succ]
        refine wpL_act rfl rfl ?_
        refine eff_call 83 #[.pointer (some ⟨b, 0, none⟩), .slice (some ⟨w.heap.size + ((p.drew.more q1).more q2).len, 0, none⟩) 4 4] ?hr3 ?_
        case hr3 =>
          go_simp
          first | done | rfl
        refine (hlin [⟨#[102]⟩, s, itoaB n, hexM xdat] _ t _ 4 (bel w _) (Blk.new_i _ _ _ _) (by simp) (by simp) rfl HL.out).mono ?_
        rintro e w2 ⟨rfl, h2, hb2⟩
        refine ⟨_, rfl, .inr ⟨rfl, rfl⟩, ?_⟩
        simp only [Act.put, List.setIfInBounds_toArray, List.set_cons_zero, List.set_cons_succ]
        refine wpL_end ?_
        have HW2 := Lib.hid (And.intro h2 ((iBB _ (bel w _)).trans hb2))
        clear h2 hb2
        go_wp2_with fail
        exact bodyPost_ret (v := .tuple #[]) (by simp [results, go_sem]) rfl ⟨rfl, HW2.out⟩
      · have hs : shownM s = ⟨#[47]⟩ := by unfold shownM; rw [hemp]; rfl
        rw [hs] at hlen ⊢
        have HL := Lib.hid hlen
        clear hlen
        go_enter Tryz.func132, Tryz.ntmps132
        go_wp2_with (go_at_call 161; refine (hino _ (bel _ _)).mono ?_; rintro e w' ⟨rfl, hb⟩; obtain ⟨p, rfl⟩ := hb.rest; clear hb)
        refine wp_region_eff [3, 8, 9, 10] true (fun w' => w'.cell? ⟨bi, off + K * 4 + 3, none⟩ = some (.string xdat)) (by kernel_rfl) (by kernel_rfl) (by go_simp) ?_
        repeat
          refine wpL_look rfl rfl ?_
          apply Exists.intro
          refine ⟨?_, ?_⟩
          focus
            rintro w' s0
            go_simp
            first | done | rfl
          simp only [Act.put, List.setIfInBounds_toArray, List.set_cons_zero, List.set_cons_succ]
        refine wpL_act rfl rfl ?_
        refine eff_call 84 #[.int .i64 n] ?hrq1 ?_
        case hrq1 =>
          go_simp
          first | done | rfl
        refine (hito _ (iBB _ (bel w _))).mono ?_
        rintro e w' ⟨rfl, hb⟩
        obtain ⟨q1, rfl⟩ := hb.rest
        clear hb
        refine ⟨_, rfl, .inl (by go_simp), ?_⟩
        simp only [Act.put, List.setIfInBounds_toArray, List.set_cons_zero, List.set_cons_succ]
        repeat
          refine wpL_look rfl rfl ?_
          apply Exists.intro
          refine ⟨?_, ?_⟩
          focus
            rintro w' s0
            go_simp
            first | done | rfl
          simp only [Act.put, List.setIfInBounds_toArray, List.set_cons_zero, List.set_cons_succ]
        refine wpL_act rfl rfl ?_
        refine eff_call 85 #[.string xdat] ?hrq2 ?_
        case hrq2 =>
          go_simp
          first | done | rfl
        refine (hhex _).mono ?_
        rintro e w' ⟨rfl, hb⟩
        obtain ⟨q2, rfl⟩ := hb.rest
        clear hb
        refine ⟨_, rfl, .inl (by go_simp), ?_⟩
        simp only [Act.put, List.setIfInBounds_toArray, List.set_cons_zero, List.set_cons_succ]
        refine wpL_do rfl rfl ?_
        apply Exists.intro
        apply Exists.intro
        refine ⟨?_, ?_, ?_⟩
        focus
          go_simp
          exact ⟨rfl, rfl⟩
        focus
          refine .inl ?_
          go_simp
        simp only [Act.put, List.setIfInBounds_toArray, List.set_cons_zero, List.set_cons_succ]
        refine wpL_act rfl rfl ?_
        refine eff_call 83 #[.pointer (some ⟨b, 0, none⟩), .slice (some ⟨w.heap.size + ((p.drew.more q1).more q2).len, 0, none⟩) 4 4] ?hr3 ?_
        case hr3 =>
          go_simp
          first | done | rfl
        refine (hlin [⟨#[102]⟩, ⟨#[47]⟩, itoaB n, hexM xdat] _ t _ 4 (bel w _) (Blk.new_i _ _ _ _) (by simp) (by simp) rfl HL.out).mono ?_
        rintro e w2 ⟨rfl, h2, hb2⟩
        refine ⟨_, rfl, .inr ⟨rfl, rfl⟩, ?_⟩
        simp only [Act.put, List.setIfInBounds_toArray, List.set_cons_zero, List.set_cons_succ]
        refine wpL_end ?_
        have HW2 := Lib.hid (And.intro h2 ((iBB _ (bel w _)).trans hb2))
        clear h2 hb2
        go_wp2_with fail
        exact bodyPost_ret (v := .tuple #[]) (by simp [results, go_sem]) rfl ⟨rfl, HW2.out⟩
    · simp only [if_true] at hlen ⊢
      have hokE : ∀ e ∈ xe, wlkOk S f e.num = true := by
        intro e he
        simp at hok
        exact hok e he
      have hnE : ∀ e ∈ xe, I64 e.num := (hwf.2.2.2.1 _ hxm).2.2
      have hxl : xe.length ≤ 1000000000 := (hwf.2.2.2.1 _ hxm).2.1
      generalize hF : (fun e : PEnt => wlkT S f e.num (s ++ ⟨#[47]⟩ ++ e.name)) = F at hlen ⊢
      have hlF : ∀ (q : Nat) (e : PEnt) (T0 : List UInt8), (t ++ (T0 ++ xe.flatMap F)).length ≤ 1000000000000 → xe[q]? = some e → (t ++ (T0 ++ (xe.take q).flatMap F) ++ wlkT S f e.num (s ++ ⟨#[47]⟩ ++ e.name)).length ≤ 1000000000000 ∧ (s ++ ⟨#[47]⟩ ++ e.name).size ≤ 1000000000000 ∧ t ++ (T0 ++ (xe.take q).flatMap F) ++ wlkT S f e.num (s ++ ⟨#[47]⟩ ++ e.name) = t ++ (T0 ++ (xe.take (q + 1)).flatMap F) := by
        intro q e T0 hl he
        have h1 := flatMap_take F xe q e he
        have h2 := flatMap_take_le F xe (q + 1)
        have h3 := wlkT_path (S := S) (f := f) (n := e.num) (s ++ ⟨#[47]⟩ ++ e.name) (hokE e (List.mem_of_getElem? he))
        have h4 : F e = wlkT S f e.num (s ++ ⟨#[47]⟩ ++ e.name) := by rw [← hF]
        rw [h1, h4, List.length_append] at h2
        simp only [List.length_append] at hl ⊢
        refine ⟨by omega, by omega, ?_⟩
        rw [h1, h4]
        simp
      have hre : ∀ wr, Below B w wr → Below w0.heap.size w0 wr := fun wr h => hb0.trans (h.mono hB0)
      have hevn := hev.at_
      obtain ⟨ae, ce, rfl, hat⟩ := hevn
      rw [List.length_map] at y2
      have hcel : ∀ wr, Below B w wr → BlockLt bi wr ∧ wr.cell? ⟨bi, off + K * 4 + 2, none⟩ = some (.slice ae xe.length ce) := fun wr h => by
        obtain ⟨h1, _, _, h2, _⟩ := hcl wr (hre wr h)
        rw [List.length_map] at h2
        exact ⟨h1, h2⟩
      have hrec : ∀ (q : Nat) (e : PEnt) (T0 : List UInt8) (ww : World), xe[q]? = some e → Below B w ww → (t ++ (T0 ++ xe.flatMap F)).length ≤ 1000000000000 → IsWr B b (.pointer (some ⟨p0, 0, none⟩)) (Lib.byteCells (t ++ (T0 ++ (xe.take q).flatMap F))) ww → B ≤ ww.heap.size →
          Calls Tryz.prog 132 #[.pointer (some ⟨b, 0, none⟩), .int .i64 e.num, .string (s ++ ⟨#[47]⟩ ++ e.name)] ww fun e w' => e = .returned (.tuple #[]) ∧ IsWr B b (.pointer (some ⟨p0, 0, none⟩)) (Lib.byteCells (t ++ (T0 ++ (xe.take (q + 1)).flatMap F))) w' ∧ Below B ww w' := fun q e T0 ww he hb hl hw hB => by
        obtain ⟨h1, h2, h3⟩ := hlF q e T0 hl he
        have := ih e.num (s ++ ⟨#[47]⟩ ++ e.name) _ ww (hokE e (List.mem_of_getElem? he)) (hnE e (List.mem_of_getElem? he)) h1 (hL.below hb) hw hB
        rw [h3] at this
        exact this
      have hszE : ∀ (q : Nat) (e : PEnt) (T0 : List UInt8), (t ++ (T0 ++ xe.flatMap F)).length ≤ 1000000000000 → xe[q]? = some e → (s ++ ⟨#[47]⟩ ++ e.name).size ≤ 1000000000000 := fun q e T0 hl he => (hlF q e T0 hl he).2.1
      have HE := Lib.hid hat
      clear hok hL hW hcl hati hr hev ih hd hwf hlF hat hokE hnE hF
      rcases hemp : s.toList.isEmpty with _ | _
      · have hs : shownM s = s := by unfold shownM; rw [hemp]; rfl
        rw [hs] at hlen ⊢
        have HL := Lib.hid hlen
        have hl0 : (t ++ lineM [⟨#[100]⟩, s, itoaB n]).length ≤ 1000000000000 := by simp only [List.length_append] at hlen ⊢; omega
        generalize hT : lineM [⟨#[100]⟩, s, itoaB n] = T0 at HL
        clear hlen
        go_enter Tryz.func132, Tryz.ntmps132
        go_upto_region 7 with (first | (go_at_call 161; refine (hino _ (bel _ _)).mono ?_; rintro e w' ⟨rfl, hb⟩; obtain ⟨p, rfl⟩ := hb.rest; clear hb) | (go_at_call 84; refine (hito _ (iBB _ (bel w _))).mono ?_; rintro e w' ⟨rfl, hb⟩; obtain ⟨q1, rfl⟩ := hb.rest; clear hb) | (go_at_call 83; refine (hlin [⟨#[100]⟩, s, itoaB n] _ t _ 3 (bel w _) (Blk.new_i _ _ _ _) (by simp) (by simp) rfl hl0).mono ?_; rintro e w2 ⟨rfl, h2, hb2⟩))
        rw [hT] at h2
        have hbw2 := (iBB _ (bel w _)).trans hb2
        obtain ⟨iG2, y2'⟩ := hcel w2 hbw2
        have iW2 : BlockLt b w2 := ⟨h2.lt⟩
        have HW2 := Lib.hid h2
        clear h2 y2 hcel
        go_wp2_with fail
        go_loopw [43] (fun i wr => ∃ q : Nat, i = .int .i64 q ∧ q ≤ xe.length ∧ IsWr B b (.pointer (some ⟨p0, 0, none⟩)) (Lib.byteCells (t ++ (T0 ++ (xe.take q).flatMap F))) wr ∧ Below B w wr) (fun i _ => (xe.length - intOf i).toNat)
        case atStart => exact ⟨0, rfl, by omega, by simpa using HW2.out, hbw2⟩
        case round =>
          obtain ⟨q, rfl, hq, hwr, hbr⟩ := hrel
          have hBr : B ≤ wr.heap.size := Nat.le_trans hBw hbr.size
          by_cases hlt : q < xe.length
          · obtain ⟨e, he⟩ : ∃ e, xe[q]? = some e := ⟨_, List.getElem?_eq_getElem hlt⟩
            obtain ⟨be, oe, rfl, iE0, iE, hce⟩ := HE.out wr (hre wr hbr) q e.cells (by rw [List.getElem?_map, he]; rfl)
            have e0 := hce 0 _ rfl
            have e1 := hce 1 _ rfl
            rw [Nat.add_zero] at e0
            have hsz1 := hszE q e T0 HL.out he
            rw [ByteArray.size_append, ByteArray.size_append] at hsz1
            have hone : (⟨#[47]⟩ : ByteArray).size = 1 := rfl
            rw [hone] at hsz1
            have g1 : ¬ 9223372036854775807 < s.size + 1 := by omega
            have g2 : ¬ 9223372036854775807 < s.size + 1 + e.name.size := by omega
            have hcall : ∀ ww, Below wr.heap.size wr ww → Calls Tryz.prog 132 #[.pointer (some ⟨b, 0, none⟩), .int .i64 e.num, .string (s ++ ⟨#[47]⟩ ++ e.name)] ww _ := fun ww hb => hrec q e T0 ww he (hbr.trans (hb.mono hBr)) HL.out (hwr.below hb) (Nat.le_trans hBr hb.size)
            have HC := Lib.hid hcall
            have iB : Bel wr wr := inferInstance
            clear hce he hsz1 hwr
            go_wp2_with (go_at_call 132; refine (hcall _ (bel wr _)).mono ?_; rintro e w3 ⟨rfl, h3, hb3⟩)
            go_roundw
            case rel => exact ⟨q + 1, by go_num, by omega, h3, hbr.trans (((bel wr _).mono hBr).trans hb3)⟩
            case measure => simp [intOf]; omega
          · rw [List.take_of_length_le (by omega)] at hwr
            have HW3 := Lib.hid (And.intro hwr hbr)
            clear hwr hbr
            go_wp2_with fail
            exact bodyPost_end (v := .tuple #[]) (by simp [results, go_sem]) rfl ⟨rfl, HW3.out⟩
      · have hs : shownM s = ⟨#[47]⟩ := by unfold shownM; rw [hemp]; rfl
        rw [hs] at hlen ⊢
        have HL := Lib.hid hlen
        have hl0 : (t ++ lineM [⟨#[100]⟩, ⟨#[47]⟩, itoaB n]).length ≤ 1000000000000 := by simp only [List.length_append] at hlen ⊢; omega
        generalize hT : lineM [⟨#[100]⟩, ⟨#[47]⟩, itoaB n] = T0 at HL
        clear hlen
        go_enter Tryz.func132, Tryz.ntmps132
        go_upto_region 7 with (first | (go_at_call 161; refine (hino _ (bel _ _)).mono ?_; rintro e w' ⟨rfl, hb⟩; obtain ⟨p, rfl⟩ := hb.rest; clear hb) | (go_at_call 84; refine (hito _ (iBB _ (bel w _))).mono ?_; rintro e w' ⟨rfl, hb⟩; obtain ⟨q1, rfl⟩ := hb.rest; clear hb) | (go_at_call 83; refine (hlin [⟨#[100]⟩, ⟨#[47]⟩, itoaB n] _ t _ 3 (bel w _) (Blk.new_i _ _ _ _) (by simp) (by simp) rfl hl0).mono ?_; rintro e w2 ⟨rfl, h2, hb2⟩))
        rw [hT] at h2
        have hbw2 := (iBB _ (bel w _)).trans hb2
        obtain ⟨iG2, y2'⟩ := hcel w2 hbw2
        have iW2 : BlockLt b w2 := ⟨h2.lt⟩
        have HW2 := Lib.hid h2
        clear h2 y2 hcel
        go_wp2_with fail
        go_loopw [43] (fun i wr => ∃ q : Nat, i = .int .i64 q ∧ q ≤ xe.length ∧ IsWr B b (.pointer (some ⟨p0, 0, none⟩)) (Lib.byteCells (t ++ (T0 ++ (xe.take q).flatMap F))) wr ∧ Below B w wr) (fun i _ => (xe.length - intOf i).toNat)
        case atStart => exact ⟨0, rfl, by omega, by simpa using HW2.out, hbw2⟩
        case round =>
          obtain ⟨q, rfl, hq, hwr, hbr⟩ := hrel
          have hBr : B ≤ wr.heap.size := Nat.le_trans hBw hbr.size
          by_cases hlt : q < xe.length
          · obtain ⟨e, he⟩ : ∃ e, xe[q]? = some e := ⟨_, List.getElem?_eq_getElem hlt⟩
            obtain ⟨be, oe, rfl, iE0, iE, hce⟩ := HE.out wr (hre wr hbr) q e.cells (by rw [List.getElem?_map, he]; rfl)
            have e0 := hce 0 _ rfl
            have e1 := hce 1 _ rfl
            rw [Nat.add_zero] at e0
            have hsz1 := hszE q e T0 HL.out he
            rw [ByteArray.size_append, ByteArray.size_append] at hsz1
            have hone : (⟨#[47]⟩ : ByteArray).size = 1 := rfl
            rw [hone] at hsz1
            have g1 : ¬ 9223372036854775807 < s.size + 1 := by omega
            have g2 : ¬ 9223372036854775807 < s.size + 1 + e.name.size := by omega
            have hcall : ∀ ww, Below wr.heap.size wr ww → Calls Tryz.prog 132 #[.pointer (some ⟨b, 0, none⟩), .int .i64 e.num, .string (s ++ ⟨#[47]⟩ ++ e.name)] ww _ := fun ww hb => hrec q e T0 ww he (hbr.trans (hb.mono hBr)) HL.out (hwr.below hb) (Nat.le_trans hBr hb.size)
            have HC := Lib.hid hcall
            have iB : Bel wr wr := inferInstance
            clear hce he hsz1 hwr
            go_wp2_with (go_at_call 132; refine (hcall _ (bel wr _)).mono ?_; rintro e w3 ⟨rfl, h3, hb3⟩)
            go_roundw
            case rel => exact ⟨q + 1, by go_num, by omega, h3, hbr.trans (((bel wr _).mono hBr).trans hb3)⟩
            case measure => simp [intOf]; omega
          · rw [List.take_of_length_le (by omega)] at hwr
            have HW3 := Lib.hid (And.intro hwr hbr)
            clear hwr hbr
            go_wp2_with fail
            exact bodyPost_end (v := .tuple #[]) (by simp [results, go_sem]) rfl ⟨rfl, HW3.out⟩
end Go.Proofs.YtjkenolgkkknaaaGreatDoor
namespace Go.Proofs.YtjkenolgkkknaaaGreatDoor
open Go.RowKit
theorem Laid.pow {B : Nat} {w : World} (h : Laid B Pow10 w) : Pow10 w := by
  obtain ⟨w0, h0, h1, h2⟩ := h
  exact Lib.tabBelow_of_tabIs h0 w h2
theorem lineM_ne (ws : List ByteArray) : lineM ws ≠ [] := by unfold lineM; simp
theorem wlkT_ne {S : PSt} {f : Nat} {n : Int} (p : ByteArray) (h : wlkOk S f n = true) : wlkT S f n p ≠ [] := by
  rcases f with _ | f
  · cases h
  unfold wlkOk at h
  simp only [Bool.and_eq_true] at h
  unfold wlkT
  rcases hx : S.ins[(idxM (isNum n) S.ins).toNat]? with _ | x
  · rw [hx] at h; simp at h
  · simp only
    by_cases hd : x.dir = true
    · rw [if_pos hd]
      intro e
      exact lineM_ne _ (List.append_eq_nil_iff.1 e).1
    · rw [if_neg hd]
      exact lineM_ne _
theorem IsWr.fresh (w : World) (sv : Value) : IsWr w.heap.size w.heap.size sv (Lib.byteCells []) (w.alloc (.cells #[sv, .pointer none, .slice none 0 0] 124)) :=
  .inl ⟨Nat.le_refl _, _, heap_alloc_new w _, by simp [Lib.byteCells], .inl ⟨rfl, rfl⟩⟩
def filesT (S : PSt) (f : Nat) : List UInt8 := wlkT S f 1 ⟨#[]⟩
set_option maxRecDepth 100000 in
set_option maxHeartbeats 4000000 in
theorem files81 (iv ov mv : Value) (S : PSt) (f : Nat) (w : World) (h : StRead w iv ov mv S) (hwf : S.wf) (hm : mayM S = true) (hd : ∀ x ∈ S.ins, x.data.size ≤ 1000000) (hok : wlkOk S f 1 = true) (hlen : (filesT S f).length ≤ 1000000000000) (hp : Laid w.heap.size Pow10 w) :
    Calls Tryz.prog 81 #[.agg #[iv, ov, mv]] w fun e w' => e = .returned (.tuple #[.string ⟨(filesT S f).toArray⟩, .int .i64 0]) ∧ Below w.heap.size w w' := by
  have hmay : ∀ ww, Below w.heap.size w ww → Calls Tryz.prog 37 #[.agg #[iv, ov, mv]] ww fun e w' => e = .returned (.bool true) ∧ Below ww.heap.size ww w' := fun ww hb => by
    have := may37 iv ov mv S ww (h.below hb (Nat.le_refl _)) hwf
    rw [hm] at this
    exact this
  have hio : iv.oneCell' = true := by obtain ⟨_, _, _, h3, _⟩ := h; exact h3.one
  have hoo := h.1.one
  have hmo := h.2.1.one
  have hwalk : ∀ (wb ww : World) (B p0 : Nat), B = wb.heap.size → Below w.heap.size w wb → Blk wb p0 #[iv, ov, mv] 27 → ww = wb.alloc (.cells #[.pointer (some ⟨p0, 0, none⟩), .pointer none, .slice none 0 0] 124) →
      Calls Tryz.prog 132 #[.pointer (some ⟨B, 0, none⟩), .int .i64 1, .string ⟨#[]⟩] ww fun e w' => e = .returned (.tuple #[]) ∧ IsWr B B (.pointer (some ⟨p0, 0, none⟩)) (Lib.byteCells (filesT S f)) w' ∧ Below B ww w' := fun wb ww B p0 hB hb hblk hww => by
    subst hB
    subst hww
    have hl : Laid wb.heap.size (Shw p0 S) wb := Laid.at_ ⟨SP.of_blk hblk (h.below hb (Nat.le_refl _)), (hp.below hb).pow⟩
    exact walk132 wb.heap.size wb.heap.size p0 S hwf hd f 1 ⟨#[]⟩ [] _ hok (by unfold I64; omega) (by simpa [filesT] using hlen) (hl.below (bel wb _)) (IsWr.fresh _ _) (by simp)
  have hne : filesT S f ≠ [] := wlkT_ne _ hok
  clear h hwf hm hd hok hp
  go_enter Tryz.func81, Tryz.ntmps81
  go_wp2_with (first | (go_at_call 37; refine (hmay _ (bel _ _)).mono ?_; rintro e w' ⟨rfl, hb⟩; obtain ⟨p, rfl⟩ := hb.rest; clear hb))
  go_wp2_with (go_at_call 132; refine (hwalk ((w.alloc (Obj.cells #[iv, ov, mv] 27)).junk p) _ _ w.heap.size (by simp) (bel _ _) ((Blk.new _ _ _).junk p) rfl).mono ?_; rintro e w2 ⟨rfl, h2, hb2⟩)
  have hs2 := hb2.size
  simp at hs2
  have h2' := wr_text (w.heap.size + 1 + p.len) (w.heap.size + 1 + p.len) _ (filesT S f) w2 h2 hne
  have HB := Lib.hid (((bel w ((((w.alloc (Obj.cells #[iv, ov, mv] 27)).junk p).alloc (.cells #[.pointer (some ⟨w.heap.size, 0, none⟩), .pointer none, .slice none 0 0] 124)))).mono (Nat.le_refl _)).trans (hb2.mono (by omega)))
  clear hb2 h2 hs2
  go_wp2_with (go_at_call 88; refine h2'.mono ?_; rintro e w3 ⟨rfl, hb3⟩)
  exact bodyPost_ret (v := .tuple #[.string ⟨(filesT S f).toArray⟩, .int .i64 0]) (by unfold results; simp only [Tryz.results81]; go_simp) rfl ⟨rfl, HB.out.trans (hb3.mono (by omega))⟩
end Go.Proofs.YtjkenolgkkknaaaGreatDoor
