/- path.Parse of whatever string. Conditions: none. path.Code, inum.Num, inum.Core, inum.Made. Conditions: none. Rows of elements of some cells, as they are read; inum; model.find's search. Conditions: none. slices.BinarySearchFunc over the inodes, and model.find. Conditions: none. A file system's state as data, and how it lies in memory; searches with a closure. Conditions: none. May of the model, the first part: what cores made, numbers. Conditions: none. -/
import Derived.Test.YtjkenolgkkknaaaGreatDoorTw01
set_option linter.unusedVariables false
set_option linter.unusedSimpArgs false
namespace Go
/-- A world whose walk along a string stands at a place. -/
def World.itTo (w : World) (b : Nat) (s : ByteArray) (pos : Nat) : World := { w with heap := w.heap.setIfInBounds b (.stringIter s pos) }
theorem run_next_str {P : Program} (w : World) (b : Nat) (s : ByteArray) (pos : Nat) (ty : TypeId) (hb : w.heap[b]? = some (.stringIter s pos)) (h : pos < s.size) :
    (Instr.next (.pointer (some ⟨b, 0, none⟩)) true ty).run P w = .ok (.tuple #[.bool true, .int .i64 pos, .int .i32 (Utf8.decode s pos).1]) (w.itTo b s (pos + (Utf8.decode s pos).2)) := by
  simp only [Instr.next, getObj, setObj, Sem.run_bind, Sem.run, hb, Result.andThen, h, if_true]
  simp [goInt, World.itTo]
theorem run_next_over {P : Program} (w : World) (b : Nat) (s : ByteArray) (pos : Nat) (ty : TypeId) (hb : w.heap[b]? = some (.stringIter s pos)) (h : ¬ pos < s.size) :
    (Instr.next (.pointer (some ⟨b, 0, none⟩)) true ty).run P w = .ok (.tuple #[.bool false]) w := by
  simp [Instr.next, getObj, Sem.run, hb, h]
theorem World.itTo_at {w : World} {b : Nat} {s s' : ByteArray} {p : Nat} (hb : w.heap[b]? = some (.stringIter s' p)) (pos : Nat) : (w.itTo b s pos).heap[b]? = some (.stringIter s pos) := by
  have := (Array.getElem?_eq_some_iff.1 hb).1
  simp [World.itTo, this]
@[go_sem, simp] theorem World.itTo_size (w : World) (b : Nat) (s : ByteArray) (p : Nat) : (w.itTo b s p).heap.size = w.heap.size := by simp [World.itTo]
instance {w : World} {n b p : Nat} {s : ByteArray} [h : SizeIs w n] : SizeIs (w.itTo b s p) n := ⟨by simp [h.eq]⟩
instance {w : World} {k b p : Nat} {s : ByteArray} [h : BlockLt k w] : BlockLt k (w.itTo b s p) := ⟨by simpa using h.lt⟩
theorem Keep.itTo {S : Nat → Prop} {a w : World} (h : Keep S a w) {b : Nat} (hb : S b) (s : ByteArray) (p : Nat) : Keep S a (w.itTo b s p) :=
  ⟨h.os, h.tape, h.output, by simpa using h.size, fun i hi hn => by
    rw [← h.block i hi hn]
    simp only [World.itTo]
    rw [Array.getElem?_setIfInBounds_ne]
    rintro rfl
    exact hn hb⟩
end Go
namespace Go.Proofs.YtjkenolgkkknaaaGreatDoor
open Go.RowKit
theorem iterPos_at {w : World} {b : Nat} {s : ByteArray} {p : Nat} (h : w.heap[b]? = some (.stringIter s p)) : w.iterPos b = p := by simp [World.iterPos, h]
def finM (R : Int × List ByteArray) : Int × List ByteArray := if R.1 = 0 ∧ 4 < R.2.length then (1102, []) else R
/-- The answer of path.Parse, as it lies in memory. -/
def Parsed (w : World) (F : Int × List ByteArray) (e : Ending) (w' : World) : Prop := ∃ v, e = .returned (.tuple #[v, .int .i64 F.1]) ∧ Below w.heap.size w w' ∧ w'.ownsRow 0 9 1 v F.2.length (F.2.map .string) ∧ ∀ b, v.ownBlock = some b → w.heap.size ≤ b
theorem Parsed.nil {w w' : World} {c : Int} (hb : Below w.heap.size w w') : Parsed w (c, []) (.returned (.tuple #[.slice none 0 0, .int .i64 c])) w' := ⟨_, rfl, hb, ⟨rfl, .inl ⟨rfl, rfl⟩⟩, by simp [Value.ownBlock]⟩
theorem info9 : (Tryz.prog.info? 9).map (fun i => (i.zero, i.size, i.bytes)) = some (some (.string ByteArray.empty), 1, 16) := by kernel_rfl
def parseFrom (s t : ByteArray) : Nat → Nat → Nat → List ByteArray → Int × List ByteArray
  | 0, _, _, acc => (0, acc)
  | b + 1, pos, fr, acc => if pos < t.size then
      if (((pos : Int) == 0) || !(((Utf8.decode t pos).1 : Int) == 47)) = true then parseFrom s t b (pos + (Utf8.decode t pos).2) fr acc
      else if checkM (s.extract fr pos) = 0 then parseFrom s t b (pos + (Utf8.decode t pos).2) (pos + 1) (acc ++ [s.extract fr pos])
      else if checkM (s.extract fr pos) = 801 then (1101, []) else (1100, [])
    else (0, acc)
theorem parseFrom_end (s t : ByteArray) (b pos fr : Nat) (acc : List ByteArray) (h : ¬ pos < t.size) : parseFrom s t b pos fr acc = (0, acc) := by
  cases b with
  | zero => rfl
  | succ b => simp [parseFrom, h]
/-- What path.Parse answers: a code, and the names. -/
def parseM (s : ByteArray) : Int × List ByteArray :=
  if 64 < s.size then (1101, [])
  else if h : 0 < s.size then
    if (((s[0]'h).toNat : Int) == 47) = false then (1100, [])
    else if s.size = 1 then (0, [])
    else
      let r := parseFrom s (s ++ ⟨#[47]⟩) (s ++ ⟨#[47]⟩ : ByteArray).size 0 1 []
      if r.1 = 0 ∧ 4 < r.2.length then (1102, []) else r
  else (1100, [])
structure ParseAt (w : World) (s t : ByteArray) (R : Int × List ByteArray) (pos fr : Nat) (acc : List ByteArray) (v : Value) (wr : World) : Prop where
  bel : Below w.heap.size w wr
  it : wr.heap[w.heap.size]? = some (.stringIter t pos)
  own : wr.ownsRow 0 9 1 v acc.length (acc.map .string)
  loc : ∀ b, v.ownBlock = some b → w.heap.size < b
  rest : ∃ b, parseFrom s t b pos fr acc = R ∧ t.size ≤ pos + b
  fr : fr ≤ pos ∨ (pos = 0 ∧ fr = 1)
  len : acc.length ≤ pos
set_option maxRecDepth 100000 in
set_option maxHeartbeats 2000000 in
theorem parse_loop (s : ByteArray) (w : World) (h64 : ¬ 64 < s.size) (i2 : s.toList.isEmpty = false) (h0 : 0 < s.size) (hc : (((s[0]'h0).toNat : Int) == 47) = true) (h1 : ¬ s.size = 1) (R : Int × List ByteArray) (hR : parseFrom s (s ++ ⟨#[47]⟩) (s ++ ⟨#[47]⟩ : ByteArray).size 0 1 [] = R) :
    Calls Tryz.prog 136 #[.string s] w (Parsed w (finM R)) := by
  obtain ⟨F, hF⟩ : ∃ F, finM R = F := ⟨_, rfl⟩
  rw [hF]
  have HF := Lib.hid hF
  clear hF
  have i64 : ¬ (64 : Int) < s.size := by omega
  have i3 : (((s[0]'h0).toNat : Int) != 47) = false := by simp [bne, hc]
  have i4 : ((s.size : Int) == 1) = false := beq_eq_false_iff_ne.2 (by omega)
  have ht : (s ++ ⟨#[47]⟩ : ByteArray).size = s.size + 1 := by simp [ByteArray.size_append]; rfl
  go_enter Tryz.func136, Tryz.ntmps136
  go_wp2_with fail
  generalize hT : (s ++ ⟨#[47]⟩ : ByteArray) = t at ht hR
  go_loopw [4, 5] (fun v f wr => ∃ (pos fr : Nat) (acc : List ByteArray), f = .int .i64 fr ∧ ParseAt w s t R pos fr acc v wr) (fun _ _ wr => t.size - wr.iterPos w.heap.size)
  case atStart => exact ⟨0, 1, [], rfl, (Below.refl _ w).alloc (Nat.le_refl _) _, World.iter_heap w t 0, ⟨rfl, .inl ⟨rfl, rfl⟩⟩, by simp [Value.ownBlock], ⟨t.size, hR, by omega⟩, .inr ⟨rfl, rfl⟩, by simp⟩
  case round =>
    obtain ⟨pos, fr, acc, rfl, h⟩ := hrel
    have H := Lib.hid h
    obtain ⟨a0, cp0, rfl⟩ := own_form h.own
    have hit := h.it
    by_cases hp : pos < t.size
    · have hnx : ∀ ty, (Instr.next (.pointer (some ⟨w.heap.size, 0, none⟩)) true ty).run Tryz.prog wr = _ := fun ty => run_next_str wr w.heap.size t pos ty hit hp
      have hwd := width_pos t pos hp
      obtain ⟨b, hb, hbp⟩ := h.rest
      obtain ⟨b', rfl⟩ : ∃ b', b = b' + 1 := ⟨b - 1, by omega⟩
      have hps : pos ≤ s.size := by omega
      have hpsI : (pos : Int) ≤ s.size := by omega
      have hlen := h.len
      have hsz := h.bel.size
      have hfr := h.fr
      have hlt0 : w.heap.size < wr.heap.size := (Array.getElem?_eq_some_iff.1 hit).1
      have hbi : Below w.heap.size w (wr.itTo w.heap.size t (pos + (Utf8.decode t pos).2)) := h.bel.trans (((Keep.refl (fun k => k = w.heap.size) wr).itTo rfl t _).below hsz (fun i hi e => by omega))
      have hiti := World.itTo_at (s := t) hit (pos + (Utf8.decode t pos).2)
      have howni := ((Keep.refl (fun k => k = w.heap.size) wr).itTo rfl t (pos + (Utf8.decode t pos).2)).own h.own (fun k hk e => by have := h.loc k hk; omega)
      have hloc := h.loc
      have HB := Lib.hid hb
      have HI := Lib.hid (And.intro hbi (And.intro hiti (And.intro howni hloc)))
      clear hb h hit hbi hiti howni hloc
      generalize hw2 : wr.itTo w.heap.size t (pos + (Utf8.decode t pos).2) = wi at hnx HI
      have HSZ := Lib.hid (show wi.heap.size = wr.heap.size by rw [← hw2]; simp)
      generalize hrd : (Utf8.decode t pos).1 = r at hnx
      by_cases hsk : (((pos : Int) == 0) || !((r : Int) == 47)) = true
      · have hgo : parseFrom s t b' (pos + (Utf8.decode t pos).2) fr acc = R := by
          have := HB.out
          rw [parseFrom, if_pos hp, hrd, if_pos hsk] at this
          exact this
        have hnew : ParseAt w s t R (pos + (Utf8.decode t pos).2) fr acc (.slice a0 acc.length cp0) wi := ⟨HI.out.1, HI.out.2.1, HI.out.2.2.1, HI.out.2.2.2, ⟨b', hgo, by omega⟩, .inl (by omega), by omega⟩
        rcases k1 : ((pos : Int) == 0) with _ | _
        · rcases k2 : ((r : Int) == 47) with _ | _
          · have k2' : ((r : Int) != 47) = true := by simp [bne, k2]
            go_wp2_with fail
            go_roundw
            case rel => exact ⟨_, fr, acc, rfl, hnew⟩
            case measure => rw [iterPos_at HI.out.2.1, iterPos_at H.out.it]; omega
          · rw [k1, k2] at hsk; cases hsk
        · go_wp2_with fail
          go_roundw
          case rel => exact ⟨_, fr, acc, rfl, hnew⟩
          case measure => rw [iterPos_at HI.out.2.1, iterPos_at H.out.it]; omega
      · have k1 : ((pos : Int) == 0) = false := by
          rcases h : ((pos : Int) == 0) with _ | _
          · rfl
          · rw [h] at hsk; exact absurd rfl hsk
        have k2 : ((r : Int) == 47) = true := by
          rcases h : ((r : Int) == 47) with _ | _
          · rw [h, k1] at hsk; exact absurd rfl hsk
          · rfl
        have k2' : ((r : Int) != 47) = false := by simp [bne, k2]
        have hp0 : 0 < pos := by
          rcases Nat.eq_zero_or_pos pos with h | h
          · subst h; cases k1
          · exact h
        have hfp : fr ≤ pos := by omega
        have hfpI : (fr : Int) ≤ pos := by omega
        have hrec := HB.out
        rw [parseFrom, if_pos hp, hrd, if_neg hsk] at hrec
        generalize hpc : s.extract fr pos = pc at hrec
        by_cases c0 : checkM pc = 0
        · rw [if_pos c0] at hrec
          have HC := Lib.hid hrec
          clear hrec
          have hck : ∀ ww, Calls Tryz.prog 165 #[.string pc] ww fun e w' => e = .returned (.int .i64 0) ∧ Below ww.heap.size ww w' := fun ww => by rw [← c0]; exact check165 pc ww
          obtain ⟨j0, ji, jz0, jz1, jz2⟩ := info_parts info9
          go_upto_region 18 with (go_at_call 165; refine (hck _).mono ?_; rintro e w' ⟨rfl, hb⟩; obtain ⟨p, rfl⟩ := hb.rest; clear hb)
          have hownP := ((Keep.refl (fun _ => False) wi).junk p).own HI.out.2.2.1 (fun _ _ e => e)
          have haI : acc.length ≤ 65 := by omega
          go_wp2_with (at_builtin; refine wpList_append_own_at _ rfl (.tmp 46) (.tmp 51) 44 rfl 0 9 j0 _ 1 16 Tryz.underlying44 ji jz0 jz1 jz2 rfl (by decide) (.slice a0 acc.length cp0) acc.length _ rfl (hownP.alloc _) ⟨_, 0, none⟩ 1 1 [.string pc] rfl rfl (fun j' u hu => news_new _ [.string pc] 9 _ j' u hu) (by simp [Value.oneCell']) (by unfold maxLen; omega) (by omega) (Nat.zero_le _) ?_)
          intro v' w1 hown1 hgrow _ hloc
          have HX := Lib.hid (And.intro hown1 (And.intro hgrow hloc))
          clear hown1 hgrow hloc
          go_wp2_with fail
          go_roundw
          case rel =>
            obtain ⟨hown1, hgrow, hloc⟩ := HX.out
            obtain ⟨hbi, hiti, howni, hlo⟩ := HI.out
            have hlti : w.heap.size < wi.heap.size := (Array.getElem?_eq_some_iff.1 hiti).1
            have hW : Below w.heap.size w ((wi.junk p).alloc (.cells #[.string pc] 9)) := (below_junk _ _ _ p hbi hbi.size).alloc (below_junk _ _ _ p hbi hbi.size).size _
            have hitW : ((wi.junk p).alloc (.cells #[.string pc] 9)).heap[w.heap.size]? = some (.stringIter t (pos + (Utf8.decode t pos).2)) := by
              have h1 := (Keep.refl (fun _ => False) wi).junk p |>.alloc (.cells #[.string pc] 9)
              rw [h1.block w.heap.size (by omega) (fun e => e), hiti]
            refine ⟨_, pos + 1, acc ++ [pc], rfl, hW.trans (((Keep.refl (fun b => (Value.slice a0 acc.length cp0).ownBlock = some b) _).grown hgrow (fun b hb => .inl hb)).below (by simp; omega) (fun x hx h => by have := hlo x h; omega)), ?_, by simpa using hown1, fun b hb => ?_, ⟨b', HC.out, by omega⟩, .inl (by omega), by simp; omega⟩
            · rw [hgrow.block w.heap.size (by simp; omega) (fun e => by have := hlo _ e.symm; omega)]
              exact hitW
            · rcases hloc with h | h
              · exact hlo b (h.symm.trans hb)
              · rw [h] at hb
                injection hb with hb
                omega
          case measure =>
            obtain ⟨hown1, hgrow, hloc⟩ := HX.out
            obtain ⟨hbi, hiti, howni, hlo⟩ := HI.out
            have hlti : w.heap.size < wi.heap.size := (Array.getElem?_eq_some_iff.1 hiti).1
            have h1 := (Keep.refl (fun _ => False) wi).junk p |>.alloc (.cells #[.string pc] 9)
            have h2 : w1.heap[w.heap.size]? = some (.stringIter t (pos + (Utf8.decode t pos).2)) := by
              rw [hgrow.block w.heap.size (by simp; omega) (fun e => by have := hlo _ e.symm; omega), h1.block w.heap.size (by omega) (fun e => e), hiti]
            rw [iterPos_at h2, iterPos_at H.out.it]
            omega
        · rw [if_neg c0] at hrec
          have hck : ∀ ww, Calls Tryz.prog 165 #[.string pc] ww fun e w' => e = .returned (.int .i64 (checkM pc)) ∧ Below ww.heap.size ww w' := fun ww => check165 pc ww
          have n0 : (checkM pc == 0) = false := beq_eq_false_iff_ne.2 c0
          by_cases c8 : checkM pc = 801
          · rw [if_pos c8] at hrec
            have hFe : F = (1101, []) := by have := HF.out; rw [← this, ← hrec]; rfl
            rw [c8] at hck
            clear hrec
            go_wp2_with (go_at_call 165; refine (hck _).mono ?_; rintro e w' ⟨rfl, hb⟩; obtain ⟨p, rfl⟩ := hb.rest; clear hb)
            refine bodyPost_ret (v := .tuple #[.slice none 0 0, .int .i64 1101]) (by simp [results, Tryz.results136, go_sem]) rfl ?_
            rw [hFe]
            exact Parsed.nil (below_junk _ _ _ _ HI.out.1 HI.out.1.size)
          · rw [if_neg c8] at hrec
            have n8 : (checkM pc == 801) = false := beq_eq_false_iff_ne.2 c8
            have hFe : F = (1100, []) := by have := HF.out; rw [← this, ← hrec]; rfl
            clear hrec
            generalize checkM pc = c at hck n0 n8
            go_wp2_with (go_at_call 165; refine (hck _).mono ?_; rintro e w' ⟨rfl, hb⟩; obtain ⟨p, rfl⟩ := hb.rest; clear hb)
            refine bodyPost_ret (v := .tuple #[.slice none 0 0, .int .i64 1100]) (by simp [results, Tryz.results136, go_sem]) rfl ?_
            rw [hFe]
            exact Parsed.nil (below_junk _ _ _ _ HI.out.1 HI.out.1.size)
    · have hnx : ∀ ty, (Instr.next (.pointer (some ⟨w.heap.size, 0, none⟩)) true ty).run Tryz.prog wr = _ := fun ty => run_next_over wr w.heap.size t pos ty hit hp
      by_cases hl : 4 < acc.length
      · have hlI : (4 : Int) < acc.length := by omega
        clear h hit
        have hR2 : R = (0, acc) := by
          obtain ⟨b, hb, _⟩ := H.out.rest
          rw [parseFrom_end s t b pos fr acc hp] at hb
          exact hb.symm
        have hFe : F = (1102, []) := by have := HF.out; rw [← this, hR2]; simp [finM, hl]
        clear hR2
        go_wp2_with fail
        refine bodyPost_ret (v := .tuple #[.slice none 0 0, .int .i64 1102]) (by simp [results, Tryz.results136, go_sem]) rfl ?_
        rw [hFe]
        exact Parsed.nil H.out.bel
      · have hlI : ¬ (4 : Int) < acc.length := by omega
        clear h hit
        have hR2 : R = (0, acc) := by
          obtain ⟨b, hb, _⟩ := H.out.rest
          rw [parseFrom_end s t b pos fr acc hp] at hb
          exact hb.symm
        have hFe : F = (0, acc) := by have := HF.out; rw [← this, hR2]; simp [finM, hl]
        clear hR2
        go_wp2_with fail
        refine bodyPost_ret (v := .tuple #[.slice a0 acc.length cp0, .int .i64 0]) (by simp [results, Tryz.results136, go_sem]) rfl ?_
        try rw [hFe]
        exact ⟨_, rfl, H.out.bel, H.out.own, fun b hb => Nat.le_of_lt (H.out.loc b hb)⟩
theorem size_pos (s : ByteArray) (h : s.toList.isEmpty = false) : 0 < s.size := by
  rw [ByteArray.toList_eq] at h
  rcases Nat.eq_zero_or_pos s.size with h0 | h0
  · have : s.data.toList.length = 0 := by rw [Array.length_toList]; exact h0
    rw [List.length_eq_zero_iff] at this
    rw [this] at h
    cases h
  · exact h0
theorem size_zero (s : ByteArray) (h : s.toList.isEmpty = true) : ¬ 0 < s.size := by
  rw [ByteArray.toList_eq] at h
  have h2 : s.data.toList = [] := by simpa using h
  have : s.data.toList.length = 0 := by rw [h2]; rfl
  rw [Array.length_toList] at this
  have e : s.size = s.data.size := rfl
  omega
set_option maxRecDepth 100000 in
theorem parse136 (s : ByteArray) (w : World) : Calls Tryz.prog 136 #[.string s] w (Parsed w (parseM s)) := by
  by_cases h64 : 64 < s.size
  · have i64 : (64 : Int) < s.size := by omega
    have hM : parseM s = (1101, []) := by simp [parseM, h64]
    rw [hM]
    go_enter Tryz.func136, Tryz.ntmps136
    go_wp2_with fail
    exact bodyPost_ret (v := .tuple #[.slice none 0 0, .int .i64 1101]) (by simp [results, Tryz.results136, go_sem]) rfl (Parsed.nil (bel _ _))
  have i64 : ¬ (64 : Int) < s.size := by omega
  rcases he : s.toList.isEmpty with _ | _
  · have h0 := size_pos s he
    rcases hc : (((s[0]'h0).toNat : Int) == 47) with _ | _
    · have i3 : (((s[0]'h0).toNat : Int) != 47) = true := by simp [bne, hc]
      have hM : parseM s = (1100, []) := by simp only [parseM, if_neg h64, dif_pos h0, hc]; rfl
      rw [hM]
      go_enter Tryz.func136, Tryz.ntmps136
      go_wp2_with fail
      exact bodyPost_ret (v := .tuple #[.slice none 0 0, .int .i64 1100]) (by simp [results, Tryz.results136, go_sem]) rfl (Parsed.nil (bel _ _))
    · by_cases h1 : s.size = 1
      · have i3 : (((s[0]'h0).toNat : Int) != 47) = false := by simp [bne, hc]
        have i4 : ((s.size : Int) == 1) = true := beq_iff_eq.2 (by omega)
        have hM : parseM s = (0, []) := by simp only [parseM, if_neg h64, dif_pos h0, hc, if_pos h1]; rfl
        rw [hM]
        clear h1
        go_enter Tryz.func136, Tryz.ntmps136
        go_wp2_with fail
        exact bodyPost_ret (v := .tuple #[.slice none 0 0, .int .i64 0]) (by simp [results, Tryz.results136, go_sem]) rfl (Parsed.nil (bel _ _))
      · have hM : parseM s = finM (parseFrom s (s ++ ⟨#[47]⟩) (s ++ ⟨#[47]⟩ : ByteArray).size 0 1 []) := by simp only [parseM, if_neg h64, dif_pos h0, hc, if_neg h1]; rfl
        rw [hM]
        exact parse_loop s w h64 he h0 hc h1 _ rfl
  · have h0 := size_zero s he
    have hM : parseM s = (1100, []) := by simp only [parseM, if_neg h64, dif_neg h0]
    rw [hM]
    go_enter Tryz.func136, Tryz.ntmps136
    go_wp2_with fail
    exact bodyPost_ret (v := .tuple #[.slice none 0 0, .int .i64 1100]) (by simp [results, Tryz.results136, go_sem]) rfl (Parsed.nil (bel _ _))
end Go.Proofs.YtjkenolgkkknaaaGreatDoor
namespace Go.Proofs.YtjkenolgkkknaaaGreatDoor
open Go.RowKit
def codeM (c : Int) : Int := if c = 0 then 0 else if c = 1101 ∨ c = 1102 then 6 else 9
theorem code167 (c : Int) (w : World) :
    Calls Tryz.prog 167 #[.int .i64 c] w fun e w' => e = .returned (.int .i64 (codeM c)) ∧ Below w.heap.size w w' := by
  by_cases h0 : c = 0
  · subst h0
    go_enter Tryz.func167, Tryz.ntmps167
    go_wp2_with fail
    go_ret
    exact ⟨rfl, bel _ _⟩
  by_cases h1 : c = 1101
  · subst h1
    go_enter Tryz.func167, Tryz.ntmps167
    go_wp2_with fail
    go_ret
    exact ⟨rfl, bel _ _⟩
  by_cases h2 : c = 1102
  · subst h2
    go_enter Tryz.func167, Tryz.ntmps167
    go_wp2_with fail
    go_ret
    exact ⟨rfl, bel _ _⟩
  have e : codeM c = 9 := by simp [codeM, h0, h1, h2]
  rw [e]
  have b0 : (c == 0) = false := beq_eq_false_iff_ne.2 h0
  have b1 : (c == 1101) = false := beq_eq_false_iff_ne.2 h1
  have b2 : (c == 1102) = false := beq_eq_false_iff_ne.2 h2
  clear h0 h1 h2 e
  go_enter Tryz.func167, Tryz.ntmps167
  go_wp2_with fail
  go_ret
  exact ⟨rfl, bel _ _⟩
end Go.Proofs.YtjkenolgkkknaaaGreatDoor
namespace Go.Proofs.YtjkenolgkkknaaaGreatDoor
open Go.RowKit
/-- A slice value whose elements (k cells each) are these; nothing is said of who owns it. -/
def RowAt (w : World) (k : Nat) (v : Value) (rows : List (List Value)) : Prop :=
  ∃ a cap, v = .slice a rows.length cap ∧ rows.length ≤ maxLen ∧ (0 < rows.length → ∃ b off, a = some ⟨b, off, none⟩ ∧ b < w.heap.size ∧ ∀ (q : Nat) (cs : List Value), rows[q]? = some cs → ∀ (t : Nat) (u : Value), cs[t]? = some u → w.cell? ⟨b, off + q * k + t, none⟩ = some u)
theorem RowAt.below {w w' : World} {B k : Nat} {v : Value} {rows : List (List Value)} (h : RowAt w k v rows) (hb : Below B w w') (hB : w.heap.size ≤ B) : RowAt w' k v rows := by
  obtain ⟨a, cap, e, hm, hr⟩ := h
  refine ⟨a, cap, e, hm, fun h0 => ?_⟩
  obtain ⟨b, off, e2, hlt, hc⟩ := hr h0
  have hs := hb.size
  exact ⟨b, off, e2, by omega, fun q cs hq t u hu => (hb.cell (p := ⟨b, off + q * k + t, none⟩) (by show b < B; omega)).trans (hc q cs hq t u hu)⟩
theorem num117 (core made : Int) (h0 : 0 ≤ core ∧ core < 8) (h1 : 0 ≤ made ∧ made < 1000000000) (w : World) :
    Calls Tryz.prog 117 #[.int .i64 core, .int .i64 made] w fun e w' => e = .returned (.int .i64 (2 + core + 8 * made)) ∧ Below w.heap.size w w' := by
  have e1 : wrap64 (2 + core) = 2 + core := by simp only [wrap64]; omega
  have e2 : wrap64 (8 * made) = 8 * made := by simp only [wrap64]; omega
  have e3 : wrap64 (2 + core + 8 * made) = 2 + core + 8 * made := by simp only [wrap64]; omega
  go_enter Tryz.func117, Tryz.ntmps117
  go_wp2_with fail
  go_ret
  exact ⟨by first | rfl | simp_all, bel _ _⟩
/-- The compare of model.find: at an inode of number x, with n. -/
def cmpM (x n : Int) : Int := if x < n then -1 else if n < x then 1 else 0
theorem cmp149 (x n : Int) (d : Bool) (ev : Value) (s : ByteArray) (hev : ev.oneCell' = true) (w : World) :
    Calls Tryz.prog 149 #[.agg #[.int .i64 x, .bool d, ev, .string s], .int .i64 n] w fun e w' => e = .returned (.int .i64 (cmpM x n)) ∧ Below w.heap.size w w' := by
  unfold cmpM
  by_cases h1 : x < n
  · rw [if_pos h1]
    go_enter Tryz.func149, Tryz.ntmps149
    go_wp2_with fail
    go_ret
    exact ⟨rfl, bel _ _⟩
  · rw [if_neg h1]
    by_cases h2 : n < x
    · rw [if_pos h2]
      go_enter Tryz.func149, Tryz.ntmps149
      go_wp2_with fail
      go_ret
      exact ⟨rfl, bel _ _⟩
    · rw [if_neg h2]
      go_enter Tryz.func149, Tryz.ntmps149
      go_wp2_with fail
      go_ret
      exact ⟨rfl, bel _ _⟩
end Go.Proofs.YtjkenolgkkknaaaGreatDoor
namespace Go.Proofs.YtjkenolgkkknaaaGreatDoor
open Go.RowKit
/-- An inode as it lies: its number, whether it is a directory, its entries' slice, its bytes. -/
structure IRec where
  num : Int
  dir : Bool
  ev : Value
  data : ByteArray
  one : ev.oneCell' = true
def IRec.cells (x : IRec) : List Value := [.int .i64 x.num, .bool x.dir, x.ev, .string x.data]
/-- A binary search, place by place. -/
def bsFrom (f : Nat → Int) : Nat → Nat → Nat → Nat
  | 0, lo, _ => lo
  | b + 1, lo, hi => if lo < hi then (if f ((lo + hi) / 2) < 0 then bsFrom f b ((lo + hi) / 2 + 1) hi else bsFrom f b lo ((lo + hi) / 2)) else lo
theorem bsFrom_end (f : Nat → Int) (b lo hi : Nat) (h : ¬ lo < hi) : bsFrom f b lo hi = lo := by
  cases b with
  | zero => rfl
  | succ b => simp [bsFrom, h]
def cmpAt (is : List IRec) (n : Int) (q : Nat) : Int := match is[q]? with | some x => cmpM x.num n | none => 0
def bsM (is : List IRec) (n : Int) : Nat := bsFrom (cmpAt is n) is.length 0 is.length
def bsHit (is : List IRec) (n : Int) : Bool := decide (bsM is n < is.length) && (cmpAt is n (bsM is n) == 0)
set_option maxRecDepth 100000 in
set_option maxHeartbeats 2000000 in
theorem bs119 (is : List IRec) (v : Value) (n : Int) (w : World) (h : RowAt w 4 v (is.map IRec.cells)) (hlen : is.length ≤ 1000000000) :
    Calls Tryz.prog 119 #[v, .int .i64 n, .func (.func 149) #[] #[]] w fun e w' => e = .returned (.tuple #[.int .i64 (bsM is n), .bool (bsHit is n)]) ∧ Below w.heap.size w w' := by
  obtain ⟨a, cap, rfl, _, hrow⟩ := h
  rw [List.length_map] at hrow ⊢
  have cell : ∀ (wr : World), Below w.heap.size w wr → ∀ (q : Nat), q < is.length → ∃ (b off : Nat) (x : IRec), a = some ⟨b, off, none⟩ ∧ BlockLt b wr ∧ is[q]? = some x ∧ cmpAt is n q = cmpM x.num n ∧ wr.cell? ⟨b, off + q * 4, none⟩ = some (.int .i64 x.num) ∧ wr.cell? ⟨b, off + q * 4 + 1, none⟩ = some (.bool x.dir) ∧ wr.cell? ⟨b, off + q * 4 + 2, none⟩ = some x.ev ∧ wr.cell? ⟨b, off + q * 4 + 3, none⟩ = some (.string x.data) := by
    intro wr hb q hq
    obtain ⟨b, off, rfl, hlt, hc⟩ := hrow (by omega)
    obtain ⟨x, hx⟩ : ∃ x, is[q]? = some x := ⟨_, List.getElem?_eq_getElem hq⟩
    have hm : (is.map IRec.cells)[q]? = some x.cells := by rw [List.getElem?_map, hx]; rfl
    have hs := hb.size
    have key : ∀ (t : Nat) (u : Value), x.cells[t]? = some u → wr.cell? ⟨b, off + q * 4 + t, none⟩ = some u := fun t u hu => (hb.cell (p := ⟨b, _, none⟩) hlt).trans (hc q _ hm t u hu)
    exact ⟨b, off, x, rfl, ⟨by omega⟩, hx, by unfold cmpAt; rw [hx], key 0 _ rfl, key 1 _ rfl, key 2 _ rfl, key 3 _ rfl⟩
  have HC := Lib.hid cell
  clear cell hrow
  obtain ⟨P, hP⟩ : ∃ P, bsM is n = P := ⟨_, rfl⟩
  obtain ⟨T, hT⟩ : ∃ T, bsHit is n = T := ⟨_, rfl⟩
  rw [hP, hT]
  have HP := Lib.hid (And.intro hP hT)
  clear hP hT
  go_enter Tryz.func119, Tryz.ntmps119
  go_wp2_with fail
  go_loopw [9, 10] (fun i j wr => ∃ (lo hi b : Nat), i = .int .i64 lo ∧ j = .int .i64 hi ∧ lo ≤ hi ∧ hi ≤ is.length ∧ hi ≤ lo + b ∧ bsFrom (cmpAt is n) b lo hi = P ∧ Below w.heap.size w wr) (fun i j _ => (intOf j - intOf i).toNat)
  case atStart => exact ⟨0, is.length, is.length, rfl, rfl, by omega, by omega, by omega, HP.out.1, bel _ _⟩
  case round =>
    obtain ⟨lo, hi, b, rfl, rfl, hlh, hhn, hfu, hbs, hb⟩ := hrel
    have iB : Bel w wr := ⟨hb⟩
    by_cases hlt : lo < hi
    · obtain ⟨b', rfl⟩ : ∃ b', b = b' + 1 := ⟨b - 1, by omega⟩
      obtain ⟨m, hm⟩ : ∃ m, (lo + hi) / 2 = m := ⟨_, rfl⟩
      obtain ⟨b0, off, x, rfl, iG, hx, hcm, c0, c1, c2, c3⟩ := HC.out wr hb m (by omega)
      have hone := x.one
      rw [bsFrom, if_pos hlt, hm, hcm] at hbs
      have HS := Lib.hid hbs
      clear hbs hcm
      have hmI : ((lo : Int) + hi) / 2 = m := by omega
      have hmn : m < is.length := by omega
      have hmnI : (m : Int) < is.length := by omega
      have hcall : ∀ ww, Calls Tryz.prog 149 #[.agg #[.int .i64 x.num, .bool x.dir, x.ev, .string x.data], .int .i64 n] ww fun e w' => e = .returned (.int .i64 (cmpM x.num n)) ∧ Below ww.heap.size ww w' := fun ww => cmp149 x.num n x.dir x.ev x.data hone ww
      have HM := Lib.hid hm
      clear hm
      by_cases hneg : cmpM x.num n < 0
      · generalize hcv : cmpM x.num n = cv at hcall hneg
        go_wp2_with (go_at_call 149; refine (hcall _).mono ?_; rintro e w' ⟨rfl, hb⟩; obtain ⟨p, rfl⟩ := hb.rest; clear hb)
        go_roundw
        case rel => exact ⟨m + 1, hi, b', by go_num, rfl, by have := HM.out; omega, by omega, by have := HM.out; omega, by have := HS.out; rw [hcv, if_pos hneg] at this; exact this, bel _ _⟩
        case measure => have := HM.out; simp [intOf]; omega
      · generalize hcv : cmpM x.num n = cv at hcall hneg
        go_wp2_with (go_at_call 149; refine (hcall _).mono ?_; rintro e w' ⟨rfl, hb⟩; obtain ⟨p, rfl⟩ := hb.rest; clear hb)
        go_roundw
        case rel => exact ⟨lo, m, b', rfl, rfl, by have := HM.out; omega, by omega, by have := HM.out; omega, by have := HS.out; rw [hcv, if_neg (by omega)] at this; exact this, bel _ _⟩
        case measure => have := HM.out; simp [intOf]; omega
    · obtain rfl : lo = hi := by omega
      rw [bsFrom_end _ _ _ _ hlt] at hbs
      have hPl : P = lo := hbs.symm
      subst hPl
      by_cases hln : P < is.length
      · obtain ⟨b0, off, x, rfl, iG, hx, hcm, c0, c1, c2, c3⟩ := HC.out wr hb P hln
        have hone := x.one
        have hlnI : (P : Int) < is.length := by omega
        have hcall : ∀ ww, Calls Tryz.prog 149 #[.agg #[.int .i64 x.num, .bool x.dir, x.ev, .string x.data], .int .i64 n] ww fun e w' => e = .returned (.int .i64 (cmpM x.num n)) ∧ Below ww.heap.size ww w' := fun ww => cmp149 x.num n x.dir x.ev x.data hone ww
        have hTv : T = (cmpM x.num n == 0) := by
          have h1 := HP.out.2
          have h2 := HP.out.1
          rw [← h1]
          unfold bsHit
          rw [h2, hcm]
          simp [hln]
        clear hcm
        generalize cmpM x.num n = cv at hcall hTv
        subst hTv
        go_wp2_with (go_at_call 149; refine (hcall _).mono ?_; rintro e w' ⟨rfl, hb⟩; obtain ⟨p, rfl⟩ := hb.rest; clear hb)
        refine bodyPost_ret (v := .tuple #[.int .i64 P, .bool (cv == 0)]) (by simp [results, Tryz.results119, go_sem]) rfl ⟨rfl, bel _ _⟩
      · have hlnI : ¬ (P : Int) < is.length := by omega
        have hTv : T = false := by
          have h1 := HP.out.2
          have h2 := HP.out.1
          rw [← h1]
          unfold bsHit
          rw [h2]
          simp [hln]
        subst hTv
        go_wp2_with fail
        refine bodyPost_ret (v := .tuple #[.int .i64 P, .bool false]) (by simp [results, Tryz.results119, go_sem]) rfl ⟨rfl, bel _ _⟩
/-- The place of an inode of a number; -1. -/
def findM (is : List IRec) (n : Int) : Int := if bsHit is n = true then bsM is n else -1
set_option maxRecDepth 100000 in
set_option maxHeartbeats 1000000 in
theorem find110 (is : List IRec) (b off : Nat) (v : Value) (n : Int) (w : World) (ib : BlockLt b w) (c0 : w.cell? ⟨b, off, none⟩ = some v) (h : RowAt w 4 v (is.map IRec.cells)) (hlen : is.length ≤ 1000000000) :
    Calls Tryz.prog 110 #[.pointer (some ⟨b, off, none⟩), .int .i64 n] w fun e w' => e = .returned (.int .i64 (findM is n)) ∧ Below w.heap.size w w' := by
  have hbs := bs119 is v n w h hlen
  unfold findM
  obtain ⟨a, cap, rfl, _, _⟩ := h
  rw [List.length_map] at hbs c0
  generalize bsM is n = P at hbs ⊢
  generalize bsHit is n = T at hbs ⊢
  rcases T with _ | _
  · simp only [Bool.false_eq_true, if_false]
    go_enter Tryz.func110, Tryz.ntmps110
    go_wp2_with (go_at_call 119; refine hbs.mono ?_; rintro e w' ⟨rfl, hb⟩; obtain ⟨p, rfl⟩ := hb.rest; clear hb)
    go_ret
    exact ⟨rfl, bel _ _⟩
  · simp only [if_true]
    go_enter Tryz.func110, Tryz.ntmps110
    go_wp2_with (go_at_call 119; refine hbs.mono ?_; rintro e w' ⟨rfl, hb⟩; obtain ⟨p, rfl⟩ := hb.rest; clear hb)
    go_ret
    exact ⟨rfl, bel _ _⟩
end Go.Proofs.YtjkenolgkkknaaaGreatDoor
namespace Go.Proofs.YtjkenolgkkknaaaGreatDoor
open Go.RowKit
/-- An entry. -/
structure PEnt where
  name : ByteArray
  num : Int
deriving DecidableEq
/-- An inode. -/
structure PIn where
  num : Int
  dir : Bool
  ents : List PEnt
  data : ByteArray
deriving DecidableEq
/-- A descriptor. -/
structure PDesc where
  core : Int
  fd : Int
  num : Int
deriving DecidableEq
/-- A state. -/
structure PSt where
  ins : List PIn
  op : List PDesc
  made : List Int
deriving DecidableEq
/-- An int of 64 bits. -/
def I64 (x : Int) : Prop := -9223372036854775808 ≤ x ∧ x ≤ 9223372036854775807
theorem I64.wrap {x : Int} (h : I64 x) : IntKind.i64.wrap x = x := by
  unfold I64 at h
  simp [IntKind.wrap, IntKind.bits, IntKind.signed]
  omega
def PEnt.cells (x : PEnt) : List Value := [.string x.name, .int .i64 x.num]
def PDesc.cells (x : PDesc) : List Value := [.int .i64 x.core, .int .i64 x.fd, .int .i64 x.num]
def intCells (x : Int) : List Value := [.int .i64 x]
/-- An inode that lies so is this one. -/
def IRec.is (w : World) (r : IRec) (x : PIn) : Prop := r.num = x.num ∧ r.dir = x.dir ∧ r.data = x.data ∧ RowAt w 2 r.ev (x.ents.map PEnt.cells)
/-- Sizes and ranges. -/
def PSt.wf (S : PSt) : Prop :=
  S.ins.length ≤ 1000000000 ∧ S.op.length ≤ 1000000000 ∧ S.made.length ≤ 1000000000 ∧ (∀ x ∈ S.ins, I64 x.num ∧ x.ents.length ≤ 1000000000 ∧ ∀ e ∈ x.ents, I64 e.num) ∧ (∀ d ∈ S.op, I64 d.core ∧ I64 d.fd ∧ I64 d.num) ∧ ∀ m ∈ S.made, I64 m
/-- Three slices are read as a state. -/
def StRead (w : World) (iv ov mv : Value) (S : PSt) : Prop :=
  RowAt w 3 ov (S.op.map PDesc.cells) ∧ RowAt w 1 mv (S.made.map intCells) ∧ ∃ is : List IRec, RowAt w 4 iv (is.map IRec.cells) ∧ is.length = S.ins.length ∧ ∀ (q : Nat) (r : IRec) (x : PIn), is[q]? = some r → S.ins[q]? = some x → r.is w x
theorem StRead.below {w w' : World} {iv ov mv : Value} {S : PSt} {B : Nat} (h : StRead w iv ov mv S) (hb : Below B w w') (hB : w.heap.size ≤ B) : StRead w' iv ov mv S := by
  obtain ⟨h1, h2, is, h3, h4, h5⟩ := h
  exact ⟨h1.below hb hB, h2.below hb hB, is, h3.below hb hB, h4, fun q r x hr hx => by
    obtain ⟨a1, a2, a3, a4⟩ := h5 q r x hr hx
    exact ⟨a1, a2, a3, a4.below hb hB⟩⟩
theorem RowAt.one {w : World} {k : Nat} {v : Value} {rows : List (List Value)} (h : RowAt w k v rows) : v.oneCell' = true := by
  obtain ⟨a, cap, rfl, _⟩ := h
  rfl
/-- The slice's parts, and its cells in every later world. -/
theorem RowAt.at_ {w : World} {k : Nat} {v : Value} {rows : List (List Value)} (h : RowAt w k v rows) :
    ∃ a cap, v = .slice a rows.length cap ∧ ∀ wr, Below w.heap.size w wr → ∀ (q : Nat) (cs : List Value), rows[q]? = some cs → ∃ b off, a = some ⟨b, off, none⟩ ∧ BlockLt b w ∧ BlockLt b wr ∧ ∀ (t : Nat) (u : Value), cs[t]? = some u → wr.cell? ⟨b, off + q * k + t, none⟩ = some u := by
  obtain ⟨a, cap, rfl, _, hr⟩ := h
  refine ⟨a, cap, rfl, fun wr hb q cs hq => ?_⟩
  obtain ⟨hlt, _⟩ := List.getElem?_eq_some_iff.1 hq
  obtain ⟨b, off, rfl, hb0, hc⟩ := hr (by omega)
  have hs := hb.size
  exact ⟨b, off, rfl, ⟨hb0⟩, ⟨by omega⟩, fun t u hu => (hb.cell (p := ⟨b, _, none⟩) hb0).trans (hc q cs hq t u hu)⟩
/-- The place of the first that holds, from a place on; -1. -/
def idxFrom {α : Type} (p : α → Bool) : List α → Nat → Int
  | [], _ => -1
  | x :: r, q => if p x = true then (q : Int) else idxFrom p r (q + 1)
def idxM {α : Type} (p : α → Bool) (zs : List α) : Int := idxFrom p zs 0
theorem idxFrom_drop {α : Type} (p : α → Bool) (zs : List α) (q : Nat) (z : α) (h : zs[q]? = some z) : idxFrom p (zs.drop q) q = if p z = true then (q : Int) else idxFrom p (zs.drop (q + 1)) (q + 1) := by
  obtain ⟨hlt, rfl⟩ := List.getElem?_eq_some_iff.1 h
  rw [List.drop_eq_getElem_cons hlt]
  rfl
theorem idxFrom_end {α : Type} (p : α → Bool) (zs : List α) (q : Nat) (h : ¬ q < zs.length) : idxFrom p (zs.drop q) q = -1 := by
  rw [List.drop_of_length_le (by omega)]
  rfl
theorem idxFrom_bounds {α : Type} (p : α → Bool) (zs : List α) : ∀ q : Nat, idxFrom p zs q = -1 ∨ ((q : Int) ≤ idxFrom p zs q ∧ idxFrom p zs q < q + zs.length) := by
  induction zs with
  | nil => exact fun q => .inl rfl
  | cons z zs ih =>
    intro q
    unfold idxFrom
    by_cases h : p z = true
    · rw [if_pos h]; right; simp only [List.length_cons]; omega
    · rw [if_neg h]
      rcases ih (q + 1) with h | h
      · exact .inl h
      · right; simp only [List.length_cons] at h ⊢; omega
theorem idxM_bounds {α : Type} (p : α → Bool) (zs : List α) : idxM p zs = -1 ∨ (0 ≤ idxM p zs ∧ idxM p zs < zs.length) := by
  rcases idxFrom_bounds p zs 0 with h | h
  · exact .inl h
  · right; unfold idxM; omega
theorem idxM_any {α : Type} (p : α → Bool) (zs : List α) : (decide (0 ≤ idxM p zs)) = zs.any p := by
  have key : ∀ (zs : List α) (q : Nat), (decide (0 ≤ idxFrom p zs q)) = zs.any p := by
    intro zs
    induction zs with
    | nil => exact fun q => by simp [idxFrom]
    | cons z zs ih =>
      intro q
      rw [List.any_cons, idxFrom]
      by_cases h : p z = true
      · rw [if_pos h, h]; simp
      · rw [if_neg h, ih]; simp [h]
  exact key zs 0
set_option maxRecDepth 100000 in
theorem index145 (zs : List Int) (v : Value) (p : Int → Bool) (w : World) (h : RowAt w 1 v (zs.map intCells)) (hlen : zs.length ≤ 1000000000)
    (hg : ∀ (z : Int) (ww : World), z ∈ zs → Below w.heap.size w ww → Calls Tryz.prog 107 #[.int .i64 z] ww fun e w' => e = .returned (.bool (p z)) ∧ Below ww.heap.size ww w') :
    Calls Tryz.prog 145 #[v, .func (.func 107) #[] #[]] w fun e w' => e = .returned (.int .i64 (idxM p zs)) ∧ Below w.heap.size w w' := by
  obtain ⟨a, cap, rfl, hat⟩ := h.at_
  rw [List.length_map]
  have HA := Lib.hid hat
  clear hat h
  unfold idxM
  obtain ⟨R, hR⟩ : ∃ R, idxFrom p zs 0 = R := ⟨_, rfl⟩
  rw [hR]
  have HR := Lib.hid hR
  clear hR
  go_enter Tryz.func145, Tryz.ntmps145
  go_wp2_with fail
  go_loopw [8] (fun i wr => ∃ (q : Nat), i = .int .i64 q ∧ q ≤ zs.length ∧ idxFrom p (zs.drop q) q = R ∧ Below w.heap.size w wr) (fun i _ => (zs.length - intOf i).toNat)
  case atStart => exact ⟨0, rfl, by omega, HR.out, bel _ _⟩
  case round =>
    obtain ⟨q, rfl, hq, hre, hb⟩ := hrel
    have iB : Bel w wr := ⟨hb⟩
    by_cases hlt : q < zs.length
    · obtain ⟨z, hz⟩ : ∃ z, zs[q]? = some z := ⟨_, List.getElem?_eq_getElem hlt⟩
      obtain ⟨b, off, rfl, iG0, iG, hc⟩ := HA.out wr hb q (intCells z) (by rw [List.getElem?_map, hz]; rfl)
      have c0 := hc 0 _ rfl
      rw [idxFrom_drop p zs q z hz] at hre
      have hcall : ∀ ww, Below w.heap.size w ww → Calls Tryz.prog 107 #[.int .i64 z] ww fun e w' => e = .returned (.bool (p z)) ∧ Below ww.heap.size ww w' := fun ww hww => hg z ww (List.mem_of_getElem? hz) hww
      have HZ := Lib.hid (And.intro hz hre)
      clear hc hz hre hg
      rw [Nat.mul_one, Nat.add_zero] at c0
      generalize hpz : p z = t at hcall HZ
      rcases t with _ | _
      · go_wp2_with (go_at_call 107; refine (hcall _ (bel _ _)).mono ?_; rintro e w' ⟨rfl, hb⟩; obtain ⟨p, rfl⟩ := hb.rest; clear hb)
        go_roundw
        case rel => exact ⟨q + 1, by go_num, by omega, by have := HZ.out.2; simpa using this, bel _ _⟩
        case measure => simp [intOf]; omega
      · have hv : R = q := by have := HZ.out.2; simpa using this.symm
        subst hv
        go_wp2_with (go_at_call 107; refine (hcall _ (bel _ _)).mono ?_; rintro e w' ⟨rfl, hb⟩; obtain ⟨p, rfl⟩ := hb.rest; clear hb)
        exact bodyPost_ret (v := .int .i64 q) (by simp [results, Tryz.results145, go_sem]) rfl ⟨rfl, bel _ _⟩
    · rw [idxFrom_end p zs q hlt] at hre
      subst hre
      clear hg
      go_wp2_with fail
      exact bodyPost_ret (v := .int .i64 (-1)) (by simp [results, Tryz.results145, go_sem]) rfl ⟨rfl, bel _ _⟩
set_option maxRecDepth 100000 in
theorem index45o (zs : List PDesc) (v : Value) (l0 : Value) (p : PDesc → Bool) (w : World) (h : RowAt w 3 v (zs.map PDesc.cells)) (hlen : zs.length ≤ 1000000000)
    (hg : ∀ (z : PDesc) (ww : World), z ∈ zs → Below w.heap.size w ww → Calls Tryz.prog 112 #[.agg #[.int .i64 z.core, .int .i64 z.fd, .int .i64 z.num], l0] ww fun e w' => e = .returned (.bool (p z)) ∧ Below ww.heap.size ww w') :
    Calls Tryz.prog 45 #[v, .func (.func 112) #[] #[l0]] w fun e w' => e = .returned (.int .i64 (idxM p zs)) ∧ Below w.heap.size w w' := by
  obtain ⟨a, cap, rfl, hat⟩ := h.at_
  rw [List.length_map]
  have HA := Lib.hid hat
  clear hat h
  unfold idxM
  obtain ⟨R, hR⟩ : ∃ R, idxFrom p zs 0 = R := ⟨_, rfl⟩
  rw [hR]
  have HR := Lib.hid hR
  clear hR
  go_enter Tryz.func45, Tryz.ntmps45
  go_wp2_with fail
  go_loopw [8] (fun i wr => ∃ (q : Nat), i = .int .i64 q ∧ q ≤ zs.length ∧ idxFrom p (zs.drop q) q = R ∧ Below w.heap.size w wr) (fun i _ => (zs.length - intOf i).toNat)
  case atStart => exact ⟨0, rfl, by omega, HR.out, bel _ _⟩
  case round =>
    obtain ⟨q, rfl, hq, hre, hb⟩ := hrel
    have iB : Bel w wr := ⟨hb⟩
    by_cases hlt : q < zs.length
    · obtain ⟨z, hz⟩ : ∃ z, zs[q]? = some z := ⟨_, List.getElem?_eq_getElem hlt⟩
      obtain ⟨b, off, rfl, iG0, iG, hc⟩ := HA.out wr hb q (PDesc.cells z) (by rw [List.getElem?_map, hz]; rfl)
      have c0 := hc 0 _ rfl
      have c1 := hc 1 _ rfl
      have c2 := hc 2 _ rfl
      rw [idxFrom_drop p zs q z hz] at hre
      have hcall : ∀ ww, Below w.heap.size w ww → Calls Tryz.prog 112 #[.agg #[.int .i64 z.core, .int .i64 z.fd, .int .i64 z.num], l0] ww fun e w' => e = .returned (.bool (p z)) ∧ Below ww.heap.size ww w' := fun ww hww => hg z ww (List.mem_of_getElem? hz) hww
      have HZ := Lib.hid (And.intro hz hre)
      clear hc hz hre hg
      rw [Nat.add_zero] at c0
      generalize hpz : p z = t at hcall HZ
      rcases t with _ | _
      · go_wp2_with (go_at_call 112; refine (hcall _ (bel _ _)).mono ?_; rintro e w' ⟨rfl, hb⟩; obtain ⟨p, rfl⟩ := hb.rest; clear hb)
        go_roundw
        case rel => exact ⟨q + 1, by go_num, by omega, by have := HZ.out.2; simpa using this, bel _ _⟩
        case measure => simp [intOf]; omega
      · have hv : R = q := by have := HZ.out.2; simpa using this.symm
        subst hv
        go_wp2_with (go_at_call 112; refine (hcall _ (bel _ _)).mono ?_; rintro e w' ⟨rfl, hb⟩; obtain ⟨p, rfl⟩ := hb.rest; clear hb)
        exact bodyPost_ret (v := .int .i64 q) (by simp [results, Tryz.results45, go_sem]) rfl ⟨rfl, bel _ _⟩
    · rw [idxFrom_end p zs q hlt] at hre
      subst hre
      clear hg
      go_wp2_with fail
      exact bodyPost_ret (v := .int .i64 (-1)) (by simp [results, Tryz.results45, go_sem]) rfl ⟨rfl, bel _ _⟩
end Go.Proofs.YtjkenolgkkknaaaGreatDoor
namespace Go.Proofs.YtjkenolgkkknaaaGreatDoor
open Go.RowKit
/-- A pointer to a state: its block, from the first cell on. -/
def SP (w : World) (b : Nat) (S : PSt) : Prop := b < w.heap.size ∧ ∃ iv ov mv, w.cell? ⟨b, 0, none⟩ = some iv ∧ w.cell? ⟨b, 1, none⟩ = some ov ∧ w.cell? ⟨b, 2, none⟩ = some mv ∧ StRead w iv ov mv S
theorem SP.below {w w' : World} {b B : Nat} {S : PSt} (h : SP w b S) (hb : Below B w w') (hB : w.heap.size ≤ B) : SP w' b S := by
  obtain ⟨hl, iv, ov, mv, c0, c1, c2, hr⟩ := h
  have hs := hb.size
  have key : ∀ o v, w.cell? ⟨b, o, none⟩ = some v → w'.cell? ⟨b, o, none⟩ = some v := fun o v hv => (hb.cell (p := ⟨b, o, none⟩) (by show b < B; omega)).trans hv
  exact ⟨by omega, iv, ov, mv, key _ _ c0, key _ _ c1, key _ _ c2, hr.below hb hB⟩
def badMade (n : Int) : Bool := decide (n < 0) || decide (32 < n)
theorem mm107 (n : Int) (w : World) :
    Calls Tryz.prog 107 #[.int .i64 n] w fun e w' => e = .returned (.bool (badMade n)) ∧ Below w.heap.size w w' := by
  unfold badMade
  by_cases h : n < 0
  · go_enter Tryz.func107, Tryz.ntmps107
    go_wp2_with fail
    go_ret
    exact ⟨by simp [h], bel _ _⟩
  · go_enter Tryz.func107, Tryz.ntmps107
    go_wp2_with fail
    go_ret
    exact ⟨by simp; omega, bel _ _⟩
theorem cont106 (made : List Int) (v : Value) (w : World) (h : RowAt w 1 v (made.map intCells)) (hlen : made.length ≤ 1000000000) :
    Calls Tryz.prog 106 #[v, .func (.func 107) #[] #[]] w fun e w' => e = .returned (.bool (made.any badMade)) ∧ Below w.heap.size w w' := by
  have hv := h.one
  have hc : ∀ w', Below w.heap.size w w' → Calls Tryz.prog 145 #[v, .func (.func 107) #[] #[]] w' fun e w'' => e = .returned (.int .i64 (idxM badMade made)) ∧ Below w'.heap.size w' w'' :=
    fun w' hb => index145 made v badMade w' (h.below hb (Nat.le_refl _)) hlen (fun z ww _ _ => mm107 z ww)
  have ha := idxM_any badMade made
  generalize made.any badMade = A at ha ⊢
  subst ha
  generalize idxM badMade made = R at hc ⊢
  clear h
  go_enter Tryz.func106, Tryz.ntmps106
  go_wp2_with (go_at_call 145; refine (hc _ (bel _ _)).mono ?_; rintro e w' ⟨rfl, hb⟩; obtain ⟨p, rfl⟩ := hb.rest; clear hb)
  go_ret
  exact ⟨by first | rfl | simp_all, bel _ _⟩
def mayMadeM (made : List Int) : Bool := !(decide (made.length < 1) || decide (8 < made.length)) && !made.any badMade
theorem mayMade62 (b : Nat) (S : PSt) (w : World) (h : SP w b S) (hwf : S.wf) :
    Calls Tryz.prog 62 #[.pointer (some ⟨b, 0, none⟩)] w fun e w' => e = .returned (.bool (mayMadeM S.made)) ∧ Below w.heap.size w w' := by
  obtain ⟨hl, iv, ov, mv, c0, c1, c2, hr⟩ := h
  have ib : BlockLt b w := ⟨hl⟩
  have hlen := hwf.2.2.1
  have hc : ∀ w', Below w.heap.size w w' → Calls Tryz.prog 106 #[mv, .func (.func 107) #[] #[]] w' fun e w'' => e = .returned (.bool (S.made.any badMade)) ∧ Below w'.heap.size w' w'' :=
    fun w' hb => cont106 S.made mv w' (hr.2.1.below hb (Nat.le_refl _)) hlen
  unfold mayMadeM
  obtain ⟨a, cap, rfl, _, _⟩ := hr.2.1
  rw [List.length_map] at hc c2
  clear hr hwf
  generalize S.made.any badMade = A at hc ⊢
  by_cases h1 : S.made.length < 1
  · have h1' : (S.made.length : Int) < 1 := by omega
    go_enter Tryz.func62, Tryz.ntmps62
    go_wp2_with fail
    go_ret
    exact ⟨by simp [h1], bel _ _⟩
  · have h1' : ¬ (S.made.length : Int) < 1 := by omega
    by_cases h2 : 8 < S.made.length
    · have h2' : (8 : Int) < S.made.length := by omega
      go_enter Tryz.func62, Tryz.ntmps62
      go_wp2_with fail
      go_ret
      exact ⟨by simp [h2], bel _ _⟩
    · have h2' : ¬ (8 : Int) < S.made.length := by omega
      go_enter Tryz.func62, Tryz.ntmps62
      go_wp2_with (go_at_call 106; refine (hc _ (bel _ _)).mono ?_; rintro e w' ⟨rfl, hb⟩; obtain ⟨p, rfl⟩ := hb.rest; clear hb)
      go_ret
      exact ⟨by simp [h1, h2], bel _ _⟩
def coreM (n : Int) : Int := if n < 2 then -1 else (n - 2) % 8
theorem core146 (n : Int) (h : I64 n) (w : World) :
    Calls Tryz.prog 146 #[.int .i64 n] w fun e w' => e = .returned (.int .i64 (coreM n)) ∧ Below w.heap.size w w' := by
  unfold I64 at h
  unfold coreM
  by_cases h1 : n < 2
  · go_enter Tryz.func146, Tryz.ntmps146
    go_wp2_with fail
    go_ret
    exact ⟨by simp [h1], bel _ _⟩
  · have e1 : wrap64 (n - 2) = n - 2 := by simp only [wrap64]; omega
    have e2 : (n - 2).tmod 8 = (n - 2) % 8 := Int.tmod_eq_emod_of_nonneg (by omega)
    have e3 : wrap64 ((n - 2) % 8) = (n - 2) % 8 := by simp only [wrap64]; omega
    rw [if_neg h1]
    generalize hR : (n - 2) % 8 = R at *
    have HR := Lib.hid hR
    clear hR
    go_enter Tryz.func146, Tryz.ntmps146
    go_wp2_with fail
    go_ret
    exact ⟨by simp_all, bel _ _⟩
theorem made147 (n : Int) (h : I64 n) (h2 : 2 ≤ n) (w : World) :
    Calls Tryz.prog 147 #[.int .i64 n] w fun e w' => e = .returned (.int .i64 ((n - 2) / 8)) ∧ Below w.heap.size w w' := by
  unfold I64 at h
  have e1 : wrap64 (n - 2) = n - 2 := by simp only [wrap64]; omega
  have e2 : (n - 2).tdiv 8 = (n - 2) / 8 := Int.tdiv_eq_ediv_of_nonneg (by omega)
  have e3 : wrap64 ((n - 2) / 8) = (n - 2) / 8 := by simp only [wrap64]; omega
  generalize hR : (n - 2) / 8 = R at *
  have HR := Lib.hid hR
  clear hR
  go_enter Tryz.func147, Tryz.ntmps147
  go_wp2_with fail
  go_ret
  exact ⟨by simp_all, bel _ _⟩
def mayNumM (made : List Int) (n : Int) : Bool := if n < 2 then false else match made[((n - 2) % 8).toNat]? with | some m => decide ((n - 2) / 8 < m) | none => false
theorem mayNum108 (b : Nat) (S : PSt) (n : Int) (w : World) (h : SP w b S) (hwf : S.wf) (hn : I64 n) :
    Calls Tryz.prog 108 #[.pointer (some ⟨b, 0, none⟩), .int .i64 n] w fun e w' => e = .returned (.bool (mayNumM S.made n)) ∧ Below w.heap.size w w' := by
  obtain ⟨hl, iv, ov, mv, c0, c1, c2, hr⟩ := h
  have ib : BlockLt b w := ⟨hl⟩
  have hlen := hwf.2.2.1
  have hco : ∀ w, Calls Tryz.prog 146 #[.int .i64 n] w _ := fun w => core146 n hn w
  obtain ⟨a, cap, rfl, hat⟩ := hr.2.1.at_
  have HA := Lib.hid hat
  rw [List.length_map] at c2
  clear hr hwf hat
  unfold mayNumM
  by_cases h1 : n < 2
  · have hcv : coreM n = -1 := by simp [coreM, h1]
    rw [hcv] at hco
    rw [if_pos h1]
    go_enter Tryz.func108, Tryz.ntmps108
    go_wp2_with ((go_at_call 146; refine (hco _).mono ?_; rintro e w' ⟨rfl, hb⟩; obtain ⟨p, rfl⟩ := hb.rest; clear hb))
    refine wp_region_quiet_rest (by kernel_rfl) (by kernel_rfl) (WQ.out ?_)
    repeat
      refine WQ_step (fun K hK => ?_)
      go_simp
      first
        | (refine hK _ ?_; clear hK K)
        | (apply Exists.intro
           refine ⟨fun _ => ?_, hK _ ?_⟩
           focus (fail)
           clear hK K)
    refine WQ_nil ?_
    intro w1 hw1
    obtain ⟨p, hw1⟩ := hw1
    subst hw1
    go_wp2_with fail
    go_ret
    exact ⟨rfl, bel _ _⟩
  · have hma : ∀ w, Calls Tryz.prog 147 #[.int .i64 n] w _ := fun w => made147 n hn (by omega) w
    have hcv : coreM n = (n - 2) % 8 := by simp [coreM, h1]
    obtain ⟨q, hq⟩ : ∃ q : Nat, (n - 2) % 8 = q := ⟨((n - 2) % 8).toNat, by omega⟩
    rw [if_neg h1, hq, Int.toNat_natCast]
    rw [hcv, hq] at hco
    generalize (n - 2) / 8 = k at hma ⊢
    have HQ := Lib.hid hq
    clear hq hcv
    by_cases h2 : q < S.made.length
    · obtain ⟨m, hm⟩ : ∃ m, S.made[q]? = some m := ⟨_, List.getElem?_eq_getElem h2⟩
      rw [hm]
      obtain ⟨b1, off, rfl, iG0, -, hc⟩ := HA.out w (bel _ _) q (intCells m) (by rw [List.getElem?_map, hm]; rfl)
      have c3 := hc 0 _ rfl
      rw [Nat.mul_one, Nat.add_zero] at c3
      have h2I : (q : Int) < S.made.length := by omega
      have HM := Lib.hid hm
      clear hm hc
      go_enter Tryz.func108, Tryz.ntmps108
      go_wp2_with ((go_at_call 146; refine (hco _).mono ?_; rintro e w' ⟨rfl, hb⟩; obtain ⟨p, rfl⟩ := hb.rest; clear hb))
      refine wp_region_quiet_rest (by kernel_rfl) (by kernel_rfl) (WQ.out ?_)
      repeat
        refine WQ_step (fun K hK => ?_)
        go_simp
        first
          | (refine hK _ ?_; clear hK K)
          | (apply Exists.intro
             refine ⟨fun _ => ?_, hK _ ?_⟩
             focus ((refine calls_in (hma _) (fun w' hb => ?_); first | exact hb.rest | exact rest1 hb | exact rest2 hb))
             clear hK K)
      refine WQ_nil ?_
      intro w1 hw1
      obtain ⟨p, hw1⟩ := hw1
      subst hw1
      go_wp2_with fail
      go_ret
      exact ⟨by first | rfl | simp_all, bel _ _⟩
    · have h2I : ¬ (q : Int) < S.made.length := by omega
      rw [List.getElem?_eq_none (by omega)]
      go_enter Tryz.func108, Tryz.ntmps108
      go_wp2_with ((go_at_call 146; refine (hco _).mono ?_; rintro e w' ⟨rfl, hb⟩; obtain ⟨p, rfl⟩ := hb.rest; clear hb))
      refine wp_region_quiet_rest (by kernel_rfl) (by kernel_rfl) (WQ.out ?_)
      repeat
        refine WQ_step (fun K hK => ?_)
        go_simp
        first
          | (refine hK _ ?_; clear hK K)
          | (apply Exists.intro
             refine ⟨fun _ => ?_, hK _ ?_⟩
             focus (fail)
             clear hK K)
      refine WQ_nil ?_
      intro w1 hw1
      obtain ⟨p, hw1⟩ := hw1
      subst hw1
      go_wp2_with fail
      go_ret
      exact ⟨by first | rfl | simp_all, bel _ _⟩
end Go.Proofs.YtjkenolgkkknaaaGreatDoor
