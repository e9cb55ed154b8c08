/- path.Parse of whatever string. Conditions: none. -/
import Derived.Test.YtmkapobnfigedaaGreatDoorEl03
set_option linter.unusedVariables false
namespace Go
def World.itTo (w : World) (b : Nat) (s : ByteArray) (pos : Nat) : World := { w with heap := w.heap.setIfInBounds b (.stringIter s pos) }
theorem run_next_str {P : Program} (w : World) (b : Nat) (s : ByteArray) (pos : Nat) (ty : TypeId) (hb : w.heap[b]? = some (.stringIter s pos)) (h : pos < s.size) :
 (Instr.next (.pointer (some ⟨b, 0, none⟩)) true ty).run P w = .ok (.tuple #[.bool true, .int .i64 pos, .int .i32 (Utf8.decode s pos).1]) (w.itTo b s (pos + (Utf8.decode s pos).2)) := by
 simp only [Instr.next, getObj, setObj, Sem.run_bind, Sem.run, hb, Result.andThen, h, if_true]
 simp [goInt, World.itTo]
theorem run_next_over {P : Program} (w : World) (b : Nat) (s : ByteArray) (pos : Nat) (ty : TypeId) (hb : w.heap[b]? = some (.stringIter s pos)) (h : ¬ pos < s.size) :
 (Instr.next (.pointer (some ⟨b, 0, none⟩)) true ty).run P w = .ok (.tuple #[.bool false]) w := by
 simp [Instr.next, getObj, Sem.run, hb, h]
theorem World.itTo_at {w : World} {b : Nat} {s s' : ByteArray} {p : Nat} (hb : w.heap[b]? = some (.stringIter s' p)) (pos : Nat) : (w.itTo b s pos).heap[b]? = some (.stringIter s pos) := by
 have := (Array.getElem?_eq_some_iff.1 hb).1
 simp [World.itTo, this]
@[go_sem, simp] theorem World.itTo_size (w : World) (b : Nat) (s : ByteArray) (p : Nat) : (w.itTo b s p).heap.size = w.heap.size := by simp [World.itTo]
instance {w : World} {n b p : Nat} {s : ByteArray} [h : SizeIs w n] : SizeIs (w.itTo b s p) n := ⟨by simp [h.eq]⟩
instance {w : World} {k b p : Nat} {s : ByteArray} [h : BlockLt k w] : BlockLt k (w.itTo b s p) := ⟨by simpa using h.lt⟩
theorem Keep.itTo {S : Nat → Prop} {a w : World} (h : Keep S a w) {b : Nat} (hb : S b) (s : ByteArray) (p : Nat) : Keep S a (w.itTo b s p) :=
 ⟨h.os, h.tape, h.output, by simpa using h.size, fun i hi hn => by
  rw [← h.block i hi hn]; simp only [World.itTo]; rw [Array.getElem?_setIfInBounds_ne]; rintro rfl; exact hn hb⟩
end Go
namespace Go.Proofs.YtmkapobnfigedaaGreatDoor
open Go.RowKit
theorem iterPos_at {w : World} {b : Nat} {s : ByteArray} {p : Nat} (h : w.heap[b]? = some (.stringIter s p)) : w.iterPos b = p := by simp [World.iterPos, h]
def finM (R : Int × List ByteArray) : Int × List ByteArray := if R.1 = 0 ∧ 4 < R.2.length then (1102, []) else R
def Parsed (w : World) (F : Int × List ByteArray) (e : Ending) (w' : World) : Prop := ∃ v, e = .returned (.tuple #[v, .int .i64 F.1]) ∧ Below w.heap.size w w' ∧ w'.ownsRow 0 9 1 v F.2.length (F.2.map .string) ∧ ∀ b, v.ownBlock = some b → w.heap.size ≤ b
theorem Parsed.nil {w w' : World} {c : Int} (hb : Below w.heap.size w w') : Parsed w (c, []) (.returned (.tuple #[.slice none 0 0, .int .i64 c])) w' := ⟨_, rfl, hb, ⟨rfl, .inl ⟨rfl, rfl⟩⟩, by simp [Value.ownBlock]⟩
theorem info9 : (Tryz.prog.info? 9).map (fun i => (i.zero, i.size, i.bytes)) = some (some (.string ByteArray.empty), 1, 16) := by kernel_rfl
def parseFrom (s t : ByteArray) : Nat → Nat → Nat → List ByteArray → Int × List ByteArray
 | 0, _, _, acc => (0, acc)
 | b + 1, pos, fr, acc => if pos < t.size then
  if (((pos : Int) == 0) || !(((Utf8.decode t pos).1 : Int) == 47)) = true then parseFrom s t b (pos + (Utf8.decode t pos).2) fr acc
  else if checkM (s.extract fr pos) = 0 then parseFrom s t b (pos + (Utf8.decode t pos).2) (pos + 1) (acc ++ [s.extract fr pos])
  else if checkM (s.extract fr pos) = 801 then (1101, []) else (1100, [])
   else (0, acc)
theorem parseFrom_end (s t : ByteArray) (b pos fr : Nat) (acc : List ByteArray) (h : ¬ pos < t.size) : parseFrom s t b pos fr acc = (0, acc) := by
 cases b with
 | zero => rfl
 | succ b => simp [parseFrom, h]
def parseM (s : ByteArray) : Int × List ByteArray :=
 if 64 < s.size then (1101, [])
 else if h : 0 < s.size then
  if (((s[0]'h).toNat : Int) == 47) = false then (1100, [])
  else if s.size = 1 then (0, [])
  else
   let r := parseFrom s (s ++ ⟨#[47]⟩) (s ++ ⟨#[47]⟩ : ByteArray).size 0 1 []
   if r.1 = 0 ∧ 4 < r.2.length then (1102, []) else r
 else (1100, [])
structure ParseAt (w : World) (s t : ByteArray) (R : Int × List ByteArray) (pos fr : Nat) (acc : List ByteArray) (v : Value) (wr : World) : Prop where
 bel : Below w.heap.size w wr
 it : wr.heap[w.heap.size]? = some (.stringIter t pos)
 own : wr.ownsRow 0 9 1 v acc.length (acc.map .string)
 loc : ∀ b, v.ownBlock = some b → w.heap.size < b
 rest : ∃ b, parseFrom s t b pos fr acc = R ∧ t.size ≤ pos + b
 fr : fr ≤ pos ∨ (pos = 0 ∧ fr = 1)
 len : acc.length ≤ pos
set_option maxRecDepth 100000 in
set_option maxHeartbeats 2000000 in
theorem parse_loop (s : ByteArray) (w : World) (h64 : ¬ 64 < s.size) (i2 : s.toList.isEmpty = false) (h0 : 0 < s.size) (hc : (((s[0]'h0).toNat : Int) == 47) = true) (h1 : ¬ s.size = 1) (R : Int × List ByteArray) (hR : parseFrom s (s ++ ⟨#[47]⟩) (s ++ ⟨#[47]⟩ : ByteArray).size 0 1 [] = R) :
 Calls Tryz.prog 153 #[.string s] w (Parsed w (finM R)) := by
 obtain ⟨F, hF⟩ : ∃ F, finM R = F := ⟨_, rfl⟩
 rw [hF]
 have HF := Lib.hid hF
 clear hF
 have i64 : ¬ (64 : Int) < s.size := by omega
 have i3 : (((s[0]'h0).toNat : Int) != 47) = false := by simp [bne, hc]
 have i4 : ((s.size : Int) == 1) = false := beq_eq_false_iff_ne.2 (by omega)
 have ht : (s ++ ⟨#[47]⟩ : ByteArray).size = s.size + 1 := by simp [ByteArray.size_append]; rfl
 go_enter Tryz.func153, Tryz.ntmps153
 go_wp2_with fail
 generalize hT : (s ++ ⟨#[47]⟩ : ByteArray) = t at ht hR
 go_loopw [4, 5] (fun v f wr => ∃ (pos fr : Nat) (acc : List ByteArray), f = .int .i64 fr ∧ ParseAt w s t R pos fr acc v wr) (fun _ _ wr => t.size - wr.iterPos w.heap.size)
 case atStart => exact ⟨0, 1, [], rfl, (Below.refl _ w).alloc (Nat.le_refl _) _, World.iter_heap w t 0, ⟨rfl, .inl ⟨rfl, rfl⟩⟩, by simp [Value.ownBlock], ⟨t.size, hR, by omega⟩, .inr ⟨rfl, rfl⟩, by simp⟩
 case round =>
  obtain ⟨pos, fr, acc, rfl, h⟩ := hrel; have H := Lib.hid h; obtain ⟨a0, cp0, rfl⟩ := own_form h.own; have hit := h.it; by_cases hp : pos < t.size
  · have hnx : ∀ ty, (Instr.next (.pointer (some ⟨w.heap.size, 0, none⟩)) true ty).run Tryz.prog wr = _ := fun ty => run_next_str wr w.heap.size t pos ty hit hp
    have hwd := width_pos t pos hp; obtain ⟨b, hb, hbp⟩ := h.rest; obtain ⟨b', rfl⟩ : ∃ b', b = b' + 1 := ⟨b - 1, by omega⟩
    have hps : pos ≤ s.size := by omega
    have hpsI : (pos : Int) ≤ s.size := by omega
    have hlen := h.len; have hsz := h.bel.size; have hfr := h.fr; have hlt0 : w.heap.size < wr.heap.size := (Array.getElem?_eq_some_iff.1 hit).1; have hbi : Below w.heap.size w (wr.itTo w.heap.size t (pos + (Utf8.decode t pos).2)) := h.bel.trans (((Keep.refl (fun k => k = w.heap.size) wr).itTo rfl t _).below hsz (fun i hi e => by omega)); have hiti := World.itTo_at (s := t) hit (pos + (Utf8.decode t pos).2); have howni := ((Keep.refl (fun k => k = w.heap.size) wr).itTo rfl t (pos + (Utf8.decode t pos).2)).own h.own (fun k hk e => by have := h.loc k hk; omega); have hloc := h.loc; have HB := Lib.hid hb; have HI := Lib.hid (And.intro hbi (And.intro hiti (And.intro howni hloc))); clear hb h hit hbi hiti howni hloc; generalize hw2 : wr.itTo w.heap.size t (pos + (Utf8.decode t pos).2) = wi at hnx HI; have HSZ := Lib.hid (show wi.heap.size = wr.heap.size by rw [← hw2]; simp); generalize hrd : (Utf8.decode t pos).1 = r at hnx; by_cases hsk : (((pos : Int) == 0) || !((r : Int) == 47)) = true
    · have hgo : parseFrom s t b' (pos + (Utf8.decode t pos).2) fr acc = R := by
       have := HB.out; rw [parseFrom, if_pos hp, hrd, if_pos hsk] at this; exact this
      have hnew : ParseAt w s t R (pos + (Utf8.decode t pos).2) fr acc (.slice a0 acc.length cp0) wi := ⟨HI.out.1, HI.out.2.1, HI.out.2.2.1, HI.out.2.2.2, ⟨b', hgo, by omega⟩, .inl (by omega), by omega⟩
      rcases k1 : ((pos : Int) == 0) with _ | _
      · rcases k2 : ((r : Int) == 47) with _ | _
        · have k2' : ((r : Int) != 47) = true := by simp [bne, k2]
          go_wp2_with fail
          go_roundw
          case rel => exact ⟨_, fr, acc, rfl, hnew⟩
          case measure => rw [iterPos_at HI.out.2.1, iterPos_at H.out.it]; omega
        · rw [k1, k2] at hsk; cases hsk
      · go_wp2_with fail
        go_roundw
        case rel => exact ⟨_, fr, acc, rfl, hnew⟩
        case measure => rw [iterPos_at HI.out.2.1, iterPos_at H.out.it]; omega
    · have k1 : ((pos : Int) == 0) = false := by
       rcases h : ((pos : Int) == 0) with _ | _
       · rfl
       · rw [h] at hsk; exact absurd rfl hsk
      have k2 : ((r : Int) == 47) = true := by
       rcases h : ((r : Int) == 47) with _ | _
       · rw [h, k1] at hsk; exact absurd rfl hsk
       · rfl
      have k2' : ((r : Int) != 47) = false := by simp [bne, k2]
      have hp0 : 0 < pos := by
       rcases Nat.eq_zero_or_pos pos with h | h
       · subst h; cases k1
       · exact h
      have hfp : fr ≤ pos := by omega
      have hfpI : (fr : Int) ≤ pos := by omega
      have hrec := HB.out; rw [parseFrom, if_pos hp, hrd, if_neg hsk] at hrec; generalize hpc : s.extract fr pos = pc at hrec; by_cases c0 : checkM pc = 0
      · rw [if_pos c0] at hrec; have HC := Lib.hid hrec; clear hrec; have hck : ∀ ww, Calls Tryz.prog 168 #[.string pc] ww fun e w' => e = .returned (.int .i64 0) ∧ Below ww.heap.size ww w' := fun ww => by rw [← c0]; exact check165 pc ww
        obtain ⟨j0, ji, jz0, jz1, jz2⟩ := info_parts info9
        go_upto_region 18 with (go_at_call 168; refine (hck _).mono ?_; rintro e w' ⟨rfl, hb⟩; obtain ⟨p, rfl⟩ := hb.rest; clear hb)
        have hownP := ((Keep.refl (fun _ => False) wi).junk p).own HI.out.2.2.1 (fun _ _ e => e); have haI : acc.length ≤ 65 := by omega
        go_wp2_with (at_builtin; refine wpList_append_own_at _ rfl (.tmp 46) (.tmp 51) 50 rfl 0 9 j0 _ 1 16 Tryz.underlying50 ji jz0 jz1 jz2 rfl (by decide) (.slice a0 acc.length cp0) acc.length _ rfl (hownP.alloc _) ⟨_, 0, none⟩ 1 1 [.string pc] rfl rfl (fun j' u hu => news_new _ [.string pc] 9 _ j' u hu) (by simp [Value.oneCell']) (by unfold maxLen; omega) (by omega) (Nat.zero_le _) ?_)
        intro v' w1 hown1 hgrow _ hloc; have HX := Lib.hid (And.intro hown1 (And.intro hgrow hloc)); clear hown1 hgrow hloc; go_wp2_with fail
        go_roundw
        case rel =>
         obtain ⟨hown1, hgrow, hloc⟩ := HX.out; obtain ⟨hbi, hiti, howni, hlo⟩ := HI.out; have hlti : w.heap.size < wi.heap.size := (Array.getElem?_eq_some_iff.1 hiti).1; have hW : Below w.heap.size w ((wi.junk p).alloc (.cells #[.string pc] 9)) := (below_junk _ _ _ p hbi hbi.size).alloc (below_junk _ _ _ p hbi hbi.size).size _; have hitW : ((wi.junk p).alloc (.cells #[.string pc] 9)).heap[w.heap.size]? = some (.stringIter t (pos + (Utf8.decode t pos).2)) := by
          have h1 := (Keep.refl (fun _ => False) wi).junk p |>.alloc (.cells #[.string pc] 9); rw [h1.block w.heap.size (by omega) (fun e => e), hiti]
         refine ⟨_, pos + 1, acc ++ [pc], rfl, hW.trans (((Keep.refl (fun b => (Value.slice a0 acc.length cp0).ownBlock = some b) _).grown hgrow (fun b hb => .inl hb)).below (by simp; omega) (fun x hx h => by have := hlo x h; omega)), ?_, by simpa using hown1, fun b hb => ?_, ⟨b', HC.out, by omega⟩, .inl (by omega), by simp; omega⟩
         · rw [hgrow.block w.heap.size (by simp; omega) (fun e => by have := hlo _ e.symm; omega)]; exact hitW
         · rcases hloc with h | h
           · exact hlo b (h.symm.trans hb)
           · rw [h] at hb; injection hb with hb; omega
        case measure =>
         obtain ⟨hown1, hgrow, hloc⟩ := HX.out; obtain ⟨hbi, hiti, howni, hlo⟩ := HI.out; have hlti : w.heap.size < wi.heap.size := (Array.getElem?_eq_some_iff.1 hiti).1; have h1 := (Keep.refl (fun _ => False) wi).junk p |>.alloc (.cells #[.string pc] 9); have h2 : w1.heap[w.heap.size]? = some (.stringIter t (pos + (Utf8.decode t pos).2)) := by
          rw [hgrow.block w.heap.size (by simp; omega) (fun e => by have := hlo _ e.symm; omega), h1.block w.heap.size (by omega) (fun e => e), hiti]
         rw [iterPos_at h2, iterPos_at H.out.it]; omega
      · rw [if_neg c0] at hrec; have hck : ∀ ww, Calls Tryz.prog 168 #[.string pc] ww fun e w' => e = .returned (.int .i64 (checkM pc)) ∧ Below ww.heap.size ww w' := fun ww => check165 pc ww
        have n0 : (checkM pc == 0) = false := beq_eq_false_iff_ne.2 c0; by_cases c8 : checkM pc = 801
        · rw [if_pos c8] at hrec; have hFe : F = (1101, []) := by have := HF.out; rw [← this, ← hrec]; rfl
          rw [c8] at hck; clear hrec; go_wp2_with (go_at_call 168; refine (hck _).mono ?_; rintro e w' ⟨rfl, hb⟩; obtain ⟨p, rfl⟩ := hb.rest; clear hb)
          refine bodyPost_ret (v := .tuple #[.slice none 0 0, .int .i64 1101]) (by simp [results, Tryz.results153, go_sem]) rfl ?_; rw [hFe]; exact Parsed.nil (below_junk _ _ _ _ HI.out.1 HI.out.1.size)
        · rw [if_neg c8] at hrec; have n8 : (checkM pc == 801) = false := beq_eq_false_iff_ne.2 c8; have hFe : F = (1100, []) := by have := HF.out; rw [← this, ← hrec]; rfl
          clear hrec; generalize checkM pc = c at hck n0 n8; go_wp2_with (go_at_call 168; refine (hck _).mono ?_; rintro e w' ⟨rfl, hb⟩; obtain ⟨p, rfl⟩ := hb.rest; clear hb)
          refine bodyPost_ret (v := .tuple #[.slice none 0 0, .int .i64 1100]) (by simp [results, Tryz.results153, go_sem]) rfl ?_; rw [hFe]; exact Parsed.nil (below_junk _ _ _ _ HI.out.1 HI.out.1.size)
  · have hnx : ∀ ty, (Instr.next (.pointer (some ⟨w.heap.size, 0, none⟩)) true ty).run Tryz.prog wr = _ := fun ty => run_next_over wr w.heap.size t pos ty hit hp
    by_cases hl : 4 < acc.length
    · have hlI : (4 : Int) < acc.length := by omega
      clear h hit; have hR2 : R = (0, acc) := by
       obtain ⟨b, hb, _⟩ := H.out.rest; rw [parseFrom_end s t b pos fr acc hp] at hb; exact hb.symm
      have hFe : F = (1102, []) := by have := HF.out; rw [← this, hR2]; simp [finM, hl]
      clear hR2; go_wp2_with fail; refine bodyPost_ret (v := .tuple #[.slice none 0 0, .int .i64 1102]) (by simp [results, Tryz.results153, go_sem]) rfl ?_; rw [hFe]; exact Parsed.nil H.out.bel
    · have hlI : ¬ (4 : Int) < acc.length := by omega
      clear h hit; have hR2 : R = (0, acc) := by
       obtain ⟨b, hb, _⟩ := H.out.rest; rw [parseFrom_end s t b pos fr acc hp] at hb; exact hb.symm
      have hFe : F = (0, acc) := by have := HF.out; rw [← this, hR2]; simp [finM, hl]
      clear hR2; go_wp2_with fail; refine bodyPost_ret (v := .tuple #[.slice a0 acc.length cp0, .int .i64 0]) (by simp [results, Tryz.results153, go_sem]) rfl ?_
      try rw [hFe]
      exact ⟨_, rfl, H.out.bel, H.out.own, fun b hb => Nat.le_of_lt (H.out.loc b hb)⟩
theorem size_pos (s : ByteArray) (h : s.toList.isEmpty = false) : 0 < s.size := by
 rw [ByteArray.toList_eq] at h
 rcases Nat.eq_zero_or_pos s.size with h0 | h0
 · have : s.data.toList.length = 0 := by rw [Array.length_toList]; exact h0
   rw [List.length_eq_zero_iff] at this; rw [this] at h; cases h
 · exact h0
theorem size_zero (s : ByteArray) (h : s.toList.isEmpty = true) : ¬ 0 < s.size := by
 rw [ByteArray.toList_eq] at h
 have h2 : s.data.toList = [] := by simpa using h
 have : s.data.toList.length = 0 := by rw [h2]; rfl
 rw [Array.length_toList] at this
 have e : s.size = s.data.size := rfl
 omega
set_option maxRecDepth 100000 in
theorem parse136 (s : ByteArray) (w : World) : Calls Tryz.prog 153 #[.string s] w (Parsed w (parseM s)) := by
 by_cases h64 : 64 < s.size
 · have i64 : (64 : Int) < s.size := by omega
   have hM : parseM s = (1101, []) := by simp [parseM, h64]
   rw [hM]
   go_enter Tryz.func153, Tryz.ntmps153
   go_wp2_with fail; exact bodyPost_ret (v := .tuple #[.slice none 0 0, .int .i64 1101]) (by simp [results, Tryz.results153, go_sem]) rfl (Parsed.nil (bel _ _))
 have i64 : ¬ (64 : Int) < s.size := by omega
 rcases he : s.toList.isEmpty with _ | _
 · have h0 := size_pos s he; rcases hc : (((s[0]'h0).toNat : Int) == 47) with _ | _
   · have i3 : (((s[0]'h0).toNat : Int) != 47) = true := by simp [bne, hc]
     have hM : parseM s = (1100, []) := by simp only [parseM, if_neg h64, dif_pos h0, hc]; rfl
     rw [hM]
     go_enter Tryz.func153, Tryz.ntmps153
     go_wp2_with fail; exact bodyPost_ret (v := .tuple #[.slice none 0 0, .int .i64 1100]) (by simp [results, Tryz.results153, go_sem]) rfl (Parsed.nil (bel _ _))
   · by_cases h1 : s.size = 1
     · have i3 : (((s[0]'h0).toNat : Int) != 47) = false := by simp [bne, hc]
       have i4 : ((s.size : Int) == 1) = true := beq_iff_eq.2 (by omega); have hM : parseM s = (0, []) := by simp only [parseM, if_neg h64, dif_pos h0, hc, if_pos h1]; rfl
       rw [hM]; clear h1
       go_enter Tryz.func153, Tryz.ntmps153
       go_wp2_with fail; exact bodyPost_ret (v := .tuple #[.slice none 0 0, .int .i64 0]) (by simp [results, Tryz.results153, go_sem]) rfl (Parsed.nil (bel _ _))
     · have hM : parseM s = finM (parseFrom s (s ++ ⟨#[47]⟩) (s ++ ⟨#[47]⟩ : ByteArray).size 0 1 []) := by simp only [parseM, if_neg h64, dif_pos h0, hc, if_neg h1]; rfl
       rw [hM]; exact parse_loop s w h64 he h0 hc h1 _ rfl
 · have h0 := size_zero s he; have hM : parseM s = (1100, []) := by simp only [parseM, if_neg h64, dif_neg h0]
   rw [hM]
   go_enter Tryz.func153, Tryz.ntmps153
   go_wp2_with fail; exact bodyPost_ret (v := .tuple #[.slice none 0 0, .int .i64 1100]) (by simp [results, Tryz.results153, go_sem]) rfl (Parsed.nil (bel _ _))
end Go.Proofs.YtmkapobnfigedaaGreatDoor
