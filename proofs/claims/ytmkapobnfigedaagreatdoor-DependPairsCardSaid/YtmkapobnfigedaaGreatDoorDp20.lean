/- Part of the proof of a law of chapter 15. Conditions: none. -/
import Derived.Test.YtmkapobnfigedaaGreatDoorDp17
import Derived.Test.YtmkapobnfigedaaGreatDoorDp18
import Derived.Lib.BufferWrite
import Derived.Lib.SlBytesRow
set_option linter.unusedVariables false
set_option linter.unusedSimpArgs false
set_option maxRecDepth 100000
set_option maxHeartbeats 8000000
namespace Go.Proofs.YtmkapobnfigedaaGreatDoor
open Go.RowKit
theorem info5' : (Tryz.prog.info? 5).map (fun i => (i.zero, i.size, i.bytes)) = some (some (.int .u8 0), 1, 1) := by kernel_rfl
theorem StOwn.setData {B : Nat} {w : World} {ov mv : Value} {S : PSt} {bi cap K : Nat} {x : PIn} (h : StOwn B w (.slice (some ⟨bi, 0, none⟩) S.ins.length cap) ov mv S) (hx : S.ins[K]? = some x) (d : ByteArray) :
 StOwn B (w.setCell ⟨bi, K * 4 + 3, none⟩ (.string d)) (.slice (some ⟨bi, 0, none⟩) S.ins.length cap) ov mv { S with ins := S.ins.set K { x with data := d } } ∧ B ≤ bi ∧ ∃ c, Blk w bi c 68 := by
 obtain ⟨h1, h2, is, h3, h4, h5, h6⟩ := h
 obtain ⟨hKl, _⟩ := gI.1 hx
 have hr : is[K]? = some is[K] := gE (by omega)
 obtain ⟨a1, a2, a3, a4⟩ := h5 K _ x hr hx
 rcases h3 with ⟨h0, _⟩ | ⟨g, cap', arr, heq, hgB, hgb, hnc, hcm, hsz, hri⟩
 · simp at h0
 simp only [Value.slice.injEq, Option.some.injEq, Addr.mk.injEq] at heq
 obtain ⟨⟨rfl, -, -⟩, hl, rfl⟩ := heq
 have hS : Keep (fun k => k = bi) w (w.setCell ⟨bi, K * 4 + 3, none⟩ (.string d)) := Keep.setCell (S := fun k => k = bi) (p := ⟨bi, K * 4 + 3, none⟩) (Keep.refl _ _) (.inl rfl) _
 have far : ∀ {e : TypeId} {k : Nat} {v : Value} {rows : List (List Value)}, OwnP B w e k v rows → e ≠ 68 → OwnP B (w.setCell ⟨bi, K * 4 + 3, none⟩ (.string d)) e k v rows := by
  intro e k v rows ho hee; exact ho.keep hS (fun g hg hh => ho.ne_blk hgb hee hg hh)
 have hil : K < is.length := by omega
 have hmset : (is.map IRec.cells).set K (is[K].cells.set 3 (.string d)) = (is.set K ⟨is[K].num, is[K].dir, is[K].ev, d, is[K].one⟩).map IRec.cells := by
  rw [List.map_set]; rfl
 have hKs : K * 4 + 3 < arr.size := by
  rw [lM] at hnc; omega
 refine ⟨⟨far h1 (by decide), far h2 (by decide), is.set K ⟨is[K].num, is[K].dir, is[K].ev, d, is[K].one⟩, .inr ⟨bi, cap, arr.setIfInBounds (K * 4 + 3) (.string d), ?_, hgB, hgb.set_ _ _, ?_, hcm, by rw [Array.size_setIfInBounds]; exact hsz, ?_⟩, ?_, ?_, ?_⟩, hgB, _, hgb⟩
 · rw [lM, List.length_set, h4]
 · rw [lM, List.length_set]; rw [lM] at hnc; exact hnc
 · rw [← hmset]; exact hri.set (irec_len _) (by rw [gM, hr]; rfl) (by decide) hKs _
 · show (is.set K _).length = (S.ins.set K _).length; rw [List.length_set, List.length_set, h4]
 · intro q r x' hq hx'; have hx' : (S.ins.set K { x with data := d })[q]? = some x' := hx'; by_cases e : K = q
   · subst e; rw [List.getElem?_set_self hil] at hq; rw [List.getElem?_set_self hKl] at hx'; cases hq; cases hx'; exact ⟨a1, a2, rfl, far a4 (by decide)⟩
   · rw [List.getElem?_set_ne e] at hq hx'; obtain ⟨b1, b2, b3, b4⟩ := h5 q r x' hq hx'; exact ⟨b1, b2, b3, far b4 (by decide)⟩
 · intro p q r r' hpq hp hq k hk; have old : ∀ (j : Nat) (rb : IRec), (is.set K ⟨is[K].num, is[K].dir, is[K].ev, d, is[K].one⟩)[j]? = some rb → ∃ ro, is[j]? = some ro ∧ ro.ev = rb.ev := by
    intro j rb hj; by_cases e : K = j
    · subst e; rw [List.getElem?_set_self hil] at hj; cases hj; exact ⟨_, hr, rfl⟩
    · rw [List.getElem?_set_ne e] at hj; exact ⟨rb, hj, rfl⟩
   obtain ⟨o1, p1, e1⟩ := old p r hp; obtain ⟨o2, p2, e2⟩ := old q r' hq; rw [← e1] at hk; rw [← e2]; exact h6 p q o1 o2 hpq p1 p2 k hk
def inM (x : Int) : Bool := decide (0 ≤ x) && decide (x ≤ 256)
theorem in126 (x : Int) (w : World) : Calls Tryz.prog 183 #[.int .i64 x] w fun e w' => e = .returned (.bool (inM x)) ∧ Below w.heap.size w w' := by
 unfold inM
 by_cases h : 0 ≤ x
 · have hb : decide (0 ≤ x) = true := decide_eq_true h
   go_enter Tryz.func183, Tryz.ntmps183
   go_wp2_with fail; go_ret; exact ⟨by first | rfl | simp [hb], bel _ _⟩
 · have hb : decide (0 ≤ x) = false := decide_eq_false h
   go_enter Tryz.func183, Tryz.ntmps183
   go_wp2_with fail; go_ret; exact ⟨by first | rfl | simp [hb], bel _ _⟩
def pieceM (s : ByteArray) (o n : Nat) : ByteArray := if s.size ≤ o then ⟨#[]⟩ else s.extract o (min s.size (o + n))
theorem piece127 (s : ByteArray) (o n : Nat) (w : World) (hs : s.size ≤ 1000000000) (ho : o ≤ 1000000000) (hn : n ≤ 1000000000) :
 Calls Tryz.prog 184 #[.string s, .int .i64 o, .int .i64 n] w fun e w' => e = .returned (.string (pieceM s o n)) ∧ Below w.heap.size w w' := by
 unfold pieceM
 by_cases h : s.size ≤ o
 · rw [if_pos h]; have hI : (s.size : Int) ≤ o := by omega
   go_enter Tryz.func184, Tryz.ntmps184
   go_wp2_with fail; go_ret; exact ⟨rfl, bel _ _⟩
 · rw [if_neg h]; have hI : ¬ (s.size : Int) ≤ o := by omega
   have e : (min (s.size : Int) ((o : Int) + n)).toNat = min s.size (o + n) := by omega
   go_enter Tryz.func184, Tryz.ntmps184
   go_wp2_with fail; go_ret; exact ⟨rfl, bel _ _⟩
def byteAr (l : List UInt8) : Array Value := (Lib.byteCells l).toArray
theorem byteAr_size (l : List UInt8) : (byteAr l).size = l.length := by unfold byteAr; simp [Lib.byteCells_length]
theorem mkN (n : Nat) (hn : n ≤ 1000000000) (u : World) : (Instr.makeSlice 147 (.int .i64 n) (.int .i64 n)).run Tryz.prog u = .ok (.slice (some ⟨u.heap.size, 0, none⟩) n n) (u.alloc (.cells (byteAr (List.replicate n 0)) 5)) := by
 obtain ⟨i, hi, hz, h1, h2⟩ := info_parts info5'
 have := run_make u (P := Tryz.prog) 147 5 i _ Tryz.underlying147 hi hz .i64 .i64 n n (by omega) (Int.le_refl _) (by rw [h2]; omega) (by omega)
 rw [h1] at this
 rw [this]
 have e : madeCells (Value.int IntKind.u8 0).cells ((n : Int).toNat * 1) = byteAr (List.replicate n 0) := by
  apply Array.toList_inj.1; have h3 : (Value.int IntKind.u8 0).cells = #[.int .u8 0] := rfl; rw [h3, toList_madeCells_one]; unfold byteAr Lib.byteCells; simp
 rw [e]
 rfl
theorem cpN (w : World) (ty : TypeId) (g o n cap : Nat) (l : List UInt8) (s : ByteArray) (h : Blk w g (byteAr l) 5) (hle : s.size ≤ n) (hfit : o + s.size ≤ l.length) :
 (Builtin.copy_ #[147, 9] ty #[.slice (some ⟨g, o, none⟩) n cap, .string s]).run Tryz.prog w = .ok (.int .i64 s.size) (w.setRow g (byteAr (l.take o ++ s.data.toList ++ l.drop (o + s.size)))) := by
 obtain ⟨i, hi, hz, h1, h2⟩ := info_parts info5'
 have := Lib.run_copy_row_string (P := Tryz.prog) w 147 9 ty 5 g o n cap s (byteAr l) 5 Tryz.underlying147 (by rw [hi]; simp [h1]) h hle (by rw [byteAr_size]; exact hfit)
 rw [this]
 have e : ((byteAr l).toList.take o ++ Lib.byteCells s.data.toList ++ (byteAr l).toList.drop (o + s.size)).toArray = byteAr (l.take o ++ s.data.toList ++ l.drop (o + s.size)) := by
  unfold byteAr Lib.byteCells; simp [List.map_take, List.map_drop]
 rw [e]
 rfl
theorem cvN (w : World) (g n cap : Nat) (l : List UInt8) (h : Blk w g (byteAr l) 5) (hn : l.length = n) : (convert 147 9 (.slice (some ⟨g, 0, none⟩) n cap)).run Tryz.prog w = .ok (.string ⟨l.toArray⟩) w := by
 have hs : (⟨l.toArray⟩ : ByteArray).size = n := by rw [← hn]; rfl
 have := Lib.run_convert_whole (P := Tryz.prog) w 147 5 9 Tryz.underlying147 Tryz.underlying5 Tryz.underlying9 g 0 ⟨l.toArray⟩ (fun i hi => by
  rw [h.cell, Nat.zero_add]; have hi2 : i < l.length := hi; unfold byteAr Lib.byteCells; simp [hi2]; rfl) cap
 rw [hs] at this
 exact this
theorem blk_setRow {w : World} {g : Nat} {a : Array Value} {t : TypeId} (h : Blk w g a t) (a' : Array Value) : Blk (w.setRow g a') g a' t := setRow_heap w g a a' t _ h
def layL (had : List UInt8) (off : Nat) (data : List UInt8) : List UInt8 :=
 (had ++ List.replicate (max had.length (off + data.length) - had.length) 0).take off ++ data ++ (had ++ List.replicate (max had.length (off + data.length) - had.length) 0).drop (off + data.length)
def layM (had : ByteArray) (off : Nat) (data : ByteArray) : ByteArray := if data.size = 0 then had else ⟨(layL had.data.toList off data.data.toList).toArray⟩
theorem below_row {B g : Nat} {w0 w : World} (hb : Below B w0 w) (hBg : B ≤ g) (cs : Array Value) : Below B w0 (w.setRow g cs) :=
 hb.trans ⟨rfl, rfl, rfl, by simp [World.setRow], fun k hk => setRow_other w g k cs (by omega)⟩
theorem str_list (s : ByteArray) : s.toList = s.data.toList := ByteArray.toList_eq s
theorem str_empty {s : ByteArray} (h : s.size = 0) : s.toList.isEmpty = true := by
 rw [str_list]
 rcases s with ⟨⟨l⟩⟩
 have : l = [] := List.eq_nil_of_length_eq_zero h
 subst this
 rfl
theorem str_some {s : ByteArray} (h : ¬ s.size = 0) : s.toList.isEmpty = false := by
 rw [str_list]
 rcases s with ⟨⟨l⟩⟩
 rcases l with _ | ⟨a, l⟩
 · exact absurd rfl h
 · rfl
theorem lay128 (had data : ByteArray) (off : Nat) (w : World) (hh : had.size ≤ 1000000) (hd : data.size ≤ 1000000) (ho : off ≤ 1000000) :
 Calls Tryz.prog 185 #[.string had, .int .i64 off, .string data] w fun e w' => e = .returned (.string (layM had off data)) ∧ Below w.heap.size w w' := by
 unfold layM
 by_cases h0 : data.size = 0
 · rw [if_pos h0]; have hem := str_empty h0
   go_enter Tryz.func185, Tryz.ntmps185
   go_wp2_with fail; go_ret; exact ⟨rfl, bel _ _⟩
 · rw [if_neg h0]; have hne : data.toList.isEmpty = false := str_some h0; obtain ⟨M, hM⟩ : ∃ M : Nat, (off : Int) + data.size = M := ⟨off + data.size, by omega⟩
   obtain ⟨N, hN⟩ : ∃ N : Nat, max (had.size : Int) (M : Int) = N := ⟨max had.size M, by omega⟩
   have hwM : IntKind.i64.wrap (M : Int) = M := I64.wrap ⟨by omega, by omega⟩; have hwM2 : wrap64 (M : Int) = M := by rw [← IntWalk.i64_left]; exact hwM
   have hmk := fun u => mkN N (by omega) u
   go_enter Tryz.func185, Tryz.ntmps185
   go_upto_region 4 with fail
   refine abs_world (F := fun W => Blk W w.heap.size (byteAr (List.replicate N 0)) 5 ∧ Below w.heap.size w W) ⟨Blk.new _ _ _, bel _ _⟩ ?_; obtain ⟨g, hg⟩ : ∃ g, w.heap.size = g := ⟨_, rfl⟩
   rw [hg]; rintro W ⟨hB, hbW⟩; have iG := hB.lt; have hds : data.data.toList.length = data.size := rfl; have hhs : had.data.toList.length = had.size := rfl; have hcp := fun ty => cpN W ty g 0 N N (List.replicate N 0) had hB (by omega) (by rw [List.length_replicate]; omega)
   obtain ⟨L1, hL1⟩ : ∃ L, (List.replicate N 0).take 0 ++ had.data.toList ++ (List.replicate N (0 : UInt8)).drop (0 + had.size) = L := ⟨_, rfl⟩
   rw [hL1] at hcp; have hlen1 : L1.length = N := by rw [← hL1]; simp [hhs]; omega
   have HW := Lib.hid (And.intro hB (And.intro hbW hL1)); have HG := Lib.hid hg; clear hB hbW hL1 hg hmk
   go_upto_region 5 with fail
   refine abs_world (F := fun W2 => Blk W2 g (byteAr L1) 5 ∧ Below g w W2) ⟨blk_setRow HW.out.1 _, below_row HW.out.2.1 (Nat.le_refl _) _⟩ ?_; clear hcp iG; rintro W2 ⟨hB2, hbW2⟩; have iG := hB2.lt; have hoN : off ≤ N := by omega
   have hcp := fun ty => cpN W2 ty g off (N - off) (N - off) L1 data hB2 (by omega) (by omega)
   obtain ⟨L2, hL2⟩ : ∃ L, L1.take off ++ data.data.toList ++ L1.drop (off + data.size) = L := ⟨_, rfl⟩
   rw [hL2] at hcp; have hlen2 : L2.length = N := by rw [← hL2]; simp [hds, hlen1]; omega
   have HW2 := Lib.hid (And.intro hB2 (And.intro hbW2 hL2)); clear hB2 hbW2 hL2
   go_upto_region 6 with fail
   refine abs_world (F := fun W3 => Blk W3 g (byteAr L2) 5 ∧ Below g w W3) ⟨blk_setRow HW2.out.1 _, below_row HW2.out.2.1 (Nat.le_refl _) _⟩ ?_; clear hcp iG; rintro W3 ⟨hB3, hbW3⟩; have iG := hB3.lt; have hcv := cvN W3 g N N L2 hB3 hlen2; have HW3 := Lib.hid (And.intro hB3 hbW3); have hfin : layL had.data.toList off data.data.toList = L2 := by
    have e1 := HW.out.2.2; have e2 := HW2.out.2.2; rw [← e2, ← e1]; unfold layL; have hNn : N = max had.size (off + data.size) := by omega
    simp only [List.take_zero, List.nil_append, Nat.zero_add, List.drop_replicate, hds, hhs, hNn]
   have HFI := Lib.hid hfin; clear hB3 hbW3 hfin; go_wp2_with fail; go_ret; exact ⟨by rw [HFI.out]; rfl, by rw [HG.out]; exact HW3.out.2⟩
def fileX (S : PSt) (c : PCall) : Option (Nat × PIn) := if idxM (isFd c) S.op < 0 then none else
 match S.op[(idxM (isFd c) S.op).toNat]? with
 | none => none
 | some y => match S.ins[(findN S.nums y.num).toNat]? with
   | none => none
   | some x => some ((findN S.nums y.num).toNat, x)
theorem fileX_at {S : PSt} {c : PCall} {K : Nat} {x : PIn} (h : fileX S c = some (K, x)) : S.ins[K]? = some x ∧ K < S.ins.length := by
 unfold fileX at h
 split at h
 · cases h
 · split at h
   · cases h
   · split at h
     · cases h
     · rename_i hx
       simp only [Option.some.injEq, Prod.mk.injEq] at h; obtain ⟨rfl, rfl⟩ := h; obtain ⟨hl, _⟩ := gI.1 hx; exact ⟨hx, hl⟩
def fileE (S : PSt) (c : PCall) (bi : Nat) (e : Ending) : Prop := match fileX S c with
 | none => e = thrown 4
 | some y => e = .returned (.tuple #[.pointer (some ⟨bi, y.1 * 4, none⟩), .int .i64 (idxM (isFd c) S.op)])
theorem file_x {w : World} {d b bi cap : Nat} {S : PSt} {c : PCall} (h : DR w d b S c) (hf : Fine S) (hc : w.cell? ⟨b, 0, none⟩ = some (.slice (some ⟨bi, 0, none⟩) S.ins.length cap)) :
 Calls Tryz.prog 143 #[.pointer (some ⟨d, 0, none⟩)] w fun e w' => Below w.heap.size w w' ∧ fileE S c bi e := by
 refine (file73 d b S c w h hf).mono ?_
 rintro e w' ⟨hb, ho⟩
 refine ⟨hb, ?_⟩
 unfold fileE fileX
 rcases ho with ⟨hi, y, bi', off, cap', hy, hc', rfl⟩ | ⟨hi, rfl⟩
 · rw [if_neg (by omega), hy]; rw [hc] at hc'; simp only [Option.some.injEq, Value.slice.injEq, Addr.mk.injEq] at hc'; obtain ⟨⟨rfl, rfl, -⟩, -, -⟩ := hc'; have h0 := hf.opens y (mG hy); have hb2 := findN_bounds S.nums y.num; have hnl : S.nums.length = S.ins.length := by unfold PSt.nums; rw [lM]
   have hlt : (findN S.nums y.num).toNat < S.ins.length := by omega
   simp only [gE hlt, Nat.zero_add]
 · rw [if_pos hi]
theorem DoAt.parts {B : Nat} {w : World} {d b : Nat} {S : PSt} {c : PCall} {r : PRes} (h : DoAt B w d b S c r) (h0 : 0 < S.ins.length) :
 ∃ bi cap ov mv nv, B ≤ b ∧ B ≤ d ∧ Blk w d (doCells b c r nv) 136 ∧ Blk w b #[.slice (some ⟨bi, 0, none⟩) S.ins.length cap, ov, mv] 26 ∧ StOwn B w (.slice (some ⟨bi, 0, none⟩) S.ins.length cap) ov mv S ∧ OwnP B w 9 1 nv (r.names.map strCells) := by
 obtain ⟨iv, ov, mv, nv, h1, h2, h3, h4, h5, h6⟩ := h
 obtain ⟨bi, cap, rfl⟩ := h5.ins_form h0
 exact ⟨bi, cap, ov, mv, nv, h1, h2, h3, h4, h5, h6⟩
structure DPart (B : Nat) (w : World) (d b bi cap : Nat) (ov mv nv : Value) (S : PSt) (c : PCall) (r : PRes) : Prop where
 hBb : B ≤ b
 hBd : B ≤ d
 hD : Blk w d (doCells b c r nv) 136
 hb : Blk w b #[.slice (some ⟨bi, 0, none⟩) S.ins.length cap, ov, mv] 26
 st : StOwn B w (.slice (some ⟨bi, 0, none⟩) S.ins.length cap) ov mv S
 nm : OwnP B w 9 1 nv (r.names.map strCells)
theorem DoAt.part {B : Nat} {w : World} {d b : Nat} {S : PSt} {c : PCall} {r : PRes} (h : DoAt B w d b S c r) (h0 : 0 < S.ins.length) : ∃ bi cap ov mv nv, DPart B w d b bi cap ov mv nv S c r := by
 obtain ⟨bi, cap, ov, mv, nv, h1, h2, h3, h4, h5, h6⟩ := h.parts h0
 exact ⟨bi, cap, ov, mv, nv, h1, h2, h3, h4, h5, h6⟩
section
variable {B : Nat} {w w' : World} {d b bi cap : Nat} {ov mv nv : Value} {S : PSt} {c : PCall} {r : PRes}
theorem DPart.at_ (h : DPart B w d b bi cap ov mv nv S c r) : DoAt B w d b S c r := ⟨_, _, _, _, h.hBb, h.hBd, h.hD, h.hb, h.st, h.nm⟩
theorem DPart.below (h : DPart B w d b bi cap ov mv nv S c r) (hb : Below w.heap.size w w') : DPart B w' d b bi cap ov mv nv S c r := by
 have hk : Keep (fun _ => False) w w' := Keep.of_below hb _
 exact ⟨h.hBb, h.hBd, hk.blk h.hD id, hk.blk h.hb id, h.st.keep hk (fun _ h => h.elim), h.nm.keep hk (fun _ _ h => h)⟩
theorem DPart.file (h : DPart B w d b bi cap ov mv nv S c r) (hf : Fine S) : Calls Tryz.prog 143 #[.pointer (some ⟨d, 0, none⟩)] w fun e w' => Below w.heap.size w w' ∧ fileE S c bi e :=
 file_x (DR.of_blk h.hD (SP.of_blk h.hb h.st.read)) hf (h.hb.cell 0)
theorem DPart.dat {K : Nat} {x : PIn} (h : DPart B w d b bi cap ov mv nv S c r) (hx : S.ins[K]? = some x) : BlockLt bi w ∧ w.cell? ⟨bi, K * 4, none⟩ = some (.int .i64 x.num) ∧ w.cell? ⟨bi, K * 4 + 1, none⟩ = some (.bool x.dir) ∧ w.cell? ⟨bi, K * 4 + 3, none⟩ = some (.string x.data) := by
 obtain ⟨a, cap', e1, hai⟩ := h.st.read.ins_at2
 cases e1
 obtain ⟨bi', oi, ev, he, iI0, hoi, her, hci⟩ := hai K x hx
 cases he
 obtain ⟨i2, x0, x1, -, x3⟩ := hci w (Below.refl _ _)
 simp only [Nat.zero_add] at x0 x1 x3
 exact ⟨i2, x0, x1, x3⟩
theorem DPart.res (h : DPart B w d b bi cap ov mv nv S c r) {t : Nat} {u : Value} {r' : PRes} (hc : (doCells b c r nv).setIfInBounds t u = doCells b c r' nv) (hn : r'.names = r.names) : DPart B (w.setCell ⟨d, t, none⟩ u) d b bi cap ov mv nv S c r' := by
 have hKd : Keep (fun k => k = d) w (w.setCell ⟨d, t, none⟩ u) := Keep.setCell (S := fun k => k = d) (p := ⟨d, t, none⟩) (Keep.refl _ _) (.inl rfl) _
 refine ⟨h.hBb, h.hBd, ?_, hKd.blk h.hb (h.hb.ne_ h.hD (by decide)), h.st.keep hKd (fun g hg => by rw [hg]; exact ⟨_, 136, h.hD, by decide, by decide, by decide, by decide⟩), by rw [hn]; exact h.nm.keep hKd (fun g hg => h.nm.ne_blk h.hD (by decide) hg)⟩
 rw [← hc]
 exact h.hD.set_ t u
end
def readM (S : PSt) (c : PCall) (r : PRes) : Except Int (PSt × PRes) := match fileX S c with
 | none => .error 4
 | some y => if (inM c.off && inM c.num) = true then .ok (S, { r with data := pieceM y.2.data c.off.toNat c.num.toNat }) else .error 9
theorem bytes_read (B d b : Nat) (S : PSt) (c : PCall) (r : PRes) (w : World) (h : DoAt B w d b S c r) (hB : B ≤ w.heap.size) (hf : Fine S) (hk : c.kind = 4) (hsz : ∀ x ∈ S.ins, x.data.size ≤ 1000000) :
 Calls Tryz.prog 146 #[.pointer (some ⟨d, 0, none⟩)] w (RunOut B w d b c (readM S c r)) := by
 obtain ⟨bi, cap, ov, mv, nv, hP⟩ := h.part hf.pos
 have ht := hP.file hf
 have iD := hP.hD.lt
 unfold fileE at ht
 unfold readM
 generalize hX : fileX S c = X at ht ⊢
 rcases X with _ | ⟨K, x⟩
 · simp only at ht ⊢
   go_enter Tryz.func146, Tryz.ntmps146
   go_wp2_with (go_at_call 143; refine ht.mono ?_; rintro e w1 ⟨hb1, rfl⟩)
   exact ⟨rfl, hb1.mono hB, rfl⟩
 · simp only at ht ⊢; obtain ⟨hx, hKl⟩ := fileX_at hX; have hxs := hsz x (mG hx); generalize idxM (isFd c) S.op = I at ht; have HP := Lib.hid hP; clear h hP hX hsz; have hoff := fun ww => in126 c.off ww
   have hnum := fun ww => in126 c.num ww
   generalize hpo : inM c.off = po at hoff ⊢; rcases po with _ | _
   · simp only [Bool.false_and, Bool.false_eq_true, if_false]
     go_enter Tryz.func146, Tryz.ntmps146
     go_upto_region 1 with (go_at_call 143; refine ht.mono ?_; rintro e w1 ⟨hb1, rfl⟩; have HB := Lib.hid hb1; clear hb1)
     refine abs_world (F := fun wA => DPart B wA d b bi cap ov mv nv S c r ∧ Below w.heap.size w wA) ⟨HP.out.below HB.out, HB.out⟩ ?_; clear ht iD HP HB; rintro wA ⟨hA, hbA⟩; have iD := hA.hD.lt; have a1 : wA.cell? ⟨d, 1, none⟩ = some (.int .i64 c.kind) := hA.hD.cell 1; have a4 : wA.cell? ⟨d, 4, none⟩ = some (.int .i64 c.off) := hA.hD.cell 4; have a5 : wA.cell? ⟨d, 5, none⟩ = some (.int .i64 c.num) := hA.hD.cell 5; have a13 : wA.cell? ⟨d, 13, none⟩ = some (.string r.data) := hA.hD.cell 13; have f13 := hA.hD.frozen 13; rw [hk] at a1; obtain ⟨iI, x0, x1, x3⟩ := hA.dat hx; have HA := Lib.hid (And.intro hA hbA); clear hA hbA hx; go_wp2_with (first | (go_at_call 183; with_reducible refine aT (hoff _) fun p => ?_) | (go_at_call 183; with_reducible refine aT (hnum _) fun p => ?_) | (go_at_call 172; refine aE (throw_yes _ _) fun p => ?_))
     exact ⟨rfl, (HA.out.2.trans ((bel wA _).mono HA.out.2.size)).mono hB, rfl⟩
   · generalize hpn : inM c.num = pn at hnum ⊢; rcases pn with _ | _
     · simp only [Bool.and_false, Bool.false_eq_true, if_false]
       go_enter Tryz.func146, Tryz.ntmps146
       go_upto_region 1 with (go_at_call 143; refine ht.mono ?_; rintro e w1 ⟨hb1, rfl⟩; have HB := Lib.hid hb1; clear hb1)
       refine abs_world (F := fun wA => DPart B wA d b bi cap ov mv nv S c r ∧ Below w.heap.size w wA) ⟨HP.out.below HB.out, HB.out⟩ ?_; clear ht iD HP HB; rintro wA ⟨hA, hbA⟩; have iD := hA.hD.lt; have a1 : wA.cell? ⟨d, 1, none⟩ = some (.int .i64 c.kind) := hA.hD.cell 1; have a4 : wA.cell? ⟨d, 4, none⟩ = some (.int .i64 c.off) := hA.hD.cell 4; have a5 : wA.cell? ⟨d, 5, none⟩ = some (.int .i64 c.num) := hA.hD.cell 5; have a13 : wA.cell? ⟨d, 13, none⟩ = some (.string r.data) := hA.hD.cell 13; have f13 := hA.hD.frozen 13; rw [hk] at a1; obtain ⟨iI, x0, x1, x3⟩ := hA.dat hx; have HA := Lib.hid (And.intro hA hbA); clear hA hbA hx; go_wp2_with (first | (go_at_call 183; with_reducible refine aT (hoff _) fun p => ?_) | (go_at_call 183; with_reducible refine aT (hnum _) fun p => ?_) | (go_at_call 172; refine aE (throw_yes _ _) fun p => ?_))
       exact ⟨rfl, (HA.out.2.trans ((bel wA _).mono HA.out.2.size)).mono hB, rfl⟩
     · simp only [Bool.and_self, if_true]; unfold inM at hpo hpn; simp only [Bool.and_eq_true, decide_eq_true_eq] at hpo hpn; obtain ⟨o, ho⟩ : ∃ o : Nat, c.off = o := ⟨c.off.toNat, by omega⟩
       obtain ⟨n, hn⟩ : ∃ n : Nat, c.num = n := ⟨c.num.toNat, by omega⟩
       have hpc := fun ww => piece127 x.data o n ww (by omega) (by omega) (by omega)
       have eo : c.off.toNat = o := by omega
       have en : c.num.toNat = n := by omega
       rw [eo, en]; rw [ho] at hoff; rw [hn] at hnum; generalize pieceM x.data o n = pc at hpc ⊢; have HO := Lib.hid (And.intro ho hn); clear eo en hpo hpn ho hn
       go_enter Tryz.func146, Tryz.ntmps146
       go_upto_region 1 with (go_at_call 143; refine ht.mono ?_; rintro e w1 ⟨hb1, rfl⟩; have HB := Lib.hid hb1; clear hb1)
       refine abs_world (F := fun wA => DPart B wA d b bi cap ov mv nv S c r ∧ Below w.heap.size w wA) ⟨HP.out.below HB.out, HB.out⟩ ?_; clear ht iD HP HB; rintro wA ⟨hA, hbA⟩; have iD := hA.hD.lt; have a1 : wA.cell? ⟨d, 1, none⟩ = some (.int .i64 c.kind) := hA.hD.cell 1; have a4 : wA.cell? ⟨d, 4, none⟩ = some (.int .i64 c.off) := hA.hD.cell 4; have a5 : wA.cell? ⟨d, 5, none⟩ = some (.int .i64 c.num) := hA.hD.cell 5; have a13 : wA.cell? ⟨d, 13, none⟩ = some (.string r.data) := hA.hD.cell 13; have f13 := hA.hD.frozen 13; rw [hk] at a1; rw [HO.out.1] at a4; rw [HO.out.2] at a5; obtain ⟨iI, x0, x1, x3⟩ := hA.dat hx; have HA := Lib.hid (And.intro hA hbA); clear hA hbA hx
       go_upto_region 5 with (first | (go_at_call 183; with_reducible refine aT (hoff _) fun p => ?_) | (go_at_call 183; with_reducible refine aT (hnum _) fun p => ?_) | (go_at_call 172; refine aT (throw_no _ _) fun p => ?_))
       refine wp_region_eff [15, 19] true (fun w' => w'.cell? ⟨d, 4, none⟩ = some (.int .i64 o) ∧ w'.cell? ⟨d, 5, none⟩ = some (.int .i64 n) ∧ w'.cell? ⟨bi, K * 4 + 3, none⟩ = some (.string x.data)) (by kernel_rfl) (by kernel_rfl) ?_ ?_
       · (try dsimp only); (repeat' apply And.intro) <;> go_simp
       repeat
        refine wpL_look rfl rfl ?_; apply Exists.intro; refine ⟨?_, ?_⟩
        focus
         rintro w' ⟨s0, s1, s2⟩; go_simp
         first | done | rfl
        simp only [Act.put, sA, sZ, sS]
       refine wpL_act rfl rfl ?_; refine eff_call 184 #[.string x.data, .int .i64 o, .int .i64 n] ?hr ?_
       case hr =>
        go_simp
        first | done | rfl
       refine aT (hpc _) fun q1 => ?_; refine ⟨_, rfl, .inl ?_, ?_⟩
       · (try dsimp only); (repeat' apply And.intro) <;> go_simp
       simp only [Act.put, sA, sZ, sS]
       repeat
        refine wpL_look rfl rfl ?_; apply Exists.intro; refine ⟨?_, ?_⟩
        focus
         rintro w' ⟨s0, s1, s2⟩; go_simp
         first | done | rfl
        simp only [Act.put, sA, sZ, sS]
       refine wpL_skip rfl rfl ?_; apply Exists.intro; refine ⟨?_, .inr ⟨rfl, rfl⟩, ?_⟩
       focus
        go_simp; rfl
       simp only [Act.put, sA, sZ, sS]; refine wpL_end ?_; clear a1 a4 a5 a13 f13 x0 x1 x3; go_wp2_with fail; have hbs : Below B w (wA.setCell ⟨d, 13, none⟩ (.string pc)) := (HA.out.2.mono hB).setCell (p := ⟨d, 13, none⟩) HA.out.1.hBd _; exact bodyPost_end (v := .tuple #[]) (by simp [results, go_sem]) rfl ⟨hbs.trans ((bel _ _).mono (Nat.le_trans hB hbs.size)), rfl, ((HA.out.1.res (t := 13) (r' := { r with data := pc }) rfl rfl).below (bel _ _)).at_⟩
def sizeM (S : PSt) (c : PCall) (r : PRes) : Except Int (PSt × PRes) := match fileX S c with
 | none => .error 4
 | some y => .ok (S, { r with num := y.2.data.size })
theorem bytes_size (B d b : Nat) (S : PSt) (c : PCall) (r : PRes) (w : World) (h : DoAt B w d b S c r) (hB : B ≤ w.heap.size) (hf : Fine S) (hk : c.kind = 7) :
 Calls Tryz.prog 146 #[.pointer (some ⟨d, 0, none⟩)] w (RunOut B w d b c (sizeM S c r)) := by
 obtain ⟨bi, cap, ov, mv, nv, hP⟩ := h.part hf.pos
 have ht := hP.file hf
 have iD := hP.hD.lt
 unfold fileE at ht
 unfold sizeM
 generalize hX : fileX S c = X at ht ⊢
 rcases X with _ | ⟨K, x⟩
 · simp only at ht ⊢
   go_enter Tryz.func146, Tryz.ntmps146
   go_wp2_with (go_at_call 143; refine ht.mono ?_; rintro e w1 ⟨hb1, rfl⟩)
   exact ⟨rfl, hb1.mono hB, rfl⟩
 · simp only at ht ⊢; obtain ⟨hx, hKl⟩ := fileX_at hX; generalize idxM (isFd c) S.op = I at ht; have HP := Lib.hid hP; clear h hP hX
   go_enter Tryz.func146, Tryz.ntmps146
   go_upto_region 1 with (go_at_call 143; refine ht.mono ?_; rintro e w1 ⟨hb1, rfl⟩; have HB := Lib.hid hb1; clear hb1)
   refine abs_world (F := fun wA => DPart B wA d b bi cap ov mv nv S c r ∧ Below w.heap.size w wA) ⟨HP.out.below HB.out, HB.out⟩ ?_; clear ht iD HP HB; rintro wA ⟨hA, hbA⟩; have iD := hA.hD.lt; have a1 : wA.cell? ⟨d, 1, none⟩ = some (.int .i64 c.kind) := hA.hD.cell 1; have a11 : wA.cell? ⟨d, 11, none⟩ = some (.int .i64 r.num) := hA.hD.cell 11; have f11 := hA.hD.frozen 11; rw [hk] at a1; obtain ⟨iI, x0, x1, x3⟩ := hA.dat hx; have HA := Lib.hid (And.intro hA hbA); clear hA hbA hx; go_wp2_with fail; exact bodyPost_end (v := .tuple #[]) (by simp [results, go_sem]) rfl ⟨(HA.out.2.mono hB).setCell (p := ⟨d, 11, none⟩) HA.out.1.hBd _, rfl, (HA.out.1.res (t := 11) (r' := { r with num := x.data.size }) rfl rfl).at_⟩
end Go.Proofs.YtmkapobnfigedaaGreatDoor
