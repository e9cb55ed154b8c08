/- Part of the proof of a law of chapter 15. Conditions: none. -/
import Derived.Test.YtmkapobnfigedaaGreatDoorDp13
set_option linter.unusedVariables false
set_option linter.unusedSimpArgs false
set_option maxRecDepth 100000
set_option maxHeartbeats 8000000
namespace Go.Proofs.YtmkapobnfigedaaGreatDoor
open Go.RowKit
def PRes.val (r : PRes) (nv : Value) : Value := .agg #[.int .i64 r.code, .int .i64 r.fd, .int .i64 r.num, .bool r.dir, .string r.data, nv]
def CP (w : World) (k : Nat) (c : PCall) : Prop := k < w.heap.size ∧ ∀ (t : Nat) (u : Value), c.cells[t]? = some u → w.cell? ⟨k, t, none⟩ = some u
theorem CP.below {w w' : World} {k B : Nat} {c : PCall} (h : CP w k c) (hb : Below B w w') (hB : w.heap.size ≤ B) : CP w' k c := by
 have hs := hb.size
 have hl := h.1
 exact ⟨by omega, fun t u hu => (hb.cell (p := ⟨k, t, none⟩) (by show k < B; omega)).trans (h.2 t u hu)⟩
def Did (S : PSt) (c : PCall) (S' : PSt) (r : PRes) : Prop := ∀ (w : World) (iv ov mv : Value), StRead w iv ov mv S → Calls Tryz.prog 73 #[.agg #[iv, ov, mv], .agg #[.int .i64 c.kind, .int .i64 c.core, .int .i64 c.fd, .int .i64 c.off, .int .i64 c.num, .string c.path, .string c.path2, .string c.data]] w fun e w' => Below w.heap.size w w' ∧ DoneAt w.heap.size S' r e w'
theorem CP.of_blk {w : World} {k : Nat} {c : PCall} (h : Blk w k #[.int .i64 c.kind, .int .i64 c.core, .int .i64 c.fd, .int .i64 c.off, .int .i64 c.num, .string c.path, .string c.path2, .string c.data] 28) : CP w k c :=
 ⟨h.lt.lt, fun t u hu => by rw [h.cell]; simpa [PCall.cells] using hu⟩
class Above (N : Nat) (a w : World) : Prop where
 eq : ∀ k, N ≤ k → k < a.heap.size → w.heap[k]? = a.heap[k]?
 size : a.heap.size ≤ w.heap.size
instance {X X' : World} {p : Behind} {n : Nat} [h : SizeIs X n] [h' : SizeIs X' n] : Above X.heap.size (X.junk p) (X'.junk p) := ⟨fun k hk _ => by
 have e1 := h.eq
 have e2 := h'.eq
 simp only [World.junk]
 rw [Array.getElem?_append_right (by omega), Array.getElem?_append_right (by omega), e1, e2], by
 have e1 := h.eq
 have e2 := h'.eq
 rw [World.size_junk0, World.size_junk0, e1, e2]
 exact Nat.le_refl _⟩
instance {N : Nat} {a w : World} {o : Obj} [h : Above N a w] : Above N a (w.alloc o) := ⟨fun k hk hl => by rw [RowKit.Below.heap_alloc w o k (Nat.lt_of_lt_of_le hl h.size)]; exact h.eq k hk hl, by have := h.size; simp; omega⟩
instance {N : Nat} {a w : World} {q : Behind} [h : Above N a w] : Above N a (w.junk q) := ⟨fun k hk hl => by rw [World.heap_junk w q (Nat.lt_of_lt_of_le hl h.size)]; exact h.eq k hk hl, by have := h.size; rw [World.size_junk0]; omega⟩
theorem OwnP.above {N : Nat} {w : World} {e : TypeId} {k : Nat} {v : Value} {rows : List (List Value)} (h : OwnP N w e k v rows) (w' : World) [ha : Above N w w'] : OwnP N w' e k v rows := by
 rcases h with h | ⟨g, cap, cur, rfl, hg, hb, r⟩
 · exact .inl h
 · exact .inr ⟨g, cap, cur, rfl, hg, (ha.eq g hg hb.lt.lt).trans hb, r⟩
theorem StOwn.above {N : Nat} {w : World} {iv ov mv : Value} {S : PSt} (h : StOwn N w iv ov mv S) (w' : World) [ha : Above N w w'] : StOwn N w' iv ov mv S := by
 obtain ⟨h1, h2, is, h3, h4, h5, h6⟩ := h
 exact ⟨h1.above w', h2.above w', is, h3.above w', h4, fun q r x hr hx => by
  obtain ⟨a1, a2, a3, a4⟩ := h5 q r x hr hx; exact ⟨a1, a2, a3, a4.above w'⟩, h6⟩
def newSt (n : Nat) : PSt := ⟨[⟨1, true, [], { data := #[] }⟩], [], List.replicate n 0⟩
theorem made_map' {α : Type} (f : α → Value) (z : α) (n : Nat) : madeCells #[f z] n = ((List.replicate n z).map f).toArray := by
 apply Array.toList_inj.1
 rw [toList_madeCells_one]
 simp
theorem RowAt.of_blk1 {w : World} {b : Nat} {t : TypeId} (xs : List Int) (cap : Nat) (h : Blk w b (xs.map fun x => Value.int .i64 x).toArray t) (hm : xs.length ≤ maxLen) : RowAt w 1 (.slice (some ⟨b, 0, none⟩) xs.length cap) (xs.map intCells) := by
 refine ⟨_, _, by rw [lM], by rw [lM]; exact hm, fun _ => ⟨b, 0, rfl, h.lt.lt, fun q cs hq t u hu => ?_⟩⟩
 rw [gM] at hq
 obtain ⟨x, hx, rfl⟩ := Option.map_eq_some_iff.1 hq
 rcases t with _ | t
 · simp only [intCells, List.getElem?_cons_zero, Option.some.injEq] at hu; subst hu; rw [h.cell]; simp [hx]
 · simp [intCells] at hu
theorem new11 (n : Nat) (h1 : 1 ≤ n) (h8 : n ≤ 8) (w : World) :
 Calls Tryz.prog 51 #[.int .i64 n] w fun e w' => ∃ iv ov mv, e = .returned (.tuple #[.agg #[iv, ov, mv], .int .i64 0]) ∧ Below w.heap.size w w' ∧ StRead w' iv ov mv (newSt n) := by
 obtain ⟨i0, hi, hz0, hz1, hz2⟩ := info_parts info3
 have hmk : ∀ u : World, (Instr.makeSlice 24 (.int .i64 n) (.int .i64 n)).run Tryz.prog u = .ok (.slice (some ⟨u.heap.size, 0, none⟩) n n) (u.alloc (.cells ((List.replicate n (0 : Int)).map fun x => Value.int .i64 x).toArray 3)) := fun u => by
  have := run_makeSlice (P := Tryz.prog) u 24 3 i0 _ Tryz.underlying24 hi hz0 .i64 .i64 n n (by omega) (Int.le_refl _) (by rw [hz1]; omega) (by rw [hz2]; omega) (by omega); rw [← made_map' (fun x => Value.int .i64 x)]; simpa [hz1, Value.cells] using this
 have g1 : ¬ (n : Int) < 1 := by omega
 have g2 : ¬ (8 : Int) < n := by omega
 go_enter Tryz.func51, Tryz.ntmps51
 go_wp2_with fail
 refine bodyPost_ret (v := .tuple #[.agg #[.slice (some ⟨w.heap.size + 1, 0, none⟩) 1 1, .slice none 0 0, .slice (some ⟨w.heap.size + 1 + 1, 0, none⟩) n n], .int .i64 0]) (by unfold results; simp only [Tryz.results51]; go_simp) rfl ⟨_, _, _, rfl, bel _ _, ?_, ?_, [⟨1, true, .slice none 0 0, { data := #[] }, rfl⟩], ?_, rfl, ?_⟩
 · exact ⟨none, 0, rfl, by simp [newSt], fun h => absurd h (by simp [newSt])⟩
 · have hb3 : Blk (((w.alloc (.cells #[.slice (some ⟨w.heap.size + 1, 0, none⟩) 1 1, .slice none 0 0, .slice (some ⟨w.heap.size + 1 + 1, 0, none⟩) n n] 26)).alloc (.cells #[.int .i64 1, .bool true, .slice none 0 0, .string { data := #[] }] 68)).alloc (.cells (Array.replicate n (.int .i64 0)) 3)) (w.heap.size + 1 + 1) (Array.replicate n (.int .i64 0)) 3 := Blk.new_i ((w.alloc (.cells #[.slice (some ⟨w.heap.size + 1, 0, none⟩) 1 1, .slice none 0 0, .slice (some ⟨w.heap.size + 1 + 1, 0, none⟩) n n] 26)).alloc (.cells #[.int .i64 1, .bool true, .slice none 0 0, .string { data := #[] }] 68)) _ _ _; have := RowAt.of_blk1 (b := w.heap.size + 1 + 1) (t := 3) (List.replicate n (0 : Int)) n (by simpa using hb3) (by rw [List.length_replicate]; unfold maxLen; omega); rw [List.length_replicate] at this; exact this
 · refine ⟨_, _, rfl, by unfold maxLen; simp, fun _ => ⟨w.heap.size + 1, 0, rfl, by simp, fun q cs hq t u hu => ?_⟩⟩; rcases q with _ | q
   · simp only [List.map_cons, List.map_nil, List.getElem?_cons_zero, Option.some.injEq] at hq; subst hq; have hb : Blk ((((w.alloc (.cells #[.slice (some ⟨w.heap.size + 1, 0, none⟩) 1 1, .slice none 0 0, .slice (some ⟨w.heap.size + 1 + 1, 0, none⟩) n n] 26)).alloc (.cells #[.int .i64 1, .bool true, .slice none 0 0, .string { data := #[] }] 68))).alloc (.cells ((List.replicate n (0 : Int)).map fun x => Value.int .i64 x).toArray 3)) (w.heap.size + 1) #[.int .i64 1, .bool true, .slice none 0 0, .string { data := #[] }] 68 := (Blk.new_i (w.alloc (.cells #[.slice (some ⟨w.heap.size + 1, 0, none⟩) 1 1, .slice none 0 0, .slice (some ⟨w.heap.size + 1 + 1, 0, none⟩) n n] 26)) _ _ _).alloc _; have := (hb.cell t).trans (by simpa [IRec.cells] using hu); simpa using this
   · simp at hq
 · intro q r x hr hx; rcases q with _ | q
   · cases hr; cases hx; exact ⟨rfl, rfl, rfl, ⟨none, 0, rfl, by simp, fun h => absurd h (by simp)⟩⟩
   · simp at hr
def linkE (n : Int) (x : PIn) : List PEnt → Nat
 | [] => 0
 | e :: r => (if (x.dir && (e.num == n)) = true then 1 else 0) + linkE n x r
def linkI (n : Int) : List PIn → Nat
 | [] => 0
 | x :: r => linkE n x x.ents + linkI n r
def linksM (S : PSt) (n : Int) : Nat := linkI n S.ins
theorem linkE_le (n : Int) (x : PIn) : ∀ es, linkE n x es ≤ es.length
 | [] => Nat.le_refl _
 | e :: r => by
   have := linkE_le n x r; unfold linkE
   split <;> simp <;> omega
theorem linkI_le (n : Int) : ∀ xs : List PIn, (∀ x ∈ xs, x.ents.length ≤ 1000000000) → linkI n xs ≤ xs.length * 1000000000
 | [], _ => Nat.le_refl _
 | x :: r, h => by
   have h1 := linkI_le n r (fun y hy => h y (List.mem_cons_of_mem _ hy)); have h2 := linkE_le n x x.ents; have h3 := h x List.mem_cons_self; unfold linkI; simp only [List.length_cons]; omega
theorem linksM_le {S : PSt} (h : S.wf) (n : Int) : linksM S n ≤ 1000000000000000000 := by
 have h1 := linkI_le n S.ins (fun x hx => (h.2.2.2.1 x hx).2.1)
 have h2 := h.1
 have h3 : S.ins.length * 1000000000 ≤ 1000000000 * 1000000000 := Nat.mul_le_mul_right _ h2
 unfold linksM
 omega
theorem linkI_drop {n : Int} {xs : List PIn} {q : Nat} {z : PIn} (h : xs[q]? = some z) : linkI n (xs.drop q) = linkE n z z.ents + linkI n (xs.drop (q + 1)) := by rw [drop_at h]; rfl
theorem linkE_drop {n : Int} {x : PIn} {es : List PEnt} {q : Nat} {z : PEnt} (h : es[q]? = some z) : linkE n x (es.drop q) = (if (x.dir && (z.num == n)) = true then 1 else 0) + linkE n x (es.drop (q + 1)) := by rw [drop_at h]; rfl
theorem links82 (iv ov mv : Value) (S : PSt) (n : Int) (w : World) (h : StRead w iv ov mv S) (hwf : S.wf) :
 Calls Tryz.prog 181 #[.agg #[iv, ov, mv], .int .i64 n] w fun e w' => e = .returned (.int .i64 (linksM S n)) ∧ Below w.heap.size w w' := by
 have hoo := h.1.one
 have hmo := h.2.1.one
 obtain ⟨ai, capi, rfl, hati⟩ := h.ins_at2
 have HI := Lib.hid hati
 have hNl := linksM_le hwf n
 have hlin := hwf.1
 unfold linksM at *
 obtain ⟨N, hN⟩ : ∃ N, linkI n S.ins = N := ⟨_, rfl⟩
 rw [hN] at hNl ⊢
 have HN := Lib.hid hN
 have HW := Lib.hid hwf.2.2.2.1
 clear h hati hN hwf
 go_enter Tryz.func181, Tryz.ntmps181
 go_wp2_with fail
 go_loopw [5, 13] (fun vn vi wr => ∃ (q a : Nat), vi = .int .i64 q ∧ vn = .int .i64 a ∧ q ≤ S.ins.length ∧ a + linkI n (S.ins.drop q) = N ∧ Below w.heap.size w wr) (fun _ vi _ => (S.ins.length - intOf vi).toNat)
 case atStart => exact ⟨0, 0, rfl, rfl, by omega, by simpa using HN.out, bel _ _⟩
 case round =>
  obtain ⟨q, a, rfl, rfl, hq, hre, hb⟩ := hrel
  rename World => wo
  have iB : Bel w wo := ⟨hb⟩
  by_cases hlt : q < S.ins.length
  · obtain ⟨z, hz⟩ : ∃ z, S.ins[q]? = some z := ⟨_, gE hlt⟩
    rw [linkI_drop hz] at hre; obtain ⟨bi, off, ev1, rfl, iG0, ho1, hev, hcl⟩ := HI.out q z hz; obtain ⟨iGr, y0, y1, y2, y3⟩ := hcl wo hb; obtain ⟨ae, ce, rfl, hat⟩ := hev.at_; rw [lM] at y2; have HE := Lib.hid hat; have hzl := (HW.out z (mG hz)).2.1; have HR := Lib.hid hre; clear hat hev hz hre hcl; go_wp2_with fail
    go_loopw [5, 20] (fun vn vi w2 => ∃ (k a2 : Nat), vi = .int .i64 k ∧ vn = .int .i64 a2 ∧ k ≤ z.ents.length ∧ a2 + linkE n z (z.ents.drop k) = a + linkE n z z.ents ∧ Below wo.heap.size wo w2 ∧ Blk w2 wo.heap.size #[.int .i64 z.num, .bool z.dir, .slice ae z.ents.length ce, .string z.data] 68) (fun _ vi _ => (z.ents.length - intOf vi).toNat)
    case atStart => exact ⟨0, a, rfl, rfl, by omega, rfl, bel _ _, Blk.new _ _ _⟩
    case round =>
     obtain ⟨k, a2, rfl, rfl, hk, hre2, hb2, hblk⟩ := hrel; have iB2 : Bel w wr := ⟨hb.trans (hb2.mono hb.size)⟩
     have iB3 : Bel wo wr := ⟨hb2⟩
     have z0 := hblk.cell 1; have iK := hblk.lt; have HK := Lib.hid hblk; by_cases hlk : k < z.ents.length
     · obtain ⟨e, he⟩ : ∃ e, z.ents[k]? = some e := ⟨_, gE hlk⟩
       rw [linkE_drop he] at hre2; obtain ⟨be, offe, rfl, iE0, iE, hce⟩ := HE.out wr iB2.below k e.cells (by rw [gM, he]; rfl); have e0 := hce 0 _ rfl; have e1 := hce 1 _ rfl; rw [Nat.add_zero] at e0; have ha2 : a2 + 1 ≤ 1000000000000000001 := by have := HR.out; omega
       have ew : wrap64 ((a2 : Int) + 1) = (a2 : Int) + 1 := by simp only [wrap64]; omega
       generalize hd : z.dir = dd at *; generalize hg : (e.num == n) = gg at hre2; have HR2 := Lib.hid hre2; clear hre2 hce he hblk; rcases dd with _ | _ <;> rcases gg with _ | _
       · go_wp2_with fail
         go_roundw
         case rel => exact ⟨k + 1, a2, by go_num, rfl, by omega, by have := HR2.out; simpa using this, bel _ _, (HK.out.alloc _)⟩
         case measure => simp [intOf]; omega
       · go_wp2_with fail
         go_roundw
         case rel => exact ⟨k + 1, a2, by go_num, rfl, by omega, by have := HR2.out; simpa using this, bel _ _, (HK.out.alloc _)⟩
         case measure => simp [intOf]; omega
       · go_wp2_with fail
         go_roundw
         case rel => exact ⟨k + 1, a2, by go_num, rfl, by omega, by have := HR2.out; simpa using this, bel _ _, (HK.out.alloc _)⟩
         case measure => simp [intOf]; omega
       · go_wp2_with fail
         go_roundw
         case rel => exact ⟨k + 1, a2 + 1, by go_num, by go_num, by omega, by have := HR2.out; simp at this; omega, bel _ _, (HK.out.alloc _)⟩
         case measure => simp [intOf]; omega
     · rw [List.drop_of_length_le (by omega)] at hre2; clear hblk; go_wp2_with fail
       go_roundw
       case rel => exact ⟨q + 1, a2, by go_num, rfl, by omega, by have := HR.out; have e : a2 + linkE n z [] = _ := hre2; simp only [linkE] at e; omega, iB2.below⟩
       case measure => simp [intOf]; omega
  · rw [List.drop_of_length_le (by omega)] at hre; have e : a = N := by simpa [linkI] using hre
    clear hre; subst e; go_wp2_with fail; go_ret; exact ⟨rfl, bel _ _⟩
def wlkOk (S : PSt) : Nat → Int → Bool
 | 0, _ => false
 | f + 1, n => decide (0 ≤ idxM (isNum n) S.ins) && match S.ins[(idxM (isNum n) S.ins).toNat]? with
   | none => false
   | some x => !x.dir || x.ents.all (fun e => wlkOk S f e.num)
theorem mayc_may {S : PSt} {c : PCall} (h : maycM S c = true) : mayM S = true ∧ 0 ≤ c.core ∧ c.core < S.made.length := by
 unfold maycM at h
 simp only [Bool.and_eq_true, decide_eq_true_eq] at h
 exact ⟨h.2, h.1.1.2, h.1.2⟩
theorem did_of {S : PSt} {c : PCall} (R : Except Int (PSt × PRes)) {S' : PSt} {r' : PRes} (hwf : S.wf) (he : doM S c R = (S', r'))
 (hrun : maycM S c = true → ∀ B ww d b, DoAt B ww d b S c PRes.zero → B ≤ ww.heap.size → Calls Tryz.prog 108 #[.pointer (some ⟨d, 0, none⟩)] ww (RunOut B ww d b c R)) : Did S c S' r' := by
 intro w iv ov mv h
 have := do20 iv ov mv S c R w h hwf hrun
 rw [he] at this
 exact this
instance (n : Int) : Decidable (I64 n) := by unfold I64; exact inferInstance
def smallIn (x : PIn) : Bool := decide (I64 x.num ∧ x.ents.length ≤ 100000 ∧ x.data.size ≤ 1000000) && x.ents.all fun e => decide (I64 e.num)
def goodB (S : PSt) : Bool := decide (S.ins.length ≤ 257) && decide (S.op.length ≤ 1000000000) && decide (S.made.length ≤ 8) && S.ins.all smallIn && (S.op.all fun d => decide (I64 d.core ∧ I64 d.fd ∧ I64 d.num)) && S.made.all fun m => decide (0 ≤ m ∧ m ≤ 32)
theorem good_wf {S : PSt} (h : goodB S = true) : S.wf ∧ Small S ∧ ∀ x ∈ S.ins, x.data.size ≤ 1000000 := by
 unfold goodB smallIn at h
 simp only [Bool.and_eq_true, decide_eq_true_eq, List.all_eq_true] at h
 obtain ⟨⟨⟨⟨⟨h1, h2⟩, h3⟩, h4⟩, h5⟩, h6⟩ := h
 refine ⟨⟨by omega, h2, by omega, fun x hx => ?_, fun d hd => h5 d hd, fun m hm => ?_⟩, ⟨h1, fun x hx => (h4 x hx).1.2.1, h3, fun m hm => h6 m hm⟩, fun x hx => (h4 x hx).1.2.2⟩
 · obtain ⟨⟨a1, a2, a3⟩, a4⟩ := h4 x hx; exact ⟨a1, by omega, fun e he => a4 e he⟩
 · have := h6 m hm; unfold I64; omega
theorem abs_world {F : World → Prop} {c : Code} {Q : Exit → Act → World → Prop} {a : Act} {w : World} (hF : F w) (h : ∀ w, F w → c.wp Tryz.prog Q a w) : c.wp Tryz.prog Q a w := h w hF
theorem StRead.slices {w : World} {iv ov mv : Value} {S : PSt} (h : StRead w iv ov mv S) : ∃ ai ni ci ao no co am nm cm, iv = .slice ai ni ci ∧ ov = .slice ao no co ∧ mv = .slice am nm cm := by
 obtain ⟨a1, c1, e1, _⟩ := h.1.at_
 obtain ⟨a2, c2, e2, _⟩ := h.2.1.at_
 obtain ⟨_, _, is, h3, _⟩ := h
 obtain ⟨a3, c3, e3, _⟩ := h3.at_
 exact ⟨_, _, _, _, _, _, _, _, _, e3, e1, e2⟩
end Go.Proofs.YtmkapobnfigedaaGreatDoor
