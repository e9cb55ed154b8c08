/- Part of the proof that the named pairs of calls commute. Conditions: none. -/
import Derived.Test.YtjkenolgkkknaaaGreatDoorPp19
set_option linter.unusedVariables false
set_option linter.unusedSimpArgs false
set_option maxRecDepth 100000
set_option maxHeartbeats 8000000
namespace Go.Proofs.YtjkenolgkkknaaaGreatDoor
open Go.RowKit
theorem num12 (n : Int) (w : World) : Calls Tryz.prog 12 #[.int .i64 n] w fun e w' => e = .returned (.int .i64 n) ∧ Below w.heap.size w w' := by
 go_enter Tryz.func12, Tryz.ntmps12
 go_wp2_with fail
 go_ret
 exact ⟨rfl, bel _ _⟩
def newSt (n : Nat) : PSt := ⟨[⟨1, true, [], { data := #[] }⟩], [], List.replicate n 0⟩
theorem made_map' {α : Type} (f : α → Value) (z : α) (n : Nat) : madeCells #[f z] n = ((List.replicate n z).map f).toArray := by
 apply Array.toList_inj.1
 rw [toList_madeCells_one]
 simp
theorem RowAt.of_blk1 {w : World} {b : Nat} {t : TypeId} (xs : List Int) (cap : Nat) (h : Blk w b (xs.map fun x => Value.int .i64 x).toArray t) (hm : xs.length ≤ maxLen) : RowAt w 1 (.slice (some ⟨b, 0, none⟩) xs.length cap) (xs.map intCells) := by
 refine ⟨_, _, by rw [lM], by rw [lM]; exact hm, fun _ => ⟨b, 0, rfl, h.lt.lt, fun q cs hq t u hu => ?_⟩⟩
 rw [gM] at hq
 obtain ⟨x, hx, rfl⟩ := Option.map_eq_some_iff.1 hq
 rcases t with _ | t
 · simp only [intCells, List.getElem?_cons_zero, Option.some.injEq] at hu; subst hu; rw [h.cell]; simp [hx]
 · simp [intCells] at hu
theorem new11 (n : Nat) (h1 : 1 ≤ n) (h8 : n ≤ 8) (w : World) :
 Calls Tryz.prog 11 #[.int .i64 n] w fun e w' => ∃ iv ov mv, e = .returned (.tuple #[.agg #[iv, ov, mv], .int .i64 0]) ∧ Below w.heap.size w w' ∧ StRead w' iv ov mv (newSt n) := by
 obtain ⟨i0, hi, hz0, hz1, hz2⟩ := info_parts info3
 have hmk : ∀ u : World, (Instr.makeSlice 25 (.int .i64 n) (.int .i64 n)).run Tryz.prog u = .ok (.slice (some ⟨u.heap.size, 0, none⟩) n n) (u.alloc (.cells ((List.replicate n (0 : Int)).map fun x => Value.int .i64 x).toArray 3)) := fun u => by
  have := run_makeSlice (P := Tryz.prog) u 25 3 i0 _ Tryz.underlying25 hi hz0 .i64 .i64 n n (by omega) (Int.le_refl _) (by rw [hz1]; omega) (by rw [hz2]; omega) (by omega); rw [← made_map' (fun x => Value.int .i64 x)]; simpa [hz1, Value.cells] using this
 have g1 : ¬ (n : Int) < 1 := by omega
 have g2 : ¬ (8 : Int) < n := by omega
 go_enter Tryz.func11, Tryz.ntmps11
 go_wp2_with fail
 refine bodyPost_ret (v := .tuple #[.agg #[.slice (some ⟨w.heap.size + 1, 0, none⟩) 1 1, .slice none 0 0, .slice (some ⟨w.heap.size + 1 + 1, 0, none⟩) n n], .int .i64 0]) (by unfold results; simp only [Tryz.results11]; go_simp) rfl ⟨_, _, _, rfl, bel _ _, ?_, ?_, [⟨1, true, .slice none 0 0, { data := #[] }, rfl⟩], ?_, rfl, ?_⟩
 · exact ⟨none, 0, rfl, by simp [newSt], fun h => absurd h (by simp [newSt])⟩
 · have hb3 : Blk (((w.alloc (.cells #[.slice (some ⟨w.heap.size + 1, 0, none⟩) 1 1, .slice none 0 0, .slice (some ⟨w.heap.size + 1 + 1, 0, none⟩) n n] 27)).alloc (.cells #[.int .i64 1, .bool true, .slice none 0 0, .string { data := #[] }] 65)).alloc (.cells (Array.replicate n (.int .i64 0)) 3)) (w.heap.size + 1 + 1) (Array.replicate n (.int .i64 0)) 3 := Blk.new_i ((w.alloc (.cells #[.slice (some ⟨w.heap.size + 1, 0, none⟩) 1 1, .slice none 0 0, .slice (some ⟨w.heap.size + 1 + 1, 0, none⟩) n n] 27)).alloc (.cells #[.int .i64 1, .bool true, .slice none 0 0, .string { data := #[] }] 65)) _ _ _; have := RowAt.of_blk1 (b := w.heap.size + 1 + 1) (t := 3) (List.replicate n (0 : Int)) n (by simpa using hb3) (by rw [List.length_replicate]; unfold maxLen; omega); rw [List.length_replicate] at this; exact this
 · refine ⟨_, _, rfl, by unfold maxLen; simp, fun _ => ⟨w.heap.size + 1, 0, rfl, by simp, fun q cs hq t u hu => ?_⟩⟩; rcases q with _ | q
   · simp only [List.map_cons, List.map_nil, List.getElem?_cons_zero, Option.some.injEq] at hq; subst hq; have hb : Blk ((((w.alloc (.cells #[.slice (some ⟨w.heap.size + 1, 0, none⟩) 1 1, .slice none 0 0, .slice (some ⟨w.heap.size + 1 + 1, 0, none⟩) n n] 27)).alloc (.cells #[.int .i64 1, .bool true, .slice none 0 0, .string { data := #[] }] 65))).alloc (.cells ((List.replicate n (0 : Int)).map fun x => Value.int .i64 x).toArray 3)) (w.heap.size + 1) #[.int .i64 1, .bool true, .slice none 0 0, .string { data := #[] }] 65 := (Blk.new_i (w.alloc (.cells #[.slice (some ⟨w.heap.size + 1, 0, none⟩) 1 1, .slice none 0 0, .slice (some ⟨w.heap.size + 1 + 1, 0, none⟩) n n] 27)) _ _ _).alloc _; have := (hb.cell t).trans (by simpa [IRec.cells] using hu); simpa using this
   · simp at hq
 · intro q r x hr hx; rcases q with _ | q
   · cases hr; cases hx; exact ⟨rfl, rfl, rfl, ⟨none, 0, rfl, by simp, fun h => absurd h (by simp)⟩⟩
   · simp at hr
def linkM2 (S : PSt) (x : PIn) (r : PRes) (K : Nat) (l : ByteArray) : Except Int (PSt × PRes) :=
 match S.ins[K]? with
 | none => .error 0
 | some y => if hitE y.ents l = true then .error 2 else if fullM y.ents l { data := #[] } = true then .error 5 else .ok (S.ents K y (insAt y.ents (bsE y.ents l) ⟨l, x.num⟩), r)
def linkDo (S : PSt) (c : PCall) (r : PRes) : Except Int (PSt × PRes) :=
 if (walkM S 0 (parseM c.path).2).2 ≠ 0 then .error (walkM S 0 (parseM c.path).2).2 else
 match S.ins[(walkM S 0 (parseM c.path).2).1]? with
 | none => .error 0
 | some x => if x.dir = true then .error 8 else
   match parentM S (parseM c.path2).2 with
   | .error k => .error k
   | .ok (K, l) => linkM2 S x r K l
theorem Opened.at_call {B : Nat} {w : World} {d b bi gm capi capm : Nat} {ov nv : Value} {S : PSt} {c : PCall} {r : PRes} (o : Opened B w d b bi gm capi capm ov nv S c r) (hf : Fine S) (s : ByteArray) (hp : (parseM s).1 = 0) (hpl : (parseM s).2.length ≤ 1000000000) (K : Nat) (C : Int) (hW : walkM S 0 (parseM s).2 = (K, C)) :
 ∀ ww, Below w.heap.size w ww → Calls Tryz.prog 122 #[.pointer (some ⟨d, 0, none⟩), .string s] ww fun e w' => ((C = 0 ∧ e = .returned (.pointer (some ⟨bi, K * 4, none⟩))) ∨ (C ≠ 0 ∧ e = thrown C)) ∧ Below ww.heap.size ww w' := by
 intro ww hb
 refine (at122 d b S c s ww (o.at_.read.below hb (Nat.le_refl _)) hf hp hpl).mono ?_
 rintro e w' ⟨hb', ho⟩
 rw [hW] at ho
 refine ⟨?_, hb'⟩
 rcases ho with ⟨hC, bi', off', cap', hc, he⟩ | ⟨hC, he⟩
 · refine .inl ⟨hC, ?_⟩; have h2 := ((o.below hb).hb.cell 0).symm.trans hc; simp only [List.getElem?_toArray, List.getElem?_cons_zero, Option.some.injEq, Value.slice.injEq, Addr.mk.injEq] at h2; obtain ⟨⟨rfl, rfl, -⟩, -, rfl⟩ := h2; rw [he, Nat.zero_add]
 · exact .inr ⟨hC, he⟩
theorem Opened.parent_call {B : Nat} {w : World} {d b bi gm capi capm : Nat} {ov nv : Value} {S : PSt} {c : PCall} {r : PRes} (o : Opened B w d b bi gm capi capm ov nv S c r) (hf : Fine S) (s : ByteArray) (hp : (parseM s).1 = 0) (hpl : (parseM s).2.length ≤ 1000000000) (R : Except Int (Nat × ByteArray)) (hR : parentM S (parseM s).2 = R) :
 ∀ ww, Below w.heap.size w ww → Calls Tryz.prog 113 #[.pointer (some ⟨d, 0, none⟩), .string s] ww fun e w' => (match R with | .ok (K, l) => e = .returned (.tuple #[.pointer (some ⟨bi, K * 4, none⟩), .string l]) | .error k => e = thrown k) ∧ Below ww.heap.size ww w' := by
 intro ww hb
 refine (parent113 d b S c s ww (o.at_.read.below hb (Nat.le_refl _)) hf hp hpl).mono ?_
 rintro e w' ⟨hb', ho⟩
 rw [hR] at ho
 refine ⟨?_, hb'⟩
 rcases R with k | ⟨K, l⟩
 · exact ho
 · obtain ⟨bi', off', cap', hc, he⟩ := ho; have h2 := ((o.below hb).hb.cell 0).symm.trans hc; simp only [List.getElem?_toArray, List.getElem?_cons_zero, Option.some.injEq, Value.slice.injEq, Addr.mk.injEq] at h2; obtain ⟨⟨rfl, rfl, -⟩, -, rfl⟩ := h2; simp only; rw [he, Nat.zero_add]
structure InoAt (w : World) (bi K : Nat) (x : PIn) (ea : Option Addr) (ec : Nat) : Prop where
 iB : BlockLt bi w
 y0 : w.cell? ⟨bi, K * 4, none⟩ = some (.int .i64 x.num)
 y1 : w.cell? ⟨bi, K * 4 + 1, none⟩ = some (.bool x.dir)
 y2 : w.cell? ⟨bi, K * 4 + 2, none⟩ = some (.slice ea x.ents.length ec)
 y3 : w.cell? ⟨bi, K * 4 + 3, none⟩ = some (.string x.data)
 row : RowAt w 2 (.slice ea x.ents.length ec) (x.ents.map PEnt.cells)
 ent : ∀ ww l, Below w.heap.size w ww → Calls Tryz.prog 114 #[.slice ea x.ents.length ec, .string l] ww fun e w' => e = .returned (.tuple #[.int .i64 (bsE x.ents l), .bool (hitE x.ents l)]) ∧ Below ww.heap.size ww w'
 ful : ∀ ww l but, Below w.heap.size w ww → Calls Tryz.prog 116 #[.pointer (some ⟨bi, K * 4, none⟩), .string l, .string but] ww fun e w' => e = .returned (.bool (fullM x.ents l but)) ∧ Below ww.heap.size ww w'
theorem Opened.ino {B : Nat} {w : World} {d b bi gm capi capm : Nat} {ov nv : Value} {S : PSt} {c : PCall} {r : PRes} (o : Opened B w d b bi gm capi capm ov nv S c r) (hs : Small S) {K : Nat} {x : PIn} (hx : S.ins[K]? = some x) : ∃ ea ec, InoAt w bi K x ea ec := by
 obtain ⟨ai, capi', he, hat⟩ := o.st.read.ins_at2
 simp only [Value.slice.injEq] at he
 obtain ⟨rfl, -, rfl⟩ := he
 obtain ⟨bi', off', ev, he, iG, hone, hrow, hcl⟩ := hat K x hx
 simp only [Option.some.injEq, Addr.mk.injEq] at he
 obtain ⟨rfl, rfl, -⟩ := he
 obtain ⟨i1, y0, y1, y2, y3⟩ := hcl w (Below.refl _ _)
 rw [Nat.zero_add] at y0 y1 y2 y3
 have hrow' := hrow
 obtain ⟨ea, ec, rfl, _⟩ := hrow'
 have hl := hs.ents x (mG hx)
 rw [lM] at y2 hrow
 exact ⟨ea, ec, i1, y0, y1, y2, y3, hrow, fun ww l hww => entry114 x.ents _ l ww (hrow.below hww (Nat.le_refl _)) (by omega), fun ww l but hww => full116 bi (K * 4) x.ents _ l but ww ⟨by have := i1.lt; have := hww.size; omega⟩ ((hww.cell (p := ⟨bi, K * 4 + 2, none⟩) i1.lt).trans y2) (hrow.below hww (Nat.le_refl _)) (by omega)⟩
theorem link77 (B d b : Nat) (S : PSt) (c : PCall) (r : PRes) (w : World) (h : DoAt B w d b S c r) (hB : B ≤ w.heap.size) (hf : Fine S) (hs : Small S) (hmd : 0 < S.made.length) (hp : (parseM c.path).1 = 0) (hpl : (parseM c.path).2.length ≤ 1000000000) (hp2 : (parseM c.path2).1 = 0) (hpl2 : (parseM c.path2).2.length ≤ 1000000000) :
 Calls Tryz.prog 77 #[.pointer (some ⟨d, 0, none⟩)] w (RunOut B w d b c (linkDo S c r)) := by
 obtain ⟨bi, gm, capi, capm, ov, nv, ho⟩ := h.open_ hf.pos hmd
 obtain ⟨K1, C, hW⟩ : ∃ K C, walkM S 0 (parseM c.path).2 = (K, C) := ⟨_, _, rfl⟩
 have hat := ho.at_call hf c.path hp hpl K1 C hW
 have hlt := walkM_lt hf (parseM c.path).2 0 hf.pos
 unfold linkDo
 rw [hW] at hlt ⊢
 simp only at hlt ⊢
 have d6 : w.cell? ⟨d, 6, none⟩ = some (.string c.path) := ho.hD.cell 6
 have d7 : w.cell? ⟨d, 7, none⟩ = some (.string c.path2) := ho.hD.cell 7
 have iD := ho.hD.lt
 have iW : Bel w w := inferInstance
 obtain ⟨x, hx⟩ : ∃ x, S.ins[K1]? = some x := ⟨_, gE hlt⟩
 rw [hx]
 simp only
 by_cases hC : C = 0
 · rw [if_neg (by simpa using hC)]; have hat1 : ∀ ww, Below w.heap.size w ww → Calls Tryz.prog 122 #[.pointer (some ⟨d, 0, none⟩), .string c.path] ww fun e w' => e = .returned (.pointer (some ⟨bi, K1 * 4, none⟩)) ∧ Below ww.heap.size ww w' := fun ww hb => (hat ww hb).mono fun e w' ⟨h1, h2⟩ => ⟨by rcases h1 with ⟨_, h⟩ | ⟨h, _⟩ <;> first | exact h | exact absurd hC h, h2⟩
   obtain ⟨ea1, ec1, hI1⟩ := ho.ino hs hx; obtain ⟨iBi, x0, x1, _⟩ := hI1; obtain ⟨PM, hPM⟩ : ∃ PM, parentM S (parseM c.path2).2 = PM := ⟨_, rfl⟩
   have hpar := ho.parent_call hf c.path2 hp2 hpl2 PM hPM; rw [hPM]; clear hat hlt hC; by_cases hdir : x.dir = true
   · rw [if_pos hdir]; rw [hdir] at x1; clear hpar hPM hx hf hs ho hdir
     go_enter Tryz.func77, Tryz.ntmps77
     go_wp2_with (first | (go_at_call 122; refine (hat1 _ (bel _ _)).mono ?_; rintro e w' ⟨rfl, hb⟩; obtain ⟨p, rfl⟩ := hb.rest; clear hb) | (go_at_call 115; refine (throw_yes _ _).mono ?_; rintro e w' ⟨rfl, hb⟩; obtain ⟨p, rfl⟩ := hb.rest; clear hb))
     exact ⟨rfl, (bel w _).mono hB, rfl⟩
   · rw [if_neg hdir]; have hdir : x.dir = false := by simpa using hdir
     rw [hdir] at x1; rcases PM with k | ⟨K, l⟩
     · simp only; have hpar1 : ∀ ww, Below w.heap.size w ww → Calls Tryz.prog 113 #[.pointer (some ⟨d, 0, none⟩), .string c.path2] ww fun e w' => e = thrown k ∧ Below ww.heap.size ww w' := hpar
       clear hpar hPM hx hf hs ho
       go_enter Tryz.func77, Tryz.ntmps77
       go_wp2_with (first | (go_at_call 122; refine (hat1 _ (bel _ _)).mono ?_; rintro e w' ⟨rfl, hb⟩; obtain ⟨p, rfl⟩ := hb.rest; clear hb) | (go_at_call 115; with_reducible refine aT (throw_no _ _) fun p => ?_) | (go_at_call 113; refine (hpar1 _ (bel _ _)).mono ?_; rintro e w' ⟨rfl, hb⟩; obtain ⟨p, rfl⟩ := hb.rest; clear hb))
       exact ⟨rfl, (bel w _).mono hB, rfl⟩
     · have hpar1 : ∀ ww, Below w.heap.size w ww → Calls Tryz.prog 113 #[.pointer (some ⟨d, 0, none⟩), .string c.path2] ww fun e w' => e = .returned (.tuple #[.pointer (some ⟨bi, K * 4, none⟩), .string l]) ∧ Below ww.heap.size ww w' := hpar
       obtain ⟨y, hy, _⟩ := parent_ok hPM; obtain ⟨ea, ec, hI⟩ := ho.ino hs hy; have hent := fun ww hb => hI.ent ww l hb
       have hful := fun ww hb => hI.ful ww l { data := #[] } hb
       have y2 := hI.y2; simp only; unfold linkM2; rw [hy]; simp only; generalize hhit : hitE y.ents l = hit at hent ⊢; generalize hfu : fullM y.ents l { data := #[] } = fu at hful ⊢; have hyl := hs.ents y (mG hy); have hput : ∀ ww, Below w.heap.size w ww → Calls Tryz.prog 118 #[.pointer (some ⟨bi, K * 4, none⟩), .string l, .int .i64 x.num] ww _ := fun ww hb => put118 B ww ov (.slice (some ⟨gm, 0, none⟩) S.made.length capm) S bi capi K y l x.num (ho.below hb).st hy (Nat.le_trans hB hb.size) hyl
       have HO := Lib.hid ho; clear hpar hPM hx hf hs ho hI hhit hfu hy; rcases hit with _ | _
       · simp only [Bool.false_eq_true, if_false]; rcases fu with _ | _
         · simp only [Bool.false_eq_true, if_false]
           go_enter Tryz.func77, Tryz.ntmps77
           go_wp2_with (first | (go_at_call 122; refine (hat1 _ (bel _ _)).mono ?_; rintro e w' ⟨rfl, hb⟩; obtain ⟨p, rfl⟩ := hb.rest; clear hb) | (go_at_call 115; with_reducible refine aT (throw_no _ _) fun p => ?_) | (go_at_call 113; refine (hpar1 _ (bel _ _)).mono ?_; rintro e w' ⟨rfl, hb⟩; obtain ⟨p, rfl⟩ := hb.rest; clear hb) | (go_at_call 114; refine aT (hent _ (bel _ _)) fun p => ?_) | (go_at_call 116; refine aT (hful _ (bel _ _)) fun p => ?_) | (go_at_call 118; refine (hput _ (bel _ _)).mono ?_; rintro e w3 ⟨rfl, hb3, hk3, hs3⟩; have o3 := Opened.put (HO.out.below (bel w _)) hk3 hs3; have HW3 := Lib.hid (And.intro o3 (((bel w _).mono hB).trans hb3)); clear hb3 hk3 hs3 o3))
           exact bodyPost_end (v := .tuple #[]) (by simp [results, go_sem]) rfl ⟨HW3.out.2, rfl, HW3.out.1.at_⟩
         · simp only [if_true]
           go_enter Tryz.func77, Tryz.ntmps77
           go_wp2_with (first | (go_at_call 122; refine (hat1 _ (bel _ _)).mono ?_; rintro e w' ⟨rfl, hb⟩; obtain ⟨p, rfl⟩ := hb.rest; clear hb) | (go_at_call 113; refine (hpar1 _ (bel _ _)).mono ?_; rintro e w' ⟨rfl, hb⟩; obtain ⟨p, rfl⟩ := hb.rest; clear hb) | (go_at_call 114; refine aT (hent _ (bel _ _)) fun p => ?_) | (go_at_call 116; refine aT (hful _ (bel _ _)) fun p => ?_) | (go_at_call 115; with_reducible refine aT (throw_no _ _) fun p => ?_) | (go_at_call 115; with_reducible refine (throw_yes _ _).mono ?_; rintro e w' ⟨rfl, hb⟩; obtain ⟨p, rfl⟩ := hb.rest; clear hb))
           exact ⟨rfl, (bel w _).mono hB, rfl⟩
       · simp only [if_true]
         go_enter Tryz.func77, Tryz.ntmps77
         go_wp2_with (first | (go_at_call 122; refine (hat1 _ (bel _ _)).mono ?_; rintro e w' ⟨rfl, hb⟩; obtain ⟨p, rfl⟩ := hb.rest; clear hb) | (go_at_call 113; refine (hpar1 _ (bel _ _)).mono ?_; rintro e w' ⟨rfl, hb⟩; obtain ⟨p, rfl⟩ := hb.rest; clear hb) | (go_at_call 114; refine aT (hent _ (bel _ _)) fun p => ?_) | (go_at_call 115; with_reducible refine aT (throw_no _ _) fun p => ?_) | (go_at_call 115; with_reducible refine (throw_yes _ _).mono ?_; rintro e w' ⟨rfl, hb⟩; obtain ⟨p, rfl⟩ := hb.rest; clear hb))
         exact ⟨rfl, (bel w _).mono hB, rfl⟩
 · rw [if_pos (by simpa using hC)]; have hat1 : ∀ ww, Below w.heap.size w ww → Calls Tryz.prog 122 #[.pointer (some ⟨d, 0, none⟩), .string c.path] ww fun e w' => e = thrown C ∧ Below ww.heap.size ww w' := fun ww hb => (hat ww hb).mono fun e w' ⟨h1, h2⟩ => ⟨by rcases h1 with ⟨h, _⟩ | ⟨_, h⟩ <;> first | exact h | exact absurd h hC, h2⟩
   clear hat hlt hx hf hs ho
   go_enter Tryz.func77, Tryz.ntmps77
   go_wp2_with (first | (go_at_call 122; refine (hat1 _ (bel _ _)).mono ?_; rintro e w' ⟨rfl, hb⟩; obtain ⟨p, rfl⟩ := hb.rest; clear hb))
   exact ⟨rfl, (bel w _).mono hB, rfl⟩
theorem flat_split (k : Nat) (rows : List (List Value)) (i : Nat) (hu : ∀ cs ∈ rows, cs.length = k) : rows.flatten = (rows.take i).flatten ++ (rows.drop i).flatten := by
 rw [← List.flatten_append, List.take_append_drop]
theorem RowsIn.erase {arr arr' : Array Value} {k i : Nat} {rows : List (List Value)} (h : RowsIn arr k rows) (hu : ∀ cs ∈ rows, cs.length = k) (hi : i < rows.length)
 (h1 : ∀ j, j < i * k → arr'[j]? = arr[j]?) (h3 : ∀ j, i * k ≤ j → j < (rows.length - 1) * k → arr'[j]? = arr[j + k]?) : RowsIn arr' k (rows.take i ++ rows.drop (i + 1)) := by
 intro q cs hq t u hu'
 have hmul : ∀ a b : Nat, a < b → a * k + k ≤ b * k := fun a b hab => by
  have := Nat.mul_le_mul_right k (show a + 1 ≤ b from hab); rw [Nat.add_mul] at this; omega
 have htl : (rows.take i).length = i := by rw [List.length_take]; omega
 by_cases hqi : q < i
 · rw [List.getElem?_append_left (by omega), List.getElem?_take, if_pos hqi] at hq; have htk : t < k := by
    have := hu cs (mG hq); obtain ⟨h, _⟩ := gI.1 hu'; omega
   have := hmul q i hqi; rw [h1 _ (by omega)]; exact h q cs hq t u hu'
 · rw [List.getElem?_append_right (by omega), htl, List.getElem?_drop, show i + 1 + (q - i) = q + 1 by omega] at hq; obtain ⟨hql, _⟩ := gI.1 hq; have htk : t < k := by
    have := hu cs (mG hq); obtain ⟨h, _⟩ := gI.1 hu'; omega
   have g1 : i * k ≤ q * k := Nat.mul_le_mul_right _ (by omega); have g2 := hmul q (rows.length - 1) (by omega); rw [h3 _ (by omega) (by omega)]; have e : q * k + t + k = (q + 1) * k + t := by rw [Nat.add_mul]; omega
   rw [e]; exact h (q + 1) cs hq t u hu'
theorem exec_append {P : Program} {o : Oper} {a : Act} {w : World} {d s : Operand} {t t' : TypeId}
 (ho : o.op = .call { callee := .builtin .append, args := #[d, s], argTypes := #[t, t'] }) {v u : Value} (hd : a.eval d = v) (hs : a.eval s = u) {v' : Value} {w' : World}
 (hr : (Builtin.append_ #[t, t'] o.type #[v, u]).run P w = .ok v' w') : (execOp a.eval o).run P w = .ok (.value v') w' := by
 unfold execOp
 simp only [ho, resolve, invoke, builtin, Sem.run_bind, Sem.run_pure, Result.andThen_ok, List.map_toArray, List.map_cons, List.map_nil, hd, hs, hr]
theorem run_clear_wide {P : Program} (w : World) (t e ty : TypeId) (z : Value) (ht : P.underlying t = some (.slice e)) (hv : ∀ w, (zeroValue e).run P w = .ok z w) (h1 : ∀ v ∈ z.cells, v.oneCell' = true) (b o n c : Nat) (hn : 0 < n)
 (hc : ∀ j, j < (Builtin.zeroCells z.cells n).toList.length → (w.cell? ⟨b, o + j, none⟩).isSome = true) (hf : ∀ j, j < (Builtin.zeroCells z.cells n).toList.length → w.frozen? ⟨b, o + j, none⟩ = false) :
 (Builtin.clear_ #[t] ty #[.slice (some ⟨b, o, none⟩) n c]).run P w = .ok (.tuple #[]) (w.setCells b o (Builtin.zeroCells z.cells n).toList) := by
 have hz : ∀ v ∈ (Builtin.zeroCells z.cells n).toList, v.oneCell' = true := by
  intro v hv'; simp only [Builtin.zeroCells] at hv'; obtain ⟨i, hi, rfl⟩ := List.mem_iff_getElem.1 hv'; simp at hi; have hpos : 0 < z.cells.size := by
   rcases Nat.eq_zero_or_pos z.cells.size with h | h
   · rw [h] at hi; simp at hi
   · exact h
  have hlt := Nat.mod_lt i hpos; simp only [Array.getElem_toList, Array.getElem_map, Array.getElem_range]; rw [getElem!_pos z.cells _ hlt]; exact h1 _ (Array.getElem_mem hlt)
 have hst := run_storeCells_cells (P := P) b o (Builtin.zeroCells z.cells n).toList 0 w (by simpa using hc) (by simpa using hf) hz
 simp only [Nat.add_zero] at hst
 obtain ⟨m, rfl⟩ : ∃ m, n = m + 1 := ⟨n - 1, by omega⟩
 simp [Builtin.clear_, run_underlying ht, hv, hst]
theorem zeroV88 (w : World) : (zeroValue 88).run Tryz.prog w = .ok (.agg #[.int .i64 0, .int .i64 0, .int .i64 0]) w := by kernel_rfl
theorem delete74 (B : Nat) (g cap : Nat) (rows : List (List Value)) (i : Nat) (w : World) (h : OwnP B w 88 3 (.slice (some ⟨g, 0, none⟩) rows.length cap) rows) (hu : ∀ cs ∈ rows, cs.length = 3) (h1r : ∀ cs ∈ rows, ∀ u ∈ cs, u.oneCell' = true) (hi : i < rows.length) (hn : rows.length ≤ 1000000000) :
 Calls Tryz.prog 74 #[.slice (some ⟨g, 0, none⟩) rows.length cap, .int .i64 i, .int .i64 ((i : Int) + 1)] w fun e w' => e = .returned (.slice (some ⟨g, 0, none⟩) (rows.length - 1) cap) ∧ OwnP B w' 88 3 (.slice (some ⟨g, 0, none⟩) (rows.length - 1) cap) (rows.take i ++ rows.drop (i + 1)) ∧ Keep (fun k => k = g) w w' := by
 obtain ⟨i0, hi0, hz0, hz1, hz2⟩ := info_parts info88
 obtain ⟨hgB, arr, hgb, hnc, hcm, hsz, hri⟩ : B ≤ g ∧ ∃ arr, Blk w g arr 88 ∧ rows.length ≤ cap ∧ cap ≤ maxLen ∧ arr.size = cap * 3 ∧ RowsIn arr 3 rows := by
  rcases h with ⟨h0, _⟩ | ⟨g', cap', arr, h0, a1, a2, a3, a4, a5, a6⟩
  · simp at h0
  · simp only [Value.slice.injEq, Option.some.injEq, Addr.mk.injEq] at h0; obtain ⟨⟨rfl, -, -⟩, -, rfl⟩ := h0; exact ⟨a1, arr, a2, a3, a4, a5, a6⟩
 have hcm2 := hcm
 unfold maxLen at hcm2
 have iG := hgb.lt
 have hflat := hri.flat hu
 obtain ⟨news, hnews⟩ : ∃ news, (rows.drop (i + 1)).flatten = news := ⟨_, rfl⟩
 have hnl : news.length = (rows.length - (i + 1)) * 3 := by
  rw [← hnews, flat_len 3 _ (fun cs hc => hu cs (List.mem_of_mem_drop hc)), List.length_drop]
 have hn1 : ∀ u ∈ news, u.oneCell' = true := fun u hu' => by
  rw [← hnews] at hu'; obtain ⟨cs, hc, hx⟩ := List.mem_flatten.1 hu'; exact h1r cs (List.mem_of_mem_drop hc) u hx
 have hnat : ∀ j u, news[j]? = some u → arr[(i + 1) * 3 + j]? = some u := fun j u hj => by
  have hjl : j < news.length := by
   obtain ⟨h, _⟩ := gI.1 hj; exact h
  rw [hflat _ (by omega)]; have e := flat_split 3 rows (i + 1) hu; rw [e, List.getElem?_append_right (by rw [flat_len 3 _ (fun cs hc => hu cs (List.mem_of_mem_take hc)), List.length_take]; omega), hnews]; rw [flat_len 3 _ (fun cs hc => hu cs (List.mem_of_mem_take hc)), List.length_take]; rw [show (i + 1) * 3 + j - min (i + 1) rows.length * 3 = j by omega]; exact hj
 have hca : ∀ j u, news[j]? = some u → w.drew.cell? ((⟨g, 0 + (i + 1) * 3, none⟩ : Addr).add j) = some u := fun j u hj => by
  rw [Addr.add_lit]; show w.cell? ⟨g, 0 + (i + 1) * 3 + j, none⟩ = _; rw [hgb.cell, Nat.zero_add]; exact hnat j u hj
 have hrun : ∀ c2 ty, (Builtin.append_ #[24, 24] ty #[.slice (some ⟨g, 0, none⟩) i cap, .slice (if cap = i + 1 then some ⟨g, 0, none⟩ else some ⟨g, (i + 1) * 3, none⟩) (rows.length - (i + 1)) c2]).run Tryz.prog w.drew = .ok (.slice (some ⟨g, 0, none⟩) (i + (rows.length - (i + 1))) cap) (w.drew.setCells g (0 + i * 3) news) := fun c2 ty => by
  have hsp : ∀ j, j < news.length → (w.drew.cell? ⟨g, 0 + i * i0.size + j, none⟩).isSome = true := fun j hj => by
   rw [hz1]; show (w.cell? ⟨g, _, none⟩).isSome = true; rw [hgb.cell]; simp; omega
  by_cases hcc : cap = i + 1
  · rw [if_pos hcc]; have hnil : news = [] := List.eq_nil_of_length_eq_zero (by rw [hnl]; have : rows.length - (i + 1) = 0 := (by omega); rw [this, Nat.zero_mul]); have := run_append_room_cells (P := Tryz.prog) (w := w.drew) 24 ty 88 i0 Tryz.underlying24 hi0 g 0 i cap ⟨g, 0, none⟩ (rows.length - (i + 1)) c2 news (by rw [hnl, hz1]) (fun j u hj => by rw [hnil] at hj; simp at hj) hn1 (by omega) hsp (fun j hj => hgb.frozen _); rw [hz1] at this; exact this
  · rw [if_neg hcc]; have := run_append_room_cells (P := Tryz.prog) (w := w.drew) 24 ty 88 i0 Tryz.underlying24 hi0 g 0 i cap ⟨g, (i + 1) * 3, none⟩ (rows.length - (i + 1)) c2 news (by rw [hnl, hz1]) (fun j u hj => by have := hca j u hj; rw [Nat.zero_add] at this; exact this) hn1 (by omega) hsp (fun j hj => hgb.frozen _); rw [hz1] at this; exact this
 obtain ⟨arr2, hb2, hs2, hout, hin⟩ := Blk.setCells_at g 88 news (0 + i * 3) w.drew arr hgb.drew (by omega)
 have hk2 : Keep (fun k => k = g) w (w.drew.setCells g (0 + i * 3) news) := Keep.setCells (S := fun k => k = g) rfl news _ ((Keep.refl _ w).drew)
 obtain ⟨w2, hw2⟩ : ∃ w2, w.drew.setCells g (0 + i * 3) news = w2 := ⟨_, rfl⟩
 simp only [hw2] at hrun hb2 hk2
 obtain ⟨zs, hzs⟩ : ∃ zs, (Builtin.zeroCells (.agg #[.int .i64 0, .int .i64 0, .int .i64 0] : Value).cells 1).toList = zs := ⟨_, rfl⟩
 have hzl : zs.length = 3 := by rw [← hzs]; kernel_rfl
 have hclr : ∀ c2 ty, (Builtin.clear_ #[24] ty #[.slice (some ⟨g, 0 + (rows.length - 1) * 3, none⟩) (rows.length - (rows.length - 1)) c2]).run Tryz.prog w2 = .ok (.tuple #[]) (w2.setCells g (0 + (rows.length - 1) * 3) zs) := fun c2 ty => by
  rw [show rows.length - (rows.length - 1) = 1 by omega, ← hzs]; refine run_clear_wide w2 24 88 ty (.agg #[.int .i64 0, .int .i64 0, .int .i64 0]) Tryz.underlying24 zeroV88 (by decide) g (0 + (rows.length - 1) * 3) 1 c2 (by omega) (fun j hj => ?_) (fun j hj => hb2.frozen _); rw [hzs, hzl] at hj; rw [hb2.cell]; simp; omega
 obtain ⟨arr3, hb3, hs3, hout3, hin3⟩ := Blk.setCells_at g 88 zs (0 + (rows.length - 1) * 3) w2 arr2 hb2 (by omega)
 have hk3 : Keep (fun k => k = g) w (w2.setCells g (0 + (rows.length - 1) * 3) zs) := Keep.setCells (S := fun k => k = g) rfl zs _ hk2
 obtain ⟨w3, hw3⟩ : ∃ w3, w2.setCells g (0 + (rows.length - 1) * 3) zs = w3 := ⟨_, rfl⟩
 simp only [hw3] at hclr hb3 hk3
 have hrows : RowsIn arr3 3 (rows.take i ++ rows.drop (i + 1)) := by
  refine hri.erase hu hi (fun j hj => ?_) (fun j hj hj2 => ?_)
  · rw [hout3 j (by omega), hout j (by omega)]
  · rw [hout3 j (by omega)]; have := hin (j - i * 3) (by omega); rw [show 0 + i * 3 + (j - i * 3) = j by omega] at this; rw [this]; obtain ⟨u, hu2⟩ : ∃ u, news[j - i * 3]? = some u := ⟨_, gE (by omega)⟩
    rw [hu2, ← hnat _ _ hu2]
    congr 1
    omega
 have hlen : (rows.take i ++ rows.drop (i + 1)).length = rows.length - 1 := by rw [lP, List.length_take, List.length_drop]; omega
 have hfin : OwnP B w3 88 3 (.slice (some ⟨g, 0, none⟩) (rows.length - 1) cap) (rows.take i ++ rows.drop (i + 1)) := .inr ⟨g, cap, arr3, by rw [hlen], hgB, hb3, by omega, hcm, by omega, hrows⟩
 have HF := Lib.hid (And.intro hfin hk3)
 have iG2 := hb2.lt
 have hm1 : i + (rows.length - (i + 1)) = rows.length - 1 := by omega
 rw [hm1] at hrun
 simp only [Nat.zero_add] at hrun hclr
 have HRUN := Lib.hid (And.intro hrun hclr)
 have b1 : (i : Int) + 1 ≤ rows.length := by omega
 have b2 : (i : Int) < rows.length := by omega
 have b3 : (i : Int) ≤ cap := by omega
 have b4 : i ≤ cap := by omega
 have b5 : i + 1 ≤ rows.length := by omega
 have ncI : (rows.length : Int) ≤ cap := by omega
 clear hri hflat hnat hca hrun hclr hout hin hout3 hin3 hrows hfin hk2 hk3 h1r hu hnews hnl hn1 hzs hzl hlen
 go_enter Tryz.func74, Tryz.ntmps74
 go_upto_region 5 with fail
 refine wp_region_eff [6] false (fun w' => True) (by kernel_rfl) (by kernel_rfl) trivial ?_
 repeat
  refine wpL_look rfl rfl ?_; apply Exists.intro; refine ⟨?_, ?_⟩
  focus
   rintro w' _; go_simp
   first | done | rfl
  simp only [Act.put, sA, sZ, sS]
 refine wpL_do rfl rfl ?_
 refine ⟨_, _, exec_append rfl rfl rfl (HRUN.out.1 _ _), .inl trivial, ?_⟩
 simp only [Act.put, sA, sZ, sS]
 repeat
  refine wpL_look rfl rfl ?_; apply Exists.intro; refine ⟨?_, ?_⟩
  focus
   rintro w' _; go_simp
   first | done | rfl
  simp only [Act.put, sA, sZ, sS]
 refine wpL_end ?_
 generalize (if cap = i + 1 then (some ⟨g, 0, none⟩ : Option Addr) else some ⟨g, (i + 1) * 3, none⟩) = xa
 have hcl2 := HRUN.out.2
 have b6 : rows.length - 1 ≤ rows.length := by omega
 have b7 : ((rows.length - 1 : Nat) : Int) ≤ rows.length := by omega
 have b8 : rows.length ≤ cap := hnc
 go_wp2_with fail
 go_ret
 exact ⟨rfl, HF.out.1, HF.out.2⟩
def delAt {α : Type} (l : List α) (i : Nat) : List α := l.take i ++ l.drop (i + 1)
theorem delAt_map {α β : Type} (f : α → β) (l : List α) (i : Nat) : (delAt l i).map f = (l.map f).take i ++ (l.map f).drop (i + 1) := by simp [delAt, List.map_take, List.map_drop]
theorem run_link (B d b : Nat) (S : PSt) (c : PCall) (r : PRes) (w : World) (h : DoAt B w d b S c r) (hk : c.kind = 8) (R : Except Int (PSt × PRes)) (ht : Calls Tryz.prog 77 #[.pointer (some ⟨d, 0, none⟩)] w (RunOut B w d b c R)) :
 Calls Tryz.prog 41 #[.pointer (some ⟨d, 0, none⟩)] w (RunOut B w d b c R) := by
 obtain ⟨iD, d1⟩ := h.kind
 rw [hk] at d1
 clear h
 rcases R with k | ⟨S', r'⟩
 all_goals (go_enter Tryz.func41, Tryz.ntmps41)
 · go_wp2_with (go_at_call 77; refine ht.mono ?_; rintro e w1 ⟨hb1, hr1⟩; obtain rfl : e = thrown k := hr1)
   exact ⟨rfl, hb1, rfl⟩
 · go_wp2_with (go_at_call 77; refine ht.mono ?_; rintro e w1 ⟨hb1, hr1⟩; have hr2 : e = .returned (.tuple #[]) ∧ DoAt B w1 d b S' c r' := hr1; clear hr1; obtain ⟨rfl, hd1⟩ := hr2; have HD := Lib.hid hd1; clear hd1)
   exact bodyPost_end (v := .tuple #[]) (by simp [results, go_sem]) rfl ⟨hb1, rfl, HD.out⟩
theorem did_link {S : PSt} {c : PCall} {S' : PSt} {r' : PRes} (hwf : S.wf) (hs : Small S) (hk : c.kind = 8) (hp : (parseM c.path).1 = 0) (hpl : (parseM c.path).2.length ≤ 1000000000) (hp2 : (parseM c.path2).1 = 0) (hpl2 : (parseM c.path2).2.length ≤ 1000000000) (he : doM S c (linkDo S c PRes.zero) = (S', r')) : Did S c S' r' :=
 did_of _ hwf he fun hm B ww d b hd hB => run_link B d b S c PRes.zero ww hd hk _ (link77 B d b S c PRes.zero ww hd hB (fine_of_may hwf (mayc_may hm).1) hs (by have := (mayc_may hm).2; omega) hp hpl hp2 hpl2)
def byteAt (s : ByteArray) (p : Nat) : Int := if h : p < s.size then ((s[p]'h).toNat : Int) else 0
theorem byteAt_in {s : ByteArray} {p : Nat} (h : p < s.size) : byteAt s p = ((s[p]'h).toNat : Int) := by simp [byteAt, h]
theorem byteAt_bounds (s : ByteArray) (p : Nat) : 0 ≤ byteAt s p ∧ byteAt s p < 256 := by
 unfold byteAt
 split
 · rename_i h
   have : (s[p]'h).toNat < 256 := UInt8.toNat_lt _; omega
 · omega
def nextR (s : ByteArray) (p : Nat) : Int := if p < s.size then (if byteAt s p < 128 then -1 else if 191 < byteAt s p then -1 else byteAt s p - 128) else -1
theorem next140 (s : ByteArray) (p : Nat) (w : World) :
 Calls Tryz.prog 140 #[.string s, .int .i64 p] w fun e w' => e = .returned (.int .i64 (nextR s p)) ∧ Below w.heap.size w w' := by
 generalize hR : nextR s p = R
 have HR := Lib.hid hR
 clear hR
 by_cases hp : p < s.size
 · have hpI : ¬ (s.size : Int) ≤ p := by omega
   have hw := byteAt_in hp; have hb : 0 ≤ byteAt s p ∧ byteAt s p < 256 := byteAt_bounds s p; have hre : (if byteAt s p < 128 then -1 else if 191 < byteAt s p then -1 else byteAt s p - 128) = R := by rw [← HR.out]; simp [nextR, hp]
   clear HR; rw [hw] at hre hb; clear hw; by_cases h1 : ((s[p].toNat : Nat) : Int) < 128
   · rw [if_pos h1] at hre; subst hre
     go_enter Tryz.func140, Tryz.ntmps140
     go_wp2_with fail; exact bodyPost_ret (v := .int .i64 (-1)) (by simp [results, Tryz.results140, go_sem]) rfl ⟨rfl, bel _ _⟩
   · rw [if_neg h1] at hre; by_cases h2 : (191 : Int) < ((s[p].toNat : Nat) : Int)
     · rw [if_pos h2] at hre; subst hre
       go_enter Tryz.func140, Tryz.ntmps140
       go_wp2_with fail; exact bodyPost_ret (v := .int .i64 (-1)) (by simp [results, Tryz.results140, go_sem]) rfl ⟨rfl, bel _ _⟩
     · rw [if_neg h2] at hre; subst hre
       go_enter Tryz.func140, Tryz.ntmps140
       go_wp2_with fail; refine bodyPost_ret (v := .int .i64 ((s[p].toNat : Nat) - 128)) (by simp [results, Tryz.results140, go_sem]) rfl ⟨rfl, bel _ _⟩
 · have hpI : (s.size : Int) ≤ p := by omega
   have hre : -1 = R := by rw [← HR.out]; simp [nextR, hp]
   subst hre
   go_enter Tryz.func140, Tryz.ntmps140
   go_wp2_with fail; exact bodyPost_ret (v := .int .i64 (-1)) (by simp [results, Tryz.results140, go_sem]) rfl ⟨rfl, bel _ _⟩
def rune1B (c a b d : Int) : Int × Int :=
 if c < 128 then (c, 1)
 else if 194 ≤ c ∧ c ≤ 223 ∧ 0 ≤ a then ((c - 192) * 64 + a, 2)
 else if 224 ≤ c ∧ c ≤ 239 ∧ 0 ≤ a ∧ 0 ≤ b then
  (if 2048 ≤ (c - 224) * 4096 + a * 64 + b ∧ ((c - 224) * 4096 + a * 64 + b < 55296 ∨ 57343 < (c - 224) * 4096 + a * 64 + b) then ((c - 224) * 4096 + a * 64 + b, 3) else (65533, 0))
 else if 240 ≤ c ∧ c ≤ 244 ∧ 0 ≤ a ∧ 0 ≤ b ∧ 0 ≤ d then
  (if 65536 ≤ (c - 240) * 262144 + a * 4096 + b * 64 + d ∧ (c - 240) * 262144 + a * 4096 + b * 64 + d ≤ 1114111 then ((c - 240) * 262144 + a * 4096 + b * 64 + d, 4) else (65533, 0))
 else (65533, 0)
def rune1R (s : ByteArray) (p : Nat) : Int × Int := rune1B (byteAt s p) (nextR s (p + 1)) (nextR s (p + 2)) (nextR s (p + 3))
theorem nextR_bounds (s : ByteArray) (p : Nat) : -1 ≤ nextR s p ∧ nextR s p ≤ 63 := by
 have := byteAt_bounds s p
 unfold nextR
 split
 · split
   · omega
   · split <;> omega
 · omega
theorem rune93 (s : ByteArray) (p : Nat) (hp : p < s.size) (hs : s.size ≤ 1000000000000) (w : World) :
 Calls Tryz.prog 93 #[.string s, .int .i64 p] w fun e w' => e = .returned (.tuple #[.int .i64 (rune1R s p).1, .int .i64 (rune1R s p).2]) ∧ Below w.heap.size w w' := by
 obtain ⟨R, hR⟩ : ∃ R, rune1R s p = R := ⟨_, rfl⟩
 rw [hR]
 unfold rune1R at hR
 rw [byteAt_in hp] at hR
 have hn1 : ∀ ww, Calls Tryz.prog 140 #[.string s, .int .i64 ((p : Int) + 1)] ww fun e w' => e = .returned (.int .i64 (nextR s (p + 1))) ∧ Below ww.heap.size ww w' := fun ww => by simpa using next140 s (p + 1) ww
 have hn2 : ∀ ww, Calls Tryz.prog 140 #[.string s, .int .i64 ((p : Int) + 2)] ww fun e w' => e = .returned (.int .i64 (nextR s (p + 2))) ∧ Below ww.heap.size ww w' := fun ww => by simpa using next140 s (p + 2) ww
 have hn3 : ∀ ww, Calls Tryz.prog 140 #[.string s, .int .i64 ((p : Int) + 3)] ww fun e w' => e = .returned (.int .i64 (nextR s (p + 3))) ∧ Below ww.heap.size ww w' := fun ww => by simpa using next140 s (p + 3) ww
 have ba := nextR_bounds s (p + 1)
 have bb := nextR_bounds s (p + 2)
 have bd := nextR_bounds s (p + 3)
 generalize nextR s (p + 1) = a at hR hn1 ba
 generalize nextR s (p + 2) = b at hR hn2 bb
 generalize nextR s (p + 3) = d at hR hn3 bd
 have w1 : IntKind.i64.wrap ((p : Int) + 1) = (p : Int) + 1 := I64.wrap ⟨by omega, by omega⟩
 have w2 : IntKind.i64.wrap ((p : Int) + 2) = (p : Int) + 2 := I64.wrap ⟨by omega, by omega⟩
 have w3 : IntKind.i64.wrap ((p : Int) + 3) = (p : Int) + 3 := I64.wrap ⟨by omega, by omega⟩
 have hc : (s[p].toNat : Int) < 256 := by have := UInt8.toNat_lt s[p]; omega
 obtain ⟨c, ec⟩ : ∃ c : Int, (s[p].toNat : Int) = c := ⟨_, rfl⟩
 have hc0 : 0 ≤ c := by omega
 rw [ec] at hR hc
 have HR := Lib.hid hR
 clear hR
 go_enter Tryz.func93, Tryz.ntmps93
 go_upto_region 3 with (first | (go_at_call 140; with_reducible refine aT (hn1 _) fun p => ?_) | (go_at_call 140; with_reducible refine aT (hn2 _) fun p => ?_) | (go_at_call 140; with_reducible refine aT (hn3 _) fun p => ?_))
 have hcs : c < 128 ∨ (128 ≤ c ∧ c < 194) ∨ (194 ≤ c ∧ c < 224) ∨ (224 ≤ c ∧ c < 240) ∨ (240 ≤ c ∧ c < 245) ∨ 245 ≤ c := by omega
 clear ec hn1 hn2 hn3 w1 w2 w3
 rcases hcs with hcs | hcs | hcs | hcs | hcs | hcs
 · have f0 : c < 128 := by omega
   have f1 : ¬ 194 ≤ c := by omega
   have f2 : c ≤ 223 := by omega
   have f3 : ¬ 224 ≤ c := by omega
   have f4 : c ≤ 239 := by omega
   have f5 : ¬ 240 ≤ c := by omega
   have f6 : c ≤ 244 := by omega
   have hre : (c, (1 : Int)) = R := by rw [← HR.out]; unfold rune1B; simp (config := { zeta := true }) only [*]; simp [*]
   subst hre; clear HR; go_wp2_with fail; exact bodyPost_ret (v := .tuple #[.int .i64 (c), .int .i64 1]) (by simp [results, Tryz.results93, go_sem]) rfl ⟨rfl, bel _ _⟩
 · have f0 : ¬ c < 128 := by omega
   have f1 : ¬ 194 ≤ c := by omega
   have f2 : c ≤ 223 := by omega
   have f3 : ¬ 224 ≤ c := by omega
   have f4 : c ≤ 239 := by omega
   have f5 : ¬ 240 ≤ c := by omega
   have f6 : c ≤ 244 := by omega
   have hre : (65533, (0 : Int)) = R := by rw [← HR.out]; unfold rune1B; simp (config := { zeta := true }) only [*]; simp [*]
   subst hre; clear HR; go_wp2_with fail; exact bodyPost_ret (v := .tuple #[.int .i64 (65533), .int .i64 0]) (by simp [results, Tryz.results93, go_sem]) rfl ⟨rfl, bel _ _⟩
 · by_cases ha : 0 ≤ a
   · have f0 : ¬ c < 128 := by omega
     have f1 : 194 ≤ c := by omega
     have f2 : c ≤ 223 := by omega
     have f3 : ¬ 224 ≤ c := by omega
     have f4 : c ≤ 239 := by omega
     have f5 : ¬ 240 ≤ c := by omega
     have f6 : c ≤ 244 := by omega
     have f7 : 0 ≤ a := by omega
     have g0 : IntKind.i64.wrap (c - 192) = c - 192 := I64.wrap ⟨by omega, by omega⟩; have g1 : IntKind.i64.wrap ((c - 192) * 64) = (c - 192) * 64 := I64.wrap ⟨by omega, by omega⟩; have g2 : IntKind.i64.wrap ((c - 192) * 64 + a) = (c - 192) * 64 + a := I64.wrap ⟨by omega, by omega⟩; have hre : ((c - 192) * 64 + a, (2 : Int)) = R := by rw [← HR.out]; unfold rune1B; simp (config := { zeta := true }) only [*]; simp [*]
     subst hre; clear HR; go_wp2_with fail; exact bodyPost_ret (v := .tuple #[.int .i64 ((c - 192) * 64 + a), .int .i64 2]) (by simp [results, Tryz.results93, go_sem]) rfl ⟨rfl, bel _ _⟩
   · have f0 : ¬ c < 128 := by omega
     have f1 : 194 ≤ c := by omega
     have f2 : c ≤ 223 := by omega
     have f3 : ¬ 224 ≤ c := by omega
     have f4 : c ≤ 239 := by omega
     have f5 : ¬ 240 ≤ c := by omega
     have f6 : c ≤ 244 := by omega
     have f7 : ¬ 0 ≤ a := by omega
     have hre : (65533, (0 : Int)) = R := by rw [← HR.out]; unfold rune1B; simp (config := { zeta := true }) only [*]; simp [*]
     subst hre; clear HR; go_wp2_with fail; exact bodyPost_ret (v := .tuple #[.int .i64 (65533), .int .i64 0]) (by simp [results, Tryz.results93, go_sem]) rfl ⟨rfl, bel _ _⟩
 · by_cases ha : 0 ≤ a
   · by_cases hb : 0 ≤ b
     · have hrs : (¬ 2048 ≤ (c - 224) * 4096 + a * 64 + b) ∨ (2048 ≤ (c - 224) * 4096 + a * 64 + b ∧ (c - 224) * 4096 + a * 64 + b < 55296) ∨ (55296 ≤ (c - 224) * 4096 + a * 64 + b ∧ (c - 224) * 4096 + a * 64 + b ≤ 57343) ∨ 57343 < (c - 224) * 4096 + a * 64 + b := by omega
       rcases hrs with hrs | hrs | hrs | hrs
       · have f0 : ¬ c < 128 := by omega
         have f1 : 194 ≤ c := by omega
         have f2 : ¬ c ≤ 223 := by omega
         have f3 : 224 ≤ c := by omega
         have f4 : c ≤ 239 := by omega
         have f5 : ¬ 240 ≤ c := by omega
         have f6 : c ≤ 244 := by omega
         have f7 : 0 ≤ a := by omega
         have f8 : 0 ≤ b := by omega
         have f9 : ¬ 2048 ≤ (c - 224) * 4096 + a * 64 + b := by omega
         have g0 : IntKind.i64.wrap (c - 224) = c - 224 := I64.wrap ⟨by omega, by omega⟩; have g1 : IntKind.i64.wrap ((c - 224) * 4096) = (c - 224) * 4096 := I64.wrap ⟨by omega, by omega⟩; have g2 : IntKind.i64.wrap (a * 64) = a * 64 := I64.wrap ⟨by omega, by omega⟩; have g3 : IntKind.i64.wrap ((c - 224) * 4096 + a * 64) = (c - 224) * 4096 + a * 64 := I64.wrap ⟨by omega, by omega⟩; have g4 : IntKind.i64.wrap ((c - 224) * 4096 + a * 64 + b) = (c - 224) * 4096 + a * 64 + b := I64.wrap ⟨by omega, by omega⟩; have hre : (65533, (0 : Int)) = R := by rw [← HR.out]; unfold rune1B; simp (config := { zeta := true }) only [*]; simp [*]
         subst hre; clear HR; go_wp2_with fail; exact bodyPost_ret (v := .tuple #[.int .i64 (65533), .int .i64 0]) (by simp [results, Tryz.results93, go_sem]) rfl ⟨rfl, bel _ _⟩
       · have f0 : ¬ c < 128 := by omega
         have f1 : 194 ≤ c := by omega
         have f2 : ¬ c ≤ 223 := by omega
         have f3 : 224 ≤ c := by omega
         have f4 : c ≤ 239 := by omega
         have f5 : ¬ 240 ≤ c := by omega
         have f6 : c ≤ 244 := by omega
         have f7 : 0 ≤ a := by omega
         have f8 : 0 ≤ b := by omega
         have f9 : 2048 ≤ (c - 224) * 4096 + a * 64 + b := by omega
         have f10 : (c - 224) * 4096 + a * 64 + b < 55296 := by omega
         have g0 : IntKind.i64.wrap (c - 224) = c - 224 := I64.wrap ⟨by omega, by omega⟩; have g1 : IntKind.i64.wrap ((c - 224) * 4096) = (c - 224) * 4096 := I64.wrap ⟨by omega, by omega⟩; have g2 : IntKind.i64.wrap (a * 64) = a * 64 := I64.wrap ⟨by omega, by omega⟩; have g3 : IntKind.i64.wrap ((c - 224) * 4096 + a * 64) = (c - 224) * 4096 + a * 64 := I64.wrap ⟨by omega, by omega⟩; have g4 : IntKind.i64.wrap ((c - 224) * 4096 + a * 64 + b) = (c - 224) * 4096 + a * 64 + b := I64.wrap ⟨by omega, by omega⟩; have hre : ((c - 224) * 4096 + a * 64 + b, (3 : Int)) = R := by rw [← HR.out]; unfold rune1B; simp (config := { zeta := true }) only [*]; simp [*]
         subst hre; clear HR; go_wp2_with fail; exact bodyPost_ret (v := .tuple #[.int .i64 ((c - 224) * 4096 + a * 64 + b), .int .i64 3]) (by simp [results, Tryz.results93, go_sem]) rfl ⟨rfl, bel _ _⟩
       · have f0 : ¬ c < 128 := by omega
         have f1 : 194 ≤ c := by omega
         have f2 : ¬ c ≤ 223 := by omega
         have f3 : 224 ≤ c := by omega
         have f4 : c ≤ 239 := by omega
         have f5 : ¬ 240 ≤ c := by omega
         have f6 : c ≤ 244 := by omega
         have f7 : 0 ≤ a := by omega
         have f8 : 0 ≤ b := by omega
         have f9 : 2048 ≤ (c - 224) * 4096 + a * 64 + b := by omega
         have f10 : ¬ (c - 224) * 4096 + a * 64 + b < 55296 := by omega
         have f11 : ¬ 57343 < (c - 224) * 4096 + a * 64 + b := by omega
         have g0 : IntKind.i64.wrap (c - 224) = c - 224 := I64.wrap ⟨by omega, by omega⟩; have g1 : IntKind.i64.wrap ((c - 224) * 4096) = (c - 224) * 4096 := I64.wrap ⟨by omega, by omega⟩; have g2 : IntKind.i64.wrap (a * 64) = a * 64 := I64.wrap ⟨by omega, by omega⟩; have g3 : IntKind.i64.wrap ((c - 224) * 4096 + a * 64) = (c - 224) * 4096 + a * 64 := I64.wrap ⟨by omega, by omega⟩; have g4 : IntKind.i64.wrap ((c - 224) * 4096 + a * 64 + b) = (c - 224) * 4096 + a * 64 + b := I64.wrap ⟨by omega, by omega⟩; have hre : (65533, (0 : Int)) = R := by rw [← HR.out]; unfold rune1B; simp (config := { zeta := true }) only [*]; simp [*]
         subst hre; clear HR; go_wp2_with fail; exact bodyPost_ret (v := .tuple #[.int .i64 (65533), .int .i64 0]) (by simp [results, Tryz.results93, go_sem]) rfl ⟨rfl, bel _ _⟩
       · have f0 : ¬ c < 128 := by omega
         have f1 : 194 ≤ c := by omega
         have f2 : ¬ c ≤ 223 := by omega
         have f3 : 224 ≤ c := by omega
         have f4 : c ≤ 239 := by omega
         have f5 : ¬ 240 ≤ c := by omega
         have f6 : c ≤ 244 := by omega
         have f7 : 0 ≤ a := by omega
         have f8 : 0 ≤ b := by omega
         have f9 : 2048 ≤ (c - 224) * 4096 + a * 64 + b := by omega
         have f10 : ¬ (c - 224) * 4096 + a * 64 + b < 55296 := by omega
         have f11 : 57343 < (c - 224) * 4096 + a * 64 + b := by omega
         have g0 : IntKind.i64.wrap (c - 224) = c - 224 := I64.wrap ⟨by omega, by omega⟩; have g1 : IntKind.i64.wrap ((c - 224) * 4096) = (c - 224) * 4096 := I64.wrap ⟨by omega, by omega⟩; have g2 : IntKind.i64.wrap (a * 64) = a * 64 := I64.wrap ⟨by omega, by omega⟩; have g3 : IntKind.i64.wrap ((c - 224) * 4096 + a * 64) = (c - 224) * 4096 + a * 64 := I64.wrap ⟨by omega, by omega⟩; have g4 : IntKind.i64.wrap ((c - 224) * 4096 + a * 64 + b) = (c - 224) * 4096 + a * 64 + b := I64.wrap ⟨by omega, by omega⟩; have hre : ((c - 224) * 4096 + a * 64 + b, (3 : Int)) = R := by rw [← HR.out]; unfold rune1B; simp (config := { zeta := true }) only [*]; simp [*]
         subst hre; clear HR; go_wp2_with fail; exact bodyPost_ret (v := .tuple #[.int .i64 ((c - 224) * 4096 + a * 64 + b), .int .i64 3]) (by simp [results, Tryz.results93, go_sem]) rfl ⟨rfl, bel _ _⟩
     · have f0 : ¬ c < 128 := by omega
       have f1 : 194 ≤ c := by omega
       have f2 : ¬ c ≤ 223 := by omega
       have f3 : 224 ≤ c := by omega
       have f4 : c ≤ 239 := by omega
       have f5 : ¬ 240 ≤ c := by omega
       have f6 : c ≤ 244 := by omega
       have f7 : 0 ≤ a := by omega
       have f8 : ¬ 0 ≤ b := by omega
       have hre : (65533, (0 : Int)) = R := by rw [← HR.out]; unfold rune1B; simp (config := { zeta := true }) only [*]; simp [*]
       subst hre; clear HR; go_wp2_with fail; exact bodyPost_ret (v := .tuple #[.int .i64 (65533), .int .i64 0]) (by simp [results, Tryz.results93, go_sem]) rfl ⟨rfl, bel _ _⟩
   · have f0 : ¬ c < 128 := by omega
     have f1 : 194 ≤ c := by omega
     have f2 : ¬ c ≤ 223 := by omega
     have f3 : 224 ≤ c := by omega
     have f4 : c ≤ 239 := by omega
     have f5 : ¬ 240 ≤ c := by omega
     have f6 : c ≤ 244 := by omega
     have f7 : ¬ 0 ≤ a := by omega
     have hre : (65533, (0 : Int)) = R := by rw [← HR.out]; unfold rune1B; simp (config := { zeta := true }) only [*]; simp [*]
     subst hre; clear HR; go_wp2_with fail; exact bodyPost_ret (v := .tuple #[.int .i64 (65533), .int .i64 0]) (by simp [results, Tryz.results93, go_sem]) rfl ⟨rfl, bel _ _⟩
 · by_cases ha : 0 ≤ a
   · by_cases hb : 0 ≤ b
     · by_cases hd : 0 ≤ d
       · have hrs : (¬ 65536 ≤ (c - 240) * 262144 + a * 4096 + b * 64 + d) ∨ (65536 ≤ (c - 240) * 262144 + a * 4096 + b * 64 + d ∧ (c - 240) * 262144 + a * 4096 + b * 64 + d ≤ 1114111) ∨ (65536 ≤ (c - 240) * 262144 + a * 4096 + b * 64 + d ∧ ¬ (c - 240) * 262144 + a * 4096 + b * 64 + d ≤ 1114111) := by omega
         rcases hrs with hrs | hrs | hrs
         · have f0 : ¬ c < 128 := by omega
           have f1 : 194 ≤ c := by omega
           have f2 : ¬ c ≤ 223 := by omega
           have f3 : 224 ≤ c := by omega
           have f4 : ¬ c ≤ 239 := by omega
           have f5 : 240 ≤ c := by omega
           have f6 : c ≤ 244 := by omega
           have f7 : 0 ≤ a := by omega
           have f8 : 0 ≤ b := by omega
           have f9 : 0 ≤ d := by omega
           have f10 : ¬ 65536 ≤ (c - 240) * 262144 + a * 4096 + b * 64 + d := by omega
           have g0 : IntKind.i64.wrap (c - 240) = c - 240 := I64.wrap ⟨by omega, by omega⟩; have g1 : IntKind.i64.wrap ((c - 240) * 262144) = (c - 240) * 262144 := I64.wrap ⟨by omega, by omega⟩; have g2 : IntKind.i64.wrap (a * 4096) = a * 4096 := I64.wrap ⟨by omega, by omega⟩; have g3 : IntKind.i64.wrap (b * 64) = b * 64 := I64.wrap ⟨by omega, by omega⟩; have g4 : IntKind.i64.wrap ((c - 240) * 262144 + a * 4096) = (c - 240) * 262144 + a * 4096 := I64.wrap ⟨by omega, by omega⟩; have g5 : IntKind.i64.wrap ((c - 240) * 262144 + a * 4096 + b * 64) = (c - 240) * 262144 + a * 4096 + b * 64 := I64.wrap ⟨by omega, by omega⟩; have g6 : IntKind.i64.wrap ((c - 240) * 262144 + a * 4096 + b * 64 + d) = (c - 240) * 262144 + a * 4096 + b * 64 + d := I64.wrap ⟨by omega, by omega⟩; have hre : (65533, (0 : Int)) = R := by rw [← HR.out]; unfold rune1B; simp (config := { zeta := true }) only [*]; simp [*]
           subst hre; clear HR; go_wp2_with fail; exact bodyPost_ret (v := .tuple #[.int .i64 (65533), .int .i64 0]) (by simp [results, Tryz.results93, go_sem]) rfl ⟨rfl, bel _ _⟩
         · have f0 : ¬ c < 128 := by omega
           have f1 : 194 ≤ c := by omega
           have f2 : ¬ c ≤ 223 := by omega
           have f3 : 224 ≤ c := by omega
           have f4 : ¬ c ≤ 239 := by omega
           have f5 : 240 ≤ c := by omega
           have f6 : c ≤ 244 := by omega
           have f7 : 0 ≤ a := by omega
           have f8 : 0 ≤ b := by omega
           have f9 : 0 ≤ d := by omega
           have f10 : 65536 ≤ (c - 240) * 262144 + a * 4096 + b * 64 + d := by omega
           have f11 : (c - 240) * 262144 + a * 4096 + b * 64 + d ≤ 1114111 := by omega
           have g0 : IntKind.i64.wrap (c - 240) = c - 240 := I64.wrap ⟨by omega, by omega⟩; have g1 : IntKind.i64.wrap ((c - 240) * 262144) = (c - 240) * 262144 := I64.wrap ⟨by omega, by omega⟩; have g2 : IntKind.i64.wrap (a * 4096) = a * 4096 := I64.wrap ⟨by omega, by omega⟩; have g3 : IntKind.i64.wrap (b * 64) = b * 64 := I64.wrap ⟨by omega, by omega⟩; have g4 : IntKind.i64.wrap ((c - 240) * 262144 + a * 4096) = (c - 240) * 262144 + a * 4096 := I64.wrap ⟨by omega, by omega⟩; have g5 : IntKind.i64.wrap ((c - 240) * 262144 + a * 4096 + b * 64) = (c - 240) * 262144 + a * 4096 + b * 64 := I64.wrap ⟨by omega, by omega⟩; have g6 : IntKind.i64.wrap ((c - 240) * 262144 + a * 4096 + b * 64 + d) = (c - 240) * 262144 + a * 4096 + b * 64 + d := I64.wrap ⟨by omega, by omega⟩; have hre : ((c - 240) * 262144 + a * 4096 + b * 64 + d, (4 : Int)) = R := by rw [← HR.out]; unfold rune1B; simp (config := { zeta := true }) only [*]; simp [*]
           subst hre; clear HR; go_wp2_with fail; exact bodyPost_ret (v := .tuple #[.int .i64 ((c - 240) * 262144 + a * 4096 + b * 64 + d), .int .i64 4]) (by simp [results, Tryz.results93, go_sem]) rfl ⟨rfl, bel _ _⟩
         · have f0 : ¬ c < 128 := by omega
           have f1 : 194 ≤ c := by omega
           have f2 : ¬ c ≤ 223 := by omega
           have f3 : 224 ≤ c := by omega
           have f4 : ¬ c ≤ 239 := by omega
           have f5 : 240 ≤ c := by omega
           have f6 : c ≤ 244 := by omega
           have f7 : 0 ≤ a := by omega
           have f8 : 0 ≤ b := by omega
           have f9 : 0 ≤ d := by omega
           have f10 : 65536 ≤ (c - 240) * 262144 + a * 4096 + b * 64 + d := by omega
           have f11 : ¬ (c - 240) * 262144 + a * 4096 + b * 64 + d ≤ 1114111 := by omega
           have g0 : IntKind.i64.wrap (c - 240) = c - 240 := I64.wrap ⟨by omega, by omega⟩; have g1 : IntKind.i64.wrap ((c - 240) * 262144) = (c - 240) * 262144 := I64.wrap ⟨by omega, by omega⟩; have g2 : IntKind.i64.wrap (a * 4096) = a * 4096 := I64.wrap ⟨by omega, by omega⟩; have g3 : IntKind.i64.wrap (b * 64) = b * 64 := I64.wrap ⟨by omega, by omega⟩; have g4 : IntKind.i64.wrap ((c - 240) * 262144 + a * 4096) = (c - 240) * 262144 + a * 4096 := I64.wrap ⟨by omega, by omega⟩; have g5 : IntKind.i64.wrap ((c - 240) * 262144 + a * 4096 + b * 64) = (c - 240) * 262144 + a * 4096 + b * 64 := I64.wrap ⟨by omega, by omega⟩; have g6 : IntKind.i64.wrap ((c - 240) * 262144 + a * 4096 + b * 64 + d) = (c - 240) * 262144 + a * 4096 + b * 64 + d := I64.wrap ⟨by omega, by omega⟩; have hre : (65533, (0 : Int)) = R := by rw [← HR.out]; unfold rune1B; simp (config := { zeta := true }) only [*]; simp [*]
           subst hre; clear HR; go_wp2_with fail; exact bodyPost_ret (v := .tuple #[.int .i64 (65533), .int .i64 0]) (by simp [results, Tryz.results93, go_sem]) rfl ⟨rfl, bel _ _⟩
       · have f0 : ¬ c < 128 := by omega
         have f1 : 194 ≤ c := by omega
         have f2 : ¬ c ≤ 223 := by omega
         have f3 : 224 ≤ c := by omega
         have f4 : ¬ c ≤ 239 := by omega
         have f5 : 240 ≤ c := by omega
         have f6 : c ≤ 244 := by omega
         have f7 : 0 ≤ a := by omega
         have f8 : 0 ≤ b := by omega
         have f9 : ¬ 0 ≤ d := by omega
         have hre : (65533, (0 : Int)) = R := by rw [← HR.out]; unfold rune1B; simp (config := { zeta := true }) only [*]; simp [*]
         subst hre; clear HR; go_wp2_with fail; exact bodyPost_ret (v := .tuple #[.int .i64 (65533), .int .i64 0]) (by simp [results, Tryz.results93, go_sem]) rfl ⟨rfl, bel _ _⟩
     · have f0 : ¬ c < 128 := by omega
       have f1 : 194 ≤ c := by omega
       have f2 : ¬ c ≤ 223 := by omega
       have f3 : 224 ≤ c := by omega
       have f4 : ¬ c ≤ 239 := by omega
       have f5 : 240 ≤ c := by omega
       have f6 : c ≤ 244 := by omega
       have f7 : 0 ≤ a := by omega
       have f8 : ¬ 0 ≤ b := by omega
       have hre : (65533, (0 : Int)) = R := by rw [← HR.out]; unfold rune1B; simp (config := { zeta := true }) only [*]; simp [*]
       subst hre; clear HR; go_wp2_with fail; exact bodyPost_ret (v := .tuple #[.int .i64 (65533), .int .i64 0]) (by simp [results, Tryz.results93, go_sem]) rfl ⟨rfl, bel _ _⟩
   · have f0 : ¬ c < 128 := by omega
     have f1 : 194 ≤ c := by omega
     have f2 : ¬ c ≤ 223 := by omega
     have f3 : 224 ≤ c := by omega
     have f4 : ¬ c ≤ 239 := by omega
     have f5 : 240 ≤ c := by omega
     have f6 : c ≤ 244 := by omega
     have f7 : ¬ 0 ≤ a := by omega
     have hre : (65533, (0 : Int)) = R := by rw [← HR.out]; unfold rune1B; simp (config := { zeta := true }) only [*]; simp [*]
     subst hre; clear HR; go_wp2_with fail; exact bodyPost_ret (v := .tuple #[.int .i64 (65533), .int .i64 0]) (by simp [results, Tryz.results93, go_sem]) rfl ⟨rfl, bel _ _⟩
 · have f0 : ¬ c < 128 := by omega
   have f1 : 194 ≤ c := by omega
   have f2 : ¬ c ≤ 223 := by omega
   have f3 : 224 ≤ c := by omega
   have f4 : ¬ c ≤ 239 := by omega
   have f5 : 240 ≤ c := by omega
   have f6 : ¬ c ≤ 244 := by omega
   have hre : (65533, (0 : Int)) = R := by rw [← HR.out]; unfold rune1B; simp (config := { zeta := true }) only [*]; simp [*]
   subst hre; clear HR; go_wp2_with fail; exact bodyPost_ret (v := .tuple #[.int .i64 (65533), .int .i64 0]) (by simp [results, Tryz.results93, go_sem]) rfl ⟨rfl, bel _ _⟩
theorem rune1R_bounds (s : ByteArray) (p : Nat) : 0 ≤ (rune1R s p).1 ∧ (rune1R s p).1 ≤ 1114111 ∧ 0 ≤ (rune1R s p).2 ∧ (rune1R s p).2 ≤ 4 := by
 have h0 := byteAt_bounds s p
 have h1 := nextR_bounds s (p + 1)
 have h2 := nextR_bounds s (p + 2)
 have h3 := nextR_bounds s (p + 3)
 unfold rune1R
 generalize byteAt s p = c at *
 generalize nextR s (p + 1) = a at *
 generalize nextR s (p + 2) = b at *
 generalize nextR s (p + 3) = d at *
 unfold rune1B
 repeat' split
 all_goals (simp only; omega)
def hashRF (s : ByteArray) : Nat → Nat → Int → Int
 | 0, _, h => h
 | b + 1, p, h => if p < s.size then hashRF s b (p + (max (rune1R s p).2 1).toNat) ((31 * h + (rune1R s p).1) % 4294967296) else h
def hashR (s : ByteArray) : Int := hashRF s s.size 0 7
theorem hashRF_end (s : ByteArray) (b p : Nat) (h : Int) (hp : ¬ p < s.size) : hashRF s b p h = h := by
 cases b with
 | zero => rfl
 | succ b => simp [hashRF, hp]
theorem hashRF_lt (s : ByteArray) : ∀ b p h, 0 ≤ h ∧ h < 4294967296 → 0 ≤ hashRF s b p h ∧ hashRF s b p h < 4294967296
 | 0, _, h, hh => hh
 | b + 1, p, h, hh => by
   unfold hashRF
   split
   · have := rune1R_bounds s p; exact hashRF_lt s b _ _ (by omega)
   · exact hh
theorem hash61 (s : ByteArray) (hs : s.size ≤ 1000000000) (w : World) :
 Calls Tryz.prog 61 #[.string s] w fun e w' => e = .returned (.int .i64 (hashR s)) ∧ Below w.heap.size w w' := by
 obtain ⟨R, hR⟩ : ∃ R, hashR s = R := ⟨_, rfl⟩
 rw [hR]
 unfold hashR at hR
 have HR := Lib.hid hR
 clear hR
 go_enter Tryz.func61, Tryz.ntmps61
 go_wp2_with fail
 go_loopw [3, 4] (fun vh vi wr => ∃ (p b : Nat) (acc : Int), vi = .int .i64 p ∧ vh = .int .i64 acc ∧ 0 ≤ acc ∧ acc < 4294967296 ∧ hashRF s b p acc = R ∧ s.size ≤ p + b ∧ p ≤ s.size + 4 ∧ Below w.heap.size w wr) (fun _ vi _ => (s.size + 4 - intOf vi).toNat)
 case atStart => exact ⟨0, s.size, 7, rfl, rfl, by omega, by omega, HR.out, by omega, by omega, bel _ _⟩
 case round =>
  obtain ⟨p, b, acc, rfl, rfl, ha0, ha1, hre, hbp, hp4, hb⟩ := hrel; have iB : Bel w wr := ⟨hb⟩
  by_cases hp : p < s.size
  · have hpI : (p : Int) < s.size := by omega
    obtain ⟨b', rfl⟩ : ∃ b', b = b' + 1 := ⟨b - 1, by omega⟩
    have hru := fun ww => rune93 s p hp (by omega) ww
    have hrb := rune1R_bounds s p; rw [hashRF, if_pos hp] at hre; generalize hrk : rune1R s p = rk at hre hru hrb; clear hrk; obtain ⟨r, k⟩ := rk; simp only at hrb hre hru; obtain ⟨m, hm⟩ : ∃ m : Nat, max k 1 = m := ⟨(max k 1).toNat, by omega⟩
    have hm1 : 1 ≤ m ∧ m ≤ 4 := by omega
    rw [hm, Int.toNat_natCast] at hre; have w1 : IntKind.i64.wrap (31 * acc) = 31 * acc := I64.wrap ⟨by omega, by omega⟩; have w2 : IntKind.i64.wrap (31 * acc + r) = 31 * acc + r := I64.wrap ⟨by omega, by omega⟩; have w3 : IntKind.i64.wrap ((p : Int) + m) = p + m := I64.wrap ⟨by omega, by omega⟩; have w4 : IntKind.i64.wrap ((31 * acc + r) % 4294967296) = (31 * acc + r) % 4294967296 := I64.wrap ⟨by omega, by omega⟩; have w5 : (31 * acc + r).tmod 4294967296 = (31 * acc + r) % 4294967296 := Int.tmod_eq_emod_of_nonneg (by omega); have HRE := Lib.hid hre; clear hre; go_wp2_with (go_at_call 93; refine aT (hru _) fun pj => ?_)
    go_roundw
    case rel => exact ⟨p + m, b', _, by rfl, rfl, by omega, by omega, HRE.out, by omega, by omega, bel _ _⟩
    case measure => simp [intOf]; omega
  · rw [hashRF_end s b p acc hp] at hre; subst hre; have hpI : ¬ (p : Int) < s.size := by omega
    go_wp2_with fail; exact bodyPost_ret (v := .int .i64 acc) (by simp [results, Tryz.results61, go_sem]) rfl ⟨rfl, bel _ _⟩
def checkRF (s : ByteArray) : Nat → Nat → Bool
 | 0, _ => true
 | b + 1, p => if p < s.size then (if (rune1R s p).2 = 0 ∨ (rune1R s p).1 = 47 ∨ (rune1R s p).1 < 32 ∨ (rune1R s p).1 = 127 then false else checkRF s b (p + (rune1R s p).2.toNat)) else true
def checkR (s : ByteArray) : Int := if 12 < s.size then 801 else if (s.toList.isEmpty || s.toList == [46] || s.toList == [46, 46]) = true then 800 else if checkRF s s.size 0 = true then 0 else 800
theorem checkRF_end (s : ByteArray) (b p : Nat) (hp : ¬ p < s.size) : checkRF s b p = true := by
 cases b with
 | zero => rfl
 | succ b => simp [checkRF, hp]
theorem check52 (s : ByteArray) (w : World) :
 Calls Tryz.prog 52 #[.string s] w fun e w' => e = .returned (.int .i64 (checkR s)) ∧ Below w.heap.size w w' := by
 by_cases hlen : 12 < s.size
 · have hlenI : (12 : Int) < s.size := by omega
   have hM : checkR s = 801 := by simp [checkR, hlen]
   rw [hM]
   go_enter Tryz.func52, Tryz.ntmps52
   go_wp2_with fail; exact bodyPost_ret (v := .int .i64 801) (by simp [results, Tryz.results52, go_sem]) rfl ⟨rfl, bel _ _⟩
 have hlenI : ¬ (12 : Int) < s.size := by omega
 rcases h1 : s.toList.isEmpty with _ | _
 rcases h2 : s.toList == [46] with _ | _
 rcases h3 : s.toList == [46, 46] with _ | _
 · have hM : checkR s = if checkRF s s.size 0 = true then 0 else 800 := by simp only [checkR, if_neg hlen, h1, h2, h3]; rfl
   rw [hM]; obtain ⟨V, hV⟩ : ∃ V : Int, (if checkRF s s.size 0 = true then 0 else 800) = V := ⟨_, rfl⟩
   rw [hV]; obtain ⟨T, hT⟩ : ∃ T, checkRF s s.size 0 = T := ⟨_, rfl⟩
   rw [hT] at hV; have HT := Lib.hid (And.intro hT hV); clear hM hT hV
   go_enter Tryz.func52, Tryz.ntmps52
   go_wp2_with fail
   go_loopw [3] (fun vi wr => ∃ (p b : Nat), vi = .int .i64 p ∧ checkRF s b p = T ∧ s.size ≤ p + b ∧ p ≤ s.size + 4 ∧ Below w.heap.size w wr) (fun vi _ => (s.size + 4 - intOf vi).toNat)
   case atStart => exact ⟨0, s.size, rfl, HT.out.1, by omega, by omega, bel _ _⟩
   case round =>
    obtain ⟨p, b, rfl, hre, hbp, hp4, hb⟩ := hrel; have iB : Bel w wr := ⟨hb⟩
    by_cases hp : p < s.size
    · have hpI : (p : Int) < s.size := by omega
      obtain ⟨b', rfl⟩ : ∃ b', b = b' + 1 := ⟨b - 1, by omega⟩
      have hru := fun ww => rune93 s p hp (by omega) ww
      have hrb := rune1R_bounds s p; rw [checkRF, if_pos hp] at hre; generalize hrk : rune1R s p = rk at hre hru hrb; clear hrk; obtain ⟨r, k⟩ := rk; simp only at hrb hre hru; by_cases hbad : k = 0 ∨ r = 47 ∨ r < 32 ∨ r = 127
      · rw [if_pos hbad] at hre; subst hre; obtain rfl : V = 800 := by have := HT.out.2; simpa using this.symm
        have hcase : k = 0 ∨ ((k == 0) = false ∧ (r == 47) = true) ∨ ((k == 0) = false ∧ (r == 47) = false ∧ r < 32) ∨ ((k == 0) = false ∧ (r == 47) = false ∧ ¬ r < 32 ∧ (r == 127) = true) := by
         by_cases a1 : k = 0
         · exact .inl a1
         by_cases a2 : r = 47
         · exact .inr (.inl ⟨by simpa using a1, by simpa using a2⟩)
         by_cases a3 : r < 32
         · exact .inr (.inr (.inl ⟨by simpa using a1, by simpa using a2, a3⟩))
         · exact .inr (.inr (.inr ⟨by simpa using a1, by simpa using a2, a3, by simp; omega⟩))
        clear hbad HT; rcases hcase with hc | ⟨c1, c2⟩ | ⟨c1, c2, c3⟩ | ⟨c1, c2, c3, c4⟩
        · have c1 : (k == 0) = true := by simpa using hc
          clear hc; go_wp2_with (go_at_call 93; refine aT (hru _) fun pj => ?_)
          exact bodyPost_ret (v := .int .i64 800) (by simp [results, Tryz.results52, go_sem]) rfl ⟨rfl, bel _ _⟩
        all_goals
         go_wp2_with (go_at_call 93; refine aT (hru _) fun pj => ?_)
         exact bodyPost_ret (v := .int .i64 800) (by simp [results, Tryz.results52, go_sem]) rfl ⟨rfl, bel _ _⟩
      · rw [if_neg hbad] at hre; have a1 : (k == 0) = false := by simp; omega
        have a2 : (r == 47) = false := by simp; omega
        have a3 : ¬ r < 32 := by omega
        have a4 : (r == 127) = false := by simp; omega
        have hk : ¬ k = 0 := by omega
        obtain ⟨m, rfl⟩ : ∃ m : Nat, k = m := ⟨k.toNat, by omega⟩
        have hm1 : 1 ≤ m ∧ m ≤ 4 := by omega
        rw [Int.toNat_natCast] at hre; have w3 : IntKind.i64.wrap ((p : Int) + m) = p + m := I64.wrap ⟨by omega, by omega⟩; have HRE := Lib.hid hre; clear hre hbad hk; go_wp2_with (go_at_call 93; refine aT (hru _) fun pj => ?_)
        go_roundw
        case rel => exact ⟨p + m, b', by rfl, HRE.out, by omega, by omega, bel _ _⟩
        case measure => simp [intOf]; omega
    · rw [checkRF_end s b p hp] at hre; subst hre; obtain rfl : V = 0 := by have := HT.out.2; simpa using this.symm
      have hpI : ¬ (p : Int) < s.size := by omega
      go_wp2_with fail; exact bodyPost_ret (v := .int .i64 0) (by simp [results, Tryz.results52, go_sem]) rfl ⟨rfl, bel _ _⟩
 all_goals
  have hM : checkR s = 800 := by simp only [checkR, if_neg hlen]; simp [*]
  rw [hM]
  go_enter Tryz.func52, Tryz.ntmps52
  go_wp2_with fail; exact bodyPost_ret (v := .int .i64 800) (by simp [results, Tryz.results52, go_sem]) rfl ⟨rfl, bel _ _⟩
def belowRF (x y : ByteArray) : Nat → Nat → Bool
 | 0, _ => decide (x.size < y.size)
 | n + 1, p => if p < x.size ∧ p < y.size then (if byteAt x p = byteAt y p then belowRF x y n (p + 1) else decide (byteAt x p < byteAt y p)) else decide (x.size < y.size)
def belowR (x y : ByteArray) : Bool := belowRF x y x.size 0
theorem belowRF_end (x y : ByteArray) (n p : Nat) (hp : ¬ (p < x.size ∧ p < y.size)) : belowRF x y n p = decide (x.size < y.size) := by
 cases n with
 | zero => rfl
 | succ n => rw [belowRF, if_neg hp]
theorem below53 (x y : ByteArray) (hs : x.size ≤ 1000000000000) (w : World) :
 Calls Tryz.prog 53 #[.string x, .string y] w fun e w' => e = .returned (.bool (belowR x y)) ∧ Below w.heap.size w w' := by
 obtain ⟨R, hR⟩ : ∃ R, belowR x y = R := ⟨_, rfl⟩
 rw [hR]
 unfold belowR at hR
 have HR := Lib.hid hR
 clear hR
 go_enter Tryz.func53, Tryz.ntmps53
 go_wp2_with fail
 go_loopw [5] (fun vi wr => ∃ (q b : Nat), vi = .int .i64 q ∧ belowRF x y b q = R ∧ x.size ≤ q + b ∧ q ≤ x.size ∧ Below w.heap.size w wr) (fun vi _ => (x.size - intOf vi).toNat)
 case atStart => exact ⟨0, x.size, rfl, HR.out, by omega, by omega, bel _ _⟩
 case round =>
  obtain ⟨q, b, rfl, hre, hbp, hp4, hb⟩ := hrel; have iB : Bel w wr := ⟨hb⟩
  have hcond : (q < x.size ∧ q < y.size) ∨ ¬ (q < x.size) ∨ (q < x.size ∧ ¬ q < y.size) := by omega
  have hend : ∀ ww, Bel w ww → ¬ (q < x.size ∧ q < y.size) → Ending.returned (.bool (decide ((x.size : Int) < y.size))) = Ending.returned (.bool R) ∧ Below w.heap.size w ww := fun ww hww hn => by
   rw [belowRF_end x y b q hn] at hre; rw [← hre]; exact ⟨by congr 2; by_cases h : x.size < y.size <;> simp [h] <;> omega, hww.below⟩
  rcases hcond with ⟨h1, h2⟩ | h1 | ⟨h1, h2⟩
  · obtain ⟨b', rfl⟩ : ∃ b', b = b' + 1 := ⟨b - 1, by omega⟩
    clear hend; rw [belowRF, if_pos ⟨h1, h2⟩, byteAt_in h1, byteAt_in h2] at hre; have h1I : (q : Int) < x.size := by omega
    have h2I : (q : Int) < y.size := by omega
    have w3 : IntKind.i64.wrap ((q : Int) + 1) = q + 1 := I64.wrap ⟨by omega, by omega⟩; by_cases he : (x[q].toNat : Int) = y[q].toNat
    · rw [if_pos he] at hre; have he1 : ((x[q].toNat : Int) != y[q].toNat) = false := by simpa using he
      have HRE := Lib.hid hre; clear hre he; go_wp2_with fail; refine wp_region_quiet_rest (by kernel_rfl) (by kernel_rfl) ?_
      repeat
       first
        | go_big_quiet_skip
        | (go_big_quiet_want; go_big_quiet_op; first | go_big_quiet_on | (apply Exists.intro; refine ⟨fun _ => ?_, ?_⟩; (focus (fail)); go_big_quiet_on))
      refine wpQuiet_nil ?_; intro w1 hw1; obtain ⟨p, hw1⟩ := hw1; subst hw1; go_wp2_with fail
      go_roundw
      case rel => exact ⟨q + 1, b', by rfl, HRE.out, by omega, by omega, bel _ _⟩
      case measure => simp [intOf]; omega
    · rw [if_neg he] at hre; have he1 : ((x[q].toNat : Int) != y[q].toNat) = true := by simpa using he
      subst hre; go_wp2_with fail; refine wp_region_quiet_rest (by kernel_rfl) (by kernel_rfl) ?_
      repeat
       first
        | go_big_quiet_skip
        | (go_big_quiet_want; go_big_quiet_op; first | go_big_quiet_on | (apply Exists.intro; refine ⟨fun _ => ?_, ?_⟩; (focus (fail)); go_big_quiet_on))
      refine wpQuiet_nil ?_; intro w1 hw1; obtain ⟨p, hw1⟩ := hw1; subst hw1; go_wp2_with fail; refine wp_region_quiet_rest (by kernel_rfl) (by kernel_rfl) ?_
      repeat
       first
        | go_big_quiet_skip
        | (go_big_quiet_want; go_big_quiet_op; first | go_big_quiet_on | (apply Exists.intro; refine ⟨fun _ => ?_, ?_⟩; (focus (fail)); go_big_quiet_on))
      refine wpQuiet_nil ?_; intro w1 hw1; obtain ⟨p, hw1⟩ := hw1; subst hw1; go_wp2_with fail; exact bodyPost_ret (v := .bool (decide ((x[q].toNat : Int) < y[q].toNat))) (by simp [results, Tryz.results53, go_sem]) rfl ⟨rfl, bel _ _⟩
  · have h1I : ¬ (q : Int) < x.size := by omega
    have HE := Lib.hid hend; clear hend hre; go_wp2_with fail; exact bodyPost_ret (v := .bool (decide ((x.size : Int) < y.size))) (by simp [results, Tryz.results53, go_sem]) rfl (HE.out _ ⟨bel _ _⟩ (by omega))
  · have h1I : (q : Int) < x.size := by omega
    have h2I : ¬ (q : Int) < y.size := by omega
    have HE := Lib.hid hend; clear hend hre; go_wp2_with fail; exact bodyPost_ret (v := .bool (decide ((x.size : Int) < y.size))) (by simp [results, Tryz.results53, go_sem]) rfl (HE.out _ ⟨bel _ _⟩ (by omega))
def bucketR (s : ByteArray) : Int := hashR s % 8
theorem bucket35 (s : ByteArray) (hs : s.size ≤ 1000000000) (w : World) :
 Calls Tryz.prog 35 #[.string s] w fun e w' => e = .returned (.int .i64 (bucketR s)) ∧ Below w.heap.size w w' := by
 have hb : 0 ≤ hashR s ∧ hashR s < 4294967296 := hashRF_lt s s.size 0 7 (by omega)
 unfold bucketR
 have h1 := fun ww => hash61 s hs ww
 generalize hashR s = h at *
 have w5 : h.tmod 8 = h % 8 := Int.tmod_eq_emod_of_nonneg (by omega)
 have w6 : IntKind.i64.wrap (h % 8) = h % 8 := I64.wrap ⟨by omega, by omega⟩
 go_enter Tryz.func35, Tryz.ntmps35
 go_wp2_with ((go_at_call 61; refine aT (h1 _) fun p => ?_))
 exact bodyPost_ret (v := .int .i64 (h % 8)) (by simp [results, Tryz.results35, go_sem]) rfl ⟨rfl, bel _ _⟩
end Go.Proofs.YtjkenolgkkknaaaGreatDoor
