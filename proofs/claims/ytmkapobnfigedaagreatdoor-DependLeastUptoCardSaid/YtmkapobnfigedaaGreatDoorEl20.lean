/- model.Do, whatever its run comes to. Conditions: none. -/
import Derived.Test.YtmkapobnfigedaaGreatDoorEl19
set_option linter.unusedVariables false
set_option linter.unusedSimpArgs false
namespace Go.Proofs.YtmkapobnfigedaaGreatDoor
open Go.RowKit
theorem StOwn.forms {B : Nat} {w : World} {iv ov mv : Value} {S : PSt} (h : StOwn B w iv ov mv S) : ∃ a n c a' n' c' a'' n'' c'', iv = .slice a n c ∧ ov = .slice a' n' c' ∧ mv = .slice a'' n'' c'' := by
 obtain ⟨h1, h2, _, h3, _⟩ := h.read
 obtain ⟨a, c, e1, _⟩ := h3
 obtain ⟨a', c', e2, _⟩ := h1
 obtain ⟨a'', c'', e3, _⟩ := h2
 exact ⟨_, _, _, _, _, _, _, _, _, e1, e2, e3⟩
theorem res20 (w : World) (k4 k5 : Nat) (tmps : Array Value) (a0 a1 a2 r0 r1 r2 r3 r4 r5 : Value) (h4 : tmps[4]? = some (.pointer (some ⟨k4, 0, none⟩))) (h5 : tmps[5]? = some (.pointer (some ⟨k5, 0, none⟩)))
 (b4 : Blk w k4 #[a0, a1, a2] 26) (b5 : Blk w k5 #[r0, r1, r2, r3, r4, r5] 52) :
 (results Tryz.f73 tmps).run Tryz.prog w = .ok (.tuple #[.agg #[a0, a1, a2], .agg #[r0, r1, r2, r3, r4, r5]]) w := by
 have y0 := b4.cell 0
 have y1 := b4.cell 1
 have y2 := b4.cell 2
 have q0 := b5.cell 0
 have q1 := b5.cell 1
 have q2 := b5.cell 2
 have q3 := b5.cell 3
 have q4 := b5.cell 4
 have q5 := b5.cell 5
 simp only [List.getElem?_toArray, List.getElem?_cons_zero, List.getElem?_cons_succ] at y0 y1 y2 q0 q1 q2 q3 q4 q5
 unfold results
 simp only [Tryz.results73]
 go_simp
def lay9 (w : World) (k4 k5 : Nat) (a0 a1 a2 r0 r1 r2 r3 r4 r5 : Value) : World :=
 ((((((((w.setCell ⟨k4, 0, none⟩ a0).setCell ⟨k4, 1, none⟩ a1).setCell ⟨k4, 2, none⟩ a2).setCell ⟨k5, 0, none⟩ r0).setCell ⟨k5, 1, none⟩ r1).setCell ⟨k5, 2, none⟩ r2).setCell ⟨k5, 3, none⟩ r3).setCell ⟨k5, 4, none⟩ r4).setCell ⟨k5, 5, none⟩ r5
theorem lay9_at {w : World} {k4 k5 : Nat} {x0 x1 x2 z0 z1 z2 z3 z4 z5 : Value} (a0 a1 a2 r0 r1 r2 r3 r4 r5 : Value) (h4 : Blk w k4 #[x0, x1, x2] 26) (h5 : Blk w k5 #[z0, z1, z2, z3, z4, z5] 52) :
 Blk (lay9 w k4 k5 a0 a1 a2 r0 r1 r2 r3 r4 r5) k4 #[a0, a1, a2] 26 ∧ Blk (lay9 w k4 k5 a0 a1 a2 r0 r1 r2 r3 r4 r5) k5 #[r0, r1, r2, r3, r4, r5] 52 ∧ Keep (fun k => k = k4 ∨ k = k5) w (lay9 w k4 k5 a0 a1 a2 r0 r1 r2 r3 r4 r5) := by
 unfold lay9
 have n45 := h4.ne_ h5 (by decide)
 have hk4 : Keep (fun k => k = k4) w (((w.setCell ⟨k4, 0, none⟩ a0).setCell ⟨k4, 1, none⟩ a1).setCell ⟨k4, 2, none⟩ a2) :=
  Keep.setCell (S := fun k => k = k4) (p := ⟨k4, 2, none⟩) (Keep.setCell (S := fun k => k = k4) (p := ⟨k4, 1, none⟩) (Keep.setCell (S := fun k => k = k4) (p := ⟨k4, 0, none⟩) (Keep.refl _ _) (.inl rfl) _) (.inl rfl) _) (.inl rfl) _
 have b4 : Blk (((w.setCell ⟨k4, 0, none⟩ a0).setCell ⟨k4, 1, none⟩ a1).setCell ⟨k4, 2, none⟩ a2) k4 #[a0, a1, a2] 26 := ((h4.set_ 0 _).set_ 1 _).set_ 2 _
 have b5 := hk4.blk h5 (fun e => n45 e.symm)
 generalize (((w.setCell ⟨k4, 0, none⟩ a0).setCell ⟨k4, 1, none⟩ a1).setCell ⟨k4, 2, none⟩ a2) = w3 at hk4 b4 b5 ⊢
 have hk5 : Keep (fun k => k = k5) w3 ((((((w3.setCell ⟨k5, 0, none⟩ r0).setCell ⟨k5, 1, none⟩ r1).setCell ⟨k5, 2, none⟩ r2).setCell ⟨k5, 3, none⟩ r3).setCell ⟨k5, 4, none⟩ r4).setCell ⟨k5, 5, none⟩ r5) :=
  Keep.setCell (S := fun k => k = k5) (p := ⟨k5, 5, none⟩) (Keep.setCell (S := fun k => k = k5) (p := ⟨k5, 4, none⟩) (Keep.setCell (S := fun k => k = k5) (p := ⟨k5, 3, none⟩) (Keep.setCell (S := fun k => k = k5) (p := ⟨k5, 2, none⟩) (Keep.setCell (S := fun k => k = k5) (p := ⟨k5, 1, none⟩) (Keep.setCell (S := fun k => k = k5) (p := ⟨k5, 0, none⟩) (Keep.refl _ _) (.inl rfl) _) (.inl rfl) _) (.inl rfl) _) (.inl rfl) _) (.inl rfl) _) (.inl rfl) _
 exact ⟨hk5.blk b4 n45, (((((b5.set_ 0 _).set_ 1 _).set_ 2 _).set_ 3 _).set_ 4 _).set_ 5 _, (hk4.mono (fun i _ h => .inl h)).trans (hk5.mono (fun i _ h => .inr h)) (fun i _ h => h)⟩
theorem StOwn.lay9 {B : Nat} {w : World} {iv ov mv : Value} {S : PSt} (h : StOwn B w iv ov mv S) {k4 k5 : Nat} {x0 x1 x2 z0 z1 z2 z3 z4 z5 : Value} {W : World} (h4 : Blk w k4 #[x0, x1, x2] 26) (h5 : Blk w k5 #[z0, z1, z2, z3, z4, z5] 52)
 (hk : Keep (fun k => k = k4 ∨ k = k5) w W) : StOwn B W iv ov mv S :=
 h.keep hk (fun g hg => by
  rcases hg with rfl | rfl
  · exact ⟨_, 26, h4, by decide, by decide, by decide, by decide⟩
  · exact ⟨_, 52, h5, by decide, by decide, by decide, by decide⟩)
def Ran (B : Nat) (wb w3 : World) (d b : Nat) (c : PCall) (R : Except Int (PSt × PRes)) (e : Ending) : Prop :=
 Below B wb w3 ∧ match R with
  | .ok (S', r') => e = .returned (.tuple #[]) ∧ DoAt B w3 d b S' c r'
  | .error k => e = thrown k
theorem callAt {wb w2 : World} {iv' ov' mv' : Value} {S : PSt} {c : PCall} {R : Except Int (PSt × PRes)} (hb2 : Below wb.heap.size wb w2) (hso : StOwn wb.heap.size w2 iv' ov' mv' S)
 (hrun : ∀ B ww d b, DoAt B ww d b S c PRes.zero → B ≤ ww.heap.size → Calls Tryz.prog 108 #[.pointer (some ⟨d, 0, none⟩)] ww (RunOut B ww d b c R)) :
 Calls Tryz.prog 108 #[.pointer (some ⟨w2.heap.size + 1, 0, none⟩)] ((w2.alloc (.cells #[iv', ov', mv'] 26)).alloc (.cells (doCells w2.heap.size c PRes.zero (.slice none 0 0)) 136)) fun e w3 => Ran wb.heap.size wb w3 (w2.heap.size + 1) w2.heap.size c R e := by
 have hs := hb2.size
 have hk : Keep (fun _ => False) w2 ((w2.alloc (.cells #[iv', ov', mv'] 26)).alloc (.cells (doCells w2.heap.size c PRes.zero (.slice none 0 0)) 136)) := ((Keep.refl _ _).alloc _).alloc _
 refine (hrun wb.heap.size _ (w2.heap.size + 1) w2.heap.size ⟨iv', ov', mv', .slice none 0 0, hs, by omega, ?_, (Blk.new _ _ _).alloc _, hso.keep hk (fun _ h => h.elim), .inl ⟨rfl, rfl⟩⟩ (by simp; omega)).mono ?_
 · exact Blk.new_i (w2.alloc (.cells #[iv', ov', mv'] 26)) _ 136 _
 · rintro e w3 ⟨h1, h2⟩; exact ⟨hb2.trans ((hk.below hs (fun _ _ h => h)).trans h1), h2⟩
theorem OwnP.form {B : Nat} {w : World} {e : TypeId} {k : Nat} {v : Value} {rows : List (List Value)} (h : OwnP B w e k v rows) : ∃ a n c, v = .slice a n c := by
 obtain ⟨a, c, e, _⟩ := h.row
 exact ⟨_, _, _, e⟩
def doM (S : PSt) (c : PCall) (R : Except Int (PSt × PRes)) : PSt × PRes := if maycM S c = true then (match R with | .ok x => x | .error k => (S, PRes.fail k)) else (S, PRes.fail 9)
def DoneAt (B : Nat) (S : PSt) (r : PRes) (e : Ending) (w' : World) : Prop :=
 ∃ iv ov mv nv, e = .returned (.tuple #[.agg #[iv, ov, mv], .agg #[.int .i64 r.code, .int .i64 r.fd, .int .i64 r.num, .bool r.dir, .string r.data, nv]]) ∧ StOwn B w' iv ov mv S ∧ OwnP B w' 9 1 nv (r.names.map strCells)
set_option maxRecDepth 100000 in
set_option maxHeartbeats 4000000 in
theorem do20 (iv ov mv : Value) (S : PSt) (c : PCall) (R : Except Int (PSt × PRes)) (w : World) (h : StRead w iv ov mv S) (hwf : S.wf)
 (hrun : maycM S c = true → ∀ B ww d b, DoAt B ww d b S c PRes.zero → B ≤ ww.heap.size → Calls Tryz.prog 108 #[.pointer (some ⟨d, 0, none⟩)] ww (RunOut B ww d b c R)) :
 Calls Tryz.prog 73 #[.agg #[iv, ov, mv], c.val] w fun e w' => Below w.heap.size w w' ∧ DoneAt w.heap.size (doM S c R).1 (doM S c R).2 e w' := by
 have hmf : ∀ (fn : Fn) (first cap : Array Value) (w : World), (Instr.makeFunc fn first cap).run Tryz.prog w = .ok (.func fn first cap) w := fun _ _ _ _ => rfl
 have hio : iv.oneCell' = true := by obtain ⟨_, _, _, h3, _⟩ := h; exact h3.one
 have hoo := h.1.one
 have hmo := h.2.1.one
 have hcl : ∀ ww, Below w.heap.size w ww → Calls Tryz.prog 106 #[.agg #[iv, ov, mv]] ww _ := fun ww hb => clone39 iv ov mv S ww (h.below hb (Nat.le_refl _)) hwf
 have hmay : ∀ ww, Below w.heap.size w ww → Blk ww w.heap.size #[iv, ov, mv] 26 → Blk ww (w.heap.size + 1) c.cells.toArray 28 → Calls Tryz.prog 105 #[.pointer (some ⟨w.heap.size, 0, none⟩), .pointer (some ⟨w.heap.size + 1, 0, none⟩)] ww fun e w' => e = .returned (.bool (maycM S c)) ∧ Below ww.heap.size ww w' :=
  fun ww hb h0 h1 => may38 w.heap.size (w.heap.size + 1) S c ww (SP.of_blk h0 (h.below hb (Nat.le_refl _))) hwf h1.lt.lt (fun t u hu => by rw [h1.cell]; simpa using hu)
 have HS := Lib.hid (And.intro h hwf)
 unfold doM
 generalize hm : maycM S c = m at hmay hrun ⊢
 clear h hwf
 rcases m with _ | _
 · simp only [Bool.false_eq_true, if_false]; clear hrun; unfold PCall.val; unfold PCall.cells at hmay
   go_enter_defers Tryz.func73, Tryz.ntmps73
   go_wp2_with (first | (go_at_call 105; refine (hmay _ (bel _ _) (by repeat (first | exact Blk.new_i _ _ _ _ | refine Blk.alloc ?_ _)) (by repeat (first | exact Blk.new_i _ _ _ _ | refine Blk.alloc ?_ _))).mono ?_; rintro e w' ⟨rfl, hb⟩; obtain ⟨p, rfl⟩ := hb.rest; clear hb) | (go_at_call 106; refine (hcl _ (bel _ _)).mono ?_; rintro e w2 ⟨iv', ov', mv', rfl, hb2, hso⟩; have hbw : Below w.heap.size w w2 := (bel w _).trans (hb2.mono (bel w _).size); have hso2 := hso.mono (bel w _).size; have g4 : Blk w2 (w.heap.size + 1 + 1) #[.slice none 0 0, .slice none 0 0, .slice none 0 0] 26 := Blk.below (by repeat (first | exact Blk.new_i _ _ _ _ | refine Blk.alloc ?_ _ | refine Blk.junk ?_ _)) hb2 (by simp; omega); have g5 : Blk w2 (w.heap.size + 1 + 1 + 1) #[.int .i64 0, .int .i64 0, .int .i64 0, .bool false, .string { data := #[] }, .slice none 0 0] 52 := Blk.below (by repeat (first | exact Blk.new_i _ _ _ _ | refine Blk.alloc ?_ _ | refine Blk.junk ?_ _)) hb2 (by simp; omega); have iB2 : Bel w w2 := ⟨hbw⟩; have j4 := g4.lt; have j5 := g5.lt; have y0 := g4.cell 0; have y1 := g4.cell 1; have y2 := g4.cell 2; have q0 := g5.cell 0; have q1 := g5.cell 1; have q2 := g5.cell 2; have q3 := g5.cell 3; have q4 := g5.cell 4; have q5 := g5.cell 5; simp only [List.getElem?_toArray, List.getElem?_cons_zero, List.getElem?_cons_succ] at y0 y1 y2 q0 q1 q2 q3 q4 q5; have fy0 := g4.frozen 0; have fy1 := g4.frozen 1; have fy2 := g4.frozen 2; have fq0 := g5.frozen 0; have fq1 := g5.frozen 1; have fq2 := g5.frozen 2; have fq3 := g5.frozen 3; have fq4 := g5.frozen 4; have fq5 := g5.frozen 5; obtain ⟨ja, jn, jcap, ka, kn, kcap, la, ln, lcap, rfl, rfl, rfl⟩ := hso.forms; have H2 := Lib.hid (And.intro hbw (And.intro hso2 (And.intro g4 g5))); clear hb2 hso hso2 hbw g4 g5))
   obtain ⟨hbw, hso2, g4, g5⟩ := H2.out; obtain ⟨e4, e5, hk⟩ := lay9_at (.slice ja jn jcap) (.slice ka kn kcap) (.slice la ln lcap) (.int .i64 9) (.int .i64 0) (.int .i64 0) (.bool false) (.string { data := #[] }) (.slice none 0 0) g4 g5; exact ⟨_, res20 _ (w.heap.size + 1 + 1) (w.heap.size + 1 + 1 + 1) _ _ _ _ _ _ _ _ _ _ rfl rfl e4 e5, hbw.trans (hk.below hbw.size (fun i hi h => by rcases h with h | h <;> omega)), _, _, _, _, rfl, hso2.lay9 g4 g5 hk, .inl ⟨rfl, rfl⟩⟩
 · simp only [if_true]; have hrun2 := hrun rfl; clear hrun; unfold PCall.val; unfold PCall.cells at hmay; rcases R with k | ⟨S', r'⟩
   · go_enter_defers Tryz.func73, Tryz.ntmps73
     go_wp2_with (first | (go_at_call 105; refine (hmay _ (bel _ _) (by repeat (first | exact Blk.new_i _ _ _ _ | refine Blk.alloc ?_ _)) (by repeat (first | exact Blk.new_i _ _ _ _ | refine Blk.alloc ?_ _))).mono ?_; rintro e w' ⟨rfl, hb⟩; obtain ⟨p, rfl⟩ := hb.rest; clear hb) | (go_at_call 106; refine (hcl _ (bel _ _)).mono ?_; rintro e w2 ⟨iv', ov', mv', rfl, hb2, hso⟩; have hbw : Below w.heap.size w w2 := (bel w _).trans (hb2.mono (bel w _).size); have g2 : Blk w2 w.heap.size #[iv, ov, mv] 26 := Blk.below (by repeat (first | exact Blk.new_i _ _ _ _ | refine Blk.alloc ?_ _ | refine Blk.junk ?_ _)) hb2 (by simp; omega); have g3 : Blk w2 (w.heap.size + 1) #[.int .i64 c.kind, .int .i64 c.core, .int .i64 c.fd, .int .i64 c.off, .int .i64 c.num, .string c.path, .string c.path2, .string c.data] 28 := Blk.below (by repeat (first | exact Blk.new_i _ _ _ _ | refine Blk.alloc ?_ _ | refine Blk.junk ?_ _)) hb2 (by simp; omega); have g4 : Blk w2 (w.heap.size + 1 + 1) #[.slice none 0 0, .slice none 0 0, .slice none 0 0] 26 := Blk.below (by repeat (first | exact Blk.new_i _ _ _ _ | refine Blk.alloc ?_ _ | refine Blk.junk ?_ _)) hb2 (by simp; omega); have g5 : Blk w2 (w.heap.size + 1 + 1 + 1) #[.int .i64 0, .int .i64 0, .int .i64 0, .bool false, .string { data := #[] }, .slice none 0 0] 52 := Blk.below (by repeat (first | exact Blk.new_i _ _ _ _ | refine Blk.alloc ?_ _ | refine Blk.junk ?_ _)) hb2 (by simp; omega); have iB2 : Bel w w2 := ⟨hbw⟩; have j3 := g3.lt; have y0 := g3.cell 0; have y1 := g3.cell 1; have y2 := g3.cell 2; have y3 := g3.cell 3; have y4 := g3.cell 4; have y5 := g3.cell 5; have y6 := g3.cell 6; have y7 := g3.cell 7; simp only [List.getElem?_toArray, List.getElem?_cons_zero, List.getElem?_cons_succ] at y0 y1 y2 y3 y4 y5 y6 y7; obtain ⟨ja, jn, jcap, ka, kn, kcap, la, ln, lcap, rfl, rfl, rfl⟩ := hso.forms; have HX := Lib.hid (callAt hb2 hso hrun2); have H2 := Lib.hid (And.intro hbw (And.intro g2 (And.intro g4 g5))); clear hb2 hso hbw g2 g3 g4 g5) | (go_at_call 108; refine HX.out.mono ?_; rintro e w3 ⟨hb3, hr3⟩; have hr4 : e = thrown k := hr3; clear hr3; subst hr4; have g2 : Blk w3 w.heap.size #[iv, ov, mv] 26 := Blk.below (by repeat (first | exact Blk.new_i _ _ _ _ | refine Blk.alloc ?_ _ | refine Blk.junk ?_ _)) hb3 (by simp; omega); have g4 : Blk w3 (w.heap.size + 1 + 1) #[.slice none 0 0, .slice none 0 0, .slice none 0 0] 26 := Blk.below (by repeat (first | exact Blk.new_i _ _ _ _ | refine Blk.alloc ?_ _ | refine Blk.junk ?_ _)) hb3 (by simp; omega); have g5 : Blk w3 (w.heap.size + 1 + 1 + 1) #[.int .i64 0, .int .i64 0, .int .i64 0, .bool false, .string { data := #[] }, .slice none 0 0] 52 := Blk.below (by repeat (first | exact Blk.new_i _ _ _ _ | refine Blk.alloc ?_ _ | refine Blk.junk ?_ _)) hb3 (by simp; omega); have hbw3 : Below w.heap.size w w3 := (bel w _).trans (hb3.mono (bel w _).size); clear hb3))
     refine leaves_cons (f := 107) (args := #[.pointer (some ⟨w.heap.size, 0, none⟩), .pointer (some ⟨w.heap.size + 1 + 1, 0, none⟩), .pointer (some ⟨w.heap.size + 1 + 1 + 1, 0, none⟩)]) (by simp) (by simp [go_sem]) ?_; refine (catch_panicking w.heap.size w.heap.size (w.heap.size + 1 + 1) (w.heap.size + 1 + 1 + 1) iv ov mv S k w3 _ _ _ _ _ _ _ _ _ HS.out.2 g2 (HS.out.1.below hbw3 (Nat.le_refl _)) g4 g5 (by omega) (by omega) (by omega) hbw3.size).mono ?_; rintro e u' w4 ⟨rfl, rfl, hb4, iv4, ov4, mv4, c4, c5, hso4⟩; exact ⟨_, res20 _ (w.heap.size + 1 + 1) (w.heap.size + 1 + 1 + 1) _ _ _ _ _ _ _ _ _ _ rfl rfl c4 c5, hbw3.trans hb4, _, _, _, _, rfl, hso4, .inl ⟨rfl, rfl⟩⟩
   · go_enter_defers Tryz.func73, Tryz.ntmps73
     go_wp2_with (first | (go_at_call 105; refine (hmay _ (bel _ _) (by repeat (first | exact Blk.new_i _ _ _ _ | refine Blk.alloc ?_ _)) (by repeat (first | exact Blk.new_i _ _ _ _ | refine Blk.alloc ?_ _))).mono ?_; rintro e w' ⟨rfl, hb⟩; obtain ⟨p, rfl⟩ := hb.rest; clear hb) | (go_at_call 106; refine (hcl _ (bel _ _)).mono ?_; rintro e w2 ⟨iv', ov', mv', rfl, hb2, hso⟩; have hbw : Below w.heap.size w w2 := (bel w _).trans (hb2.mono (bel w _).size); have g2 : Blk w2 w.heap.size #[iv, ov, mv] 26 := Blk.below (by repeat (first | exact Blk.new_i _ _ _ _ | refine Blk.alloc ?_ _ | refine Blk.junk ?_ _)) hb2 (by simp; omega); have g3 : Blk w2 (w.heap.size + 1) #[.int .i64 c.kind, .int .i64 c.core, .int .i64 c.fd, .int .i64 c.off, .int .i64 c.num, .string c.path, .string c.path2, .string c.data] 28 := Blk.below (by repeat (first | exact Blk.new_i _ _ _ _ | refine Blk.alloc ?_ _ | refine Blk.junk ?_ _)) hb2 (by simp; omega); have g4 : Blk w2 (w.heap.size + 1 + 1) #[.slice none 0 0, .slice none 0 0, .slice none 0 0] 26 := Blk.below (by repeat (first | exact Blk.new_i _ _ _ _ | refine Blk.alloc ?_ _ | refine Blk.junk ?_ _)) hb2 (by simp; omega); have g5 : Blk w2 (w.heap.size + 1 + 1 + 1) #[.int .i64 0, .int .i64 0, .int .i64 0, .bool false, .string { data := #[] }, .slice none 0 0] 52 := Blk.below (by repeat (first | exact Blk.new_i _ _ _ _ | refine Blk.alloc ?_ _ | refine Blk.junk ?_ _)) hb2 (by simp; omega); have iB2 : Bel w w2 := ⟨hbw⟩; have j3 := g3.lt; have y0 := g3.cell 0; have y1 := g3.cell 1; have y2 := g3.cell 2; have y3 := g3.cell 3; have y4 := g3.cell 4; have y5 := g3.cell 5; have y6 := g3.cell 6; have y7 := g3.cell 7; simp only [List.getElem?_toArray, List.getElem?_cons_zero, List.getElem?_cons_succ] at y0 y1 y2 y3 y4 y5 y6 y7; obtain ⟨ja, jn, jcap, ka, kn, kcap, la, ln, lcap, rfl, rfl, rfl⟩ := hso.forms; have HX := Lib.hid (callAt hb2 hso hrun2); have H2 := Lib.hid (And.intro hbw (And.intro g2 (And.intro g4 g5))); clear hb2 hso hbw g2 g3 g4 g5) | (go_at_call 108; refine HX.out.mono ?_; rintro e w3 ⟨hb3, hr3⟩; have hr4 : e = .returned (.tuple #[]) ∧ DoAt _ w3 (w2.heap.size + 1) w2.heap.size S' c r' := hr3; clear hr3; obtain ⟨rfl, hdo⟩ := hr4; have g4 : Blk w3 (w.heap.size + 1 + 1) #[.slice none 0 0, .slice none 0 0, .slice none 0 0] 26 := Blk.below (by repeat (first | exact Blk.new_i _ _ _ _ | refine Blk.alloc ?_ _ | refine Blk.junk ?_ _)) hb3 (by simp; omega); have g5 : Blk w3 (w.heap.size + 1 + 1 + 1) #[.int .i64 0, .int .i64 0, .int .i64 0, .bool false, .string { data := #[] }, .slice none 0 0] 52 := Blk.below (by repeat (first | exact Blk.new_i _ _ _ _ | refine Blk.alloc ?_ _ | refine Blk.junk ?_ _)) hb3 (by simp; omega); have hbw3 : Below w.heap.size w w3 := (bel w _).trans (hb3.mono (bel w _).size); obtain ⟨iv3, ov3, mv3, nv3, hB1, hB2, hD, hbk, hst, hnv⟩ := hdo; have hst2 := hst.mono (bel w _).size; have hnv2 := hnv.mono (bel w _).size; have iB3 : Bel w w3 := ⟨hbw3⟩; obtain ⟨ua, un, uc, va, vn, vc, xa, xn, xc, rfl, rfl, rfl⟩ := hst.forms; obtain ⟨na, nn, nc, rfl⟩ := hnv.form; have iO := hbk.lt; have iD := hD.lt; have x0 := hbk.cell 0; have x1 := hbk.cell 1; have x2 := hbk.cell 2; simp only [List.getElem?_toArray, List.getElem?_cons_zero, List.getElem?_cons_succ] at x0 x1 x2; have z0 : w3.cell? ⟨w2.heap.size + 1, 0, none⟩ = some (.pointer (some ⟨w2.heap.size, 0, none⟩)) := hD.cell 0; have z9 : w3.cell? ⟨w2.heap.size + 1, 9, none⟩ = some (.int .i64 r'.code) := hD.cell 9; have z10 : w3.cell? ⟨w2.heap.size + 1, 10, none⟩ = some (.int .i64 r'.fd) := hD.cell 10; have z11 : w3.cell? ⟨w2.heap.size + 1, 11, none⟩ = some (.int .i64 r'.num) := hD.cell 11; have z12 : w3.cell? ⟨w2.heap.size + 1, 12, none⟩ = some (.bool r'.dir) := hD.cell 12; have z13 : w3.cell? ⟨w2.heap.size + 1, 13, none⟩ = some (.string r'.data) := hD.cell 13; have z14 : w3.cell? ⟨w2.heap.size + 1, 14, none⟩ = some (.slice na nn nc) := hD.cell 14; have i4 := g4.lt; have i5 := g5.lt; have y0 := g4.cell 0; have y1 := g4.cell 1; have y2 := g4.cell 2; have q0 := g5.cell 0; have q1 := g5.cell 1; have q2 := g5.cell 2; have q3 := g5.cell 3; have q4 := g5.cell 4; have q5 := g5.cell 5; simp only [List.getElem?_toArray, List.getElem?_cons_zero, List.getElem?_cons_succ] at y0 y1 y2 q0 q1 q2 q3 q4 q5; have fy0 := g4.frozen 0; have fy1 := g4.frozen 1; have fy2 := g4.frozen 2; have fq0 := g5.frozen 0; have fq1 := g5.frozen 1; have fq2 := g5.frozen 2; have fq3 := g5.frozen 3; have fq4 := g5.frozen 4; have fq5 := g5.frozen 5; have hw2s : w.heap.size + 4 ≤ w2.heap.size := (by have h1 := (H2.out.2.2.2).lt.lt; omega); have H3 := Lib.hid (And.intro hbw3 (And.intro hst2 (And.intro hnv2 (And.intro g4 g5)))); clear hb3 hB1 hB2 hD hbk hst hnv hst2 hnv2 g4 g5 hbw3))
     have nO4 : ¬ w.heap.size + 1 + 1 = w2.heap.size := by omega
     have nD4 : ¬ w.heap.size + 1 + 1 = w2.heap.size + 1 := by omega
     have nO4' : ¬ w2.heap.size = w.heap.size + 1 + 1 := by omega
     have nD4' : ¬ w2.heap.size + 1 = w.heap.size + 1 + 1 := by omega
     refine wp_region_eff [5, 6] true (fun w' => w'.cell? ⟨w2.heap.size, 0, none⟩ = some (.slice ua un uc) ∧ w'.cell? ⟨w2.heap.size, 1, none⟩ = some (.slice va vn vc) ∧ w'.cell? ⟨w2.heap.size, 2, none⟩ = some (.slice xa xn xc) ∧ w'.cell? ⟨w2.heap.size + 1, 9, none⟩ = some (.int .i64 r'.code) ∧ w'.cell? ⟨w2.heap.size + 1, 10, none⟩ = some (.int .i64 r'.fd) ∧ w'.cell? ⟨w2.heap.size + 1, 11, none⟩ = some (.int .i64 r'.num) ∧ w'.cell? ⟨w2.heap.size + 1, 12, none⟩ = some (.bool r'.dir) ∧ w'.cell? ⟨w2.heap.size + 1, 13, none⟩ = some (.string r'.data) ∧ w'.cell? ⟨w2.heap.size + 1, 14, none⟩ = some (.slice na nn nc)) (by kernel_rfl) (by kernel_rfl) ?_ ?_
     · (try dsimp only); (repeat' apply And.intro) <;> go_simp
     repeat
      refine wpL_look rfl rfl ?_; apply Exists.intro; refine ⟨?_, ?_⟩
      focus
       rintro w' ⟨s0, s1, s2, s3, s4, s5, s6, s7, s8⟩; go_simp
       first | done | rfl
      simp only [Act.put, List.setIfInBounds_toArray, List.set_cons_zero, List.set_cons_succ]
     refine wpL_skip rfl rfl ?_; apply Exists.intro; refine ⟨?_, ?_, ?_⟩
     focus
      go_simp; rfl
     focus
      refine .inl ⟨?_, ?_, ?_, ?_, ?_, ?_, ?_, ?_, ?_⟩ <;> go_simp
     simp only [Act.put, List.setIfInBounds_toArray, List.set_cons_zero, List.set_cons_succ]; refine wpL_skip rfl rfl ?_; apply Exists.intro; refine ⟨?_, .inr ⟨rfl, rfl⟩, ?_⟩
     focus
      go_simp; rfl
     simp only [Act.put]; refine wpL_end ?_; go_wp2_with fail; refine leaves_cons (f := 107) (args := #[.pointer (some ⟨w.heap.size, 0, none⟩), .pointer (some ⟨w.heap.size + 1 + 1, 0, none⟩), .pointer (some ⟨w.heap.size + 1 + 1 + 1, 0, none⟩)]) (by simp) (by simp [go_sem]) ?_; refine (catch_idle ⟨w.heap.size, 0, none⟩ ⟨w.heap.size + 1 + 1, 0, none⟩ ⟨w.heap.size + 1 + 1 + 1, 0, none⟩ _).mono ?_; rintro e u' w4 ⟨rfl, rfl, rfl⟩; obtain ⟨hbw3, hst2, hnv2, g4, g5⟩ := H3.out; obtain ⟨e4, e5, hk⟩ := lay9_at (.slice ua un uc) (.slice va vn vc) (.slice xa xn xc) (.int .i64 r'.code) (.int .i64 r'.fd) (.int .i64 r'.num) (.bool r'.dir) (.string r'.data) (.slice na nn nc) g4 g5; have e4 := e4.drew; have e5 := e5.drew; have hk := hk.drew; have hnv3 := hnv2.keep hk (fun g hg h => by rcases h with h | h <;> first | exact hnv2.ne_blk g4 (by decide) hg h | exact hnv2.ne_blk g5 (by decide) hg h); have hst3 := hst2.lay9 g4 g5 hk; have hbf := hbw3.trans (hk.below hbw3.size (fun i hi h => by rcases h with h | h <;> omega)); refine ⟨_, res20 _ (w.heap.size + 1 + 1) (w.heap.size + 1 + 1 + 1) _ _ _ _ _ _ _ _ _ _ rfl rfl e4 e5, ?_⟩; exact ⟨hbf, _, _, _, _, rfl, hst3, hnv3⟩
end Go.Proofs.YtmkapobnfigedaaGreatDoor
