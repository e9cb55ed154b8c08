/- Part of the proof of a law of chapter 15. Conditions: none. -/
import Derived.Test.YtmkapobnfigedaaGreatDoorDp22
import Derived.Test.YtmkapobnfigedaaGreatDoorDp21
set_option linter.unusedVariables false
set_option linter.unusedSimpArgs false
set_option maxRecDepth 100000
set_option maxHeartbeats 8000000
namespace Go.Proofs.YtmkapobnfigedaaGreatDoor
open Go.RowKit
theorem findN_num {ns : List Int} {n : Int} (h : 0 ≤ findN ns n) : ns[(findN ns n).toNat]? = some n := by
 unfold findN at h ⊢
 split at h
 · rename_i hc
   rw [if_pos hc]; simp only [Bool.and_eq_true, decide_eq_true_eq] at hc; obtain ⟨h1, h2⟩ := hc; rw [Int.toNat_natCast]; unfold cmpN at h2; rw [gE h1] at h2 ⊢; simp only at h2; unfold cmpM at h2
   congr 1
   split at h2
   · exact absurd h2 (by decide)
   · split at h2
     · exact absurd h2 (by decide)
     · omega
 · omega
theorem delAt_get {α : Type} (l : List α) (i : Nat) (hi : i < l.length) (q : Nat) : (delAt l i)[q]? = if q < i then l[q]? else l[q + 1]? := by
 unfold delAt
 have htl : (l.take i).length = i := by rw [List.length_take]; omega
 by_cases h1 : q < i
 · rw [if_pos h1, List.getElem?_append_left (by omega), List.getElem?_take, if_pos h1]
 · rw [if_neg h1, List.getElem?_append_right (by omega), htl, List.getElem?_drop]
   congr 1
   omega
theorem delAt_len {α : Type} (l : List α) (i : Nat) (hi : i < l.length) : (delAt l i).length = l.length - 1 := by
 unfold delAt
 rw [lP, List.length_take, List.length_drop]
 omega
theorem StOwn.delIns {B : Nat} {w : World} {iv ov mv : Value} {S : PSt} (h : StOwn B w iv ov mv S) (i : Nat) (hi : i < S.ins.length) :
 ∃ is : List IRec, OwnP B w 68 4 iv (is.map IRec.cells) ∧ is.length = S.ins.length ∧ ∀ (w1 : World) (iv' : Value) (X : Nat → Prop), Keep X w w1 → (∀ g, X g → ∃ c, Blk w g c 68) → OwnP B w1 68 4 iv' ((is.map IRec.cells).take i ++ (is.map IRec.cells).drop (i + 1)) → StOwn B w1 iv' ov mv { S with ins := delAt S.ins i } := by
 obtain ⟨h1, h2, is, h3, h4, h5, h6⟩ := h
 refine ⟨is, h3, h4, fun w1 iv' X hk hX hiv => ?_⟩
 have key : ∀ {e : TypeId} {k : Nat} {v : Value} {rows : List (List Value)}, OwnP B w e k v rows → e ≠ 68 → OwnP B w1 e k v rows := by
  intro e k v rows ho he; refine ho.keep hk (fun g hg hx => ?_); obtain ⟨c, hc⟩ := hX g hx; exact ho.ne_blk hc he hg rfl
 have hrec : ∀ (q : Nat) (r : IRec) (x : PIn), is[q]? = some r → S.ins[q]? = some x → r.num = x.num ∧ r.dir = x.dir ∧ r.data = x.data ∧ OwnP B w1 97 2 r.ev (x.ents.map PEnt.cells) := fun q r x hr hx => by
  obtain ⟨a1, a2, a3, a4⟩ := h5 q r x hr hx; exact ⟨a1, a2, a3, key a4 (by decide)⟩
 refine ⟨key h1 (by decide), key h2 (by decide), delAt is i, ?_, ?_, ?_, ?_⟩
 · rw [delAt_map]; exact hiv
 · show (delAt is i).length = (delAt S.ins i).length; rw [delAt_len _ _ (by omega), delAt_len _ _ hi, h4]
 · intro q r x hr hx; have hx : (delAt S.ins i)[q]? = some x := hx; rw [delAt_get _ _ (by omega)] at hr; rw [delAt_get _ _ hi] at hx; by_cases c1 : q < i
   · rw [if_pos c1] at hr hx; exact hrec q r x hr hx
   · rw [if_neg c1] at hr hx; exact hrec (q + 1) r x hr hx
 · intro p q r r' hpq hp hq k hkk; rw [delAt_get _ _ (by omega)] at hp hq; have old : ∀ (p : Nat) (r : IRec), (if p < i then is[p]? else is[p + 1]?) = some r → is[if p < i then p else p + 1]? = some r := by
    intro p r hp; by_cases c1 : p < i
    · rw [if_pos c1] at hp ⊢; exact hp
    · rw [if_neg c1] at hp ⊢; exact hp
   refine h6 _ _ r r' ?_ (old p r hp) (old q r' hq) k hkk
   split <;> split <;> omega
def tidyM (S : PSt) (num : Int) : PSt := match S.ins[(findN S.nums num).toNat]? with
 | none => S
 | some x => if (!x.dir && ((linksM S num : Int) == 0) && !openM S.op num) = true then { S with ins := delAt S.ins (findN S.nums num).toNat } else S
theorem tidy75a {B : Nat} {w : World} {d b bi cap K : Nat} {ov mv nv : Value} {S : PSt} {c : PCall} {r : PRes} {x : PIn} (h : DPart B w d b bi cap ov mv nv S c r) (hB : B ≤ w.heap.size) (hwf : S.wf) (num : Int) (hx : S.ins[K]? = some x) (hfn : findN S.nums num = K) :
 Calls Tryz.prog 145 #[.pointer (some ⟨d, 0, none⟩), .int .i64 num] w fun e w' => e = .returned (.tuple #[]) ∧ Below B w w' ∧ DPart B w' d b bi cap ov mv nv (tidyM S num) c r := by
 have hfind : ∀ ww, Below w.heap.size w ww → Calls Tryz.prog 102 #[.pointer (some ⟨b, 0, none⟩), .int .i64 num] ww _ := fun ww hb => find_sp b S num ww ((SP.of_blk h.hb h.st.read).below hb (Nat.le_refl _)) hwf
 have hlinks : ∀ ww, Below w.heap.size w ww → Calls Tryz.prog 181 #[.agg #[.slice (some ⟨bi, 0, none⟩) S.ins.length cap, ov, mv], .int .i64 num] ww _ := fun ww hb => links82 _ _ _ S num ww (h.st.read.below hb (Nat.le_refl _)) hwf
 have hopen : ∀ ww, Below w.heap.size w ww → Calls Tryz.prog 72 #[.pointer (some ⟨b, 0, none⟩), .int .i64 num] ww _ := fun ww hb => open66 b S num ww ((SP.of_blk h.hb h.st.read).below hb (Nat.le_refl _)) hwf
 have hM : tidyM S num = if (!x.dir && ((linksM S num : Int) == 0) && !openM S.op num) = true then { S with ins := delAt S.ins K } else S := by
  unfold tidyM; rw [hfn, Int.toNat_natCast, hx]
 rw [hM]
 rw [hfn] at hfind
 have iD := h.hD.lt
 have iL := h.hb.lt
 have d0 : w.cell? ⟨d, 0, none⟩ = some (.pointer (some ⟨b, 0, none⟩)) := h.hD.cell 0
 have b0 := h.hb.cell 0
 have b1 := h.hb.cell 1
 have b2 := h.hb.cell 2
 simp at b0 b1 b2
 obtain ⟨iI, x0, x1, x3⟩ := h.dat hx
 obtain ⟨hKl, -⟩ := gI.1 hx
 have hKI : (K : Int) < S.ins.length := by omega
 have hio : (Value.slice (some ⟨bi, 0, none⟩) S.ins.length cap).oneCell' = true := rfl
 have hoo := h.st.1.one
 have hmo := h.st.2.1.one
 have HH := Lib.hid h
 have HW := Lib.hid hwf
 generalize hLv : ((linksM S num : Int) == 0) = L0
 generalize linksM S num = L at hlinks hLv
 generalize openM S.op num = O at hopen
 clear hM h hx hfn x0 x3 hwf
 generalize x.dir = xd at x1
 rcases xd with _ | _
 · rcases L0 with _ | _
   · simp only [Bool.not_false, Bool.and_false, Bool.and_true, Bool.false_and, Bool.true_and, Bool.false_eq_true, if_false]
     go_enter Tryz.func145, Tryz.ntmps145
     go_wp2_with (first | (go_at_call 102; refine aT (hfind _ (bel _ _)) fun p => ?_) | (go_at_call 181; refine aT (hlinks _ (bel _ _)) fun p => ?_))
     exact bodyPost_end (v := .tuple #[]) (by simp [results, go_sem]) rfl ⟨rfl, (bel w _).mono hB, HH.out.below (bel _ _)⟩
   · rcases O with _ | _
     · simp only [Bool.not_false, Bool.not_true, Bool.and_false, Bool.and_true, Bool.false_and, Bool.true_and, Bool.false_eq_true, if_true, if_false]; have hwK : IntKind.i64.wrap ((K : Int) + 1) = (K : Int) + 1 := I64.wrap ⟨by omega, by have := HW.out.1; omega⟩
       go_enter Tryz.func145, Tryz.ntmps145
       go_upto_region 2 with (first | (go_at_call 102; refine aT (hfind _ (bel _ _)) fun p => ?_) | (go_at_call 181; refine aT (hlinks _ (bel _ _)) fun p => ?_) | (go_at_call 72; refine aT (hopen _ (bel _ _)) fun p => ?_))
       refine abs_world (F := fun wA => DPart B wA d b bi cap ov mv nv S c r ∧ Below w.heap.size w wA) ⟨HH.out.below (bel _ _), bel _ _⟩ ?_; clear iD iL d0 b0 b1 b2 iI x1; rintro wA ⟨hA, hbA⟩; have iD := hA.hD.lt; have iL := hA.hb.lt; have d0 : wA.cell? ⟨d, 0, none⟩ = some (.pointer (some ⟨b, 0, none⟩)) := hA.hD.cell 0; have b0 : wA.cell? ⟨b, 0, none⟩ = some (.slice (some ⟨bi, 0, none⟩) S.ins.length cap) := by have := hA.hb.cell 0; simpa using this
       obtain ⟨is, hi1, hi2, hi3⟩ := hA.st.delIns K hKl; have hdel := delete125 B bi cap (is.map IRec.cells) K wA.drew (by rw [lM, hi2]; exact hi1.keep ((Keep.refl (fun _ => False) wA).drew) (fun _ _ h => h)) (irec_len _) (irec_one _) (by rw [lM, hi2]; exact hKl) (by rw [lM, hi2]; exact HW.out.1); rw [lM, hi2] at hdel; have HA := Lib.hid (And.intro hA (And.intro hbA hi3)); clear hA hbA hi3 hi1; refine wp_region_eff [14, 17] true (fun w' => w'.cell? ⟨d, 0, none⟩ = some (.pointer (some ⟨b, 0, none⟩)) ∧ w'.cell? ⟨b, 0, none⟩ = some (.slice (some ⟨bi, 0, none⟩) S.ins.length cap)) (by kernel_rfl) (by kernel_rfl) ?_ ?_
       · (try dsimp only); (repeat' apply And.intro) <;> go_simp
       repeat
        refine wpL_look rfl rfl ?_; apply Exists.intro; refine ⟨?_, ?_⟩
        focus
         rintro w' ⟨s0, s1⟩; go_simp
         first | done | rfl
        simp only [Act.put, sA, sZ, sS]
       refine wpL_act rfl rfl ?_; refine eff_call 182 #[.slice (some ⟨bi, 0, none⟩) S.ins.length cap, .int .i64 K, .int .i64 ((K : Int) + 1)] ?hr ?_
       case hr =>
        go_simp
        first | done | rfl
       refine hdel.mono ?_; rintro e w5 ⟨rfl, ho5, hk5⟩; obtain ⟨hA, hbA, hi3⟩ := HA.out; have hk45 : Keep (fun g => g = bi) wA w5 := ((Keep.refl (fun g => g = bi) wA).drew).trans hk5 (fun _ _ h => h); obtain ⟨hBi, arr, hbi⟩ : B ≤ bi ∧ ∃ arr, Blk wA bi arr 68 := by
        obtain ⟨_, _, is', h3, _⟩ := hA.st; rcases h3 with ⟨h0, _⟩ | ⟨g, cap', arr, heq, hgB, hgb, _⟩
        · cases h0
        · simp only [Value.slice.injEq, Option.some.injEq, Addr.mk.injEq] at heq; obtain ⟨⟨rfl, -, -⟩, -, -⟩ := heq; exact ⟨hgB, arr, hgb⟩
       have hX : ∀ g, g = bi → ∃ c, Blk wA g c 68 := fun g hg => by rw [hg]; exact ⟨arr, hbi⟩
       have hst5 := hi3 w5 _ _ hk45 hX ho5; have hnb : ∀ {g : Nat} {cc : Array Value} {t : TypeId}, Blk wA g cc t → t ≠ 68 → ¬ g = bi := fun hb ht hg => by
        subst hg; exact hb.ne_ hbi ht rfl
       have hD5 := hk45.blk hA.hD (hnb hA.hD (by decide)); have hB5 := hk45.blk hA.hb (hnb hA.hb (by decide)); have hN5 := hA.nm.keep hk45 (fun g hg h => by
        obtain ⟨cc, hcc⟩ := hA.nm.blk_of hg; exact hnb hcc (by decide) h)
       have hBA : B ≤ wA.heap.size := Nat.le_trans hB hbA.size; have hbw5 : Below B w w5 := (hbA.mono hB).trans (hk45.below hBA (fun i hi h => by omega)); have y0 : w5.cell? ⟨d, 0, none⟩ = some (.pointer (some ⟨b, 0, none⟩)) := hD5.cell 0; have y1 : w5.cell? ⟨b, 0, none⟩ = some (.slice (some ⟨bi, 0, none⟩) S.ins.length cap) := by have := hB5.cell 0; simpa using this
       have fy1 := hB5.frozen 0; have jD := hD5.lt; have jB := hB5.lt; have hKb : Keep (fun g => g = b) w5 (w5.setCell ⟨b, 0, none⟩ (.slice (some ⟨bi, 0, none⟩) (S.ins.length - 1) cap)) := Keep.setCell (S := fun g => g = b) (p := ⟨b, 0, none⟩) (Keep.refl _ _) (.inl rfl) _; have hp : DPart B (w5.setCell ⟨b, 0, none⟩ (.slice (some ⟨bi, 0, none⟩) (S.ins.length - 1) cap)) d b bi cap ov mv nv { S with ins := delAt S.ins K } c r := ⟨hA.hBb, hA.hBd, hKb.blk hD5 (hD5.ne_ hB5 (by decide)), by rw [delAt_len _ _ hKl]; have := hB5.set_ 0 (.slice (some ⟨bi, 0, none⟩) (S.ins.length - 1) cap); simpa using this, by rw [delAt_len _ _ hKl]; exact hst5.keep hKb (fun g hg => by rw [hg]; exact ⟨_, 26, hB5, by decide, by decide, by decide, by decide⟩), hN5.keep hKb (fun g hg => hN5.ne_blk hB5 (by decide) hg)⟩
       have hbf : Below B w (w5.setCell ⟨b, 0, none⟩ (.slice (some ⟨bi, 0, none⟩) (S.ins.length - 1) cap)) := hbw5.setCell (p := ⟨b, 0, none⟩) hA.hBb _; have HF := Lib.hid (And.intro hp hbf); clear hA hbA hst5 hD5 hB5 hN5 hk45 hk5 ho5 hnb hbw5 hKb hp hbf hdel hbi hX hi3; refine ⟨_, rfl, .inl ⟨y0, y1⟩, ?_⟩; simp only [Act.put, sA, sZ, sS]
       repeat
        refine wpL_look rfl rfl ?_; apply Exists.intro; refine ⟨?_, ?_⟩
        focus
         rintro w' ⟨s0, s1⟩; go_simp
         first | done | rfl
        simp only [Act.put, sA, sZ, sS]
       refine wpL_skip rfl rfl ?_; apply Exists.intro; refine ⟨?_, .inr ⟨rfl, rfl⟩, ?_⟩
       focus
        go_simp; rfl
       simp only [Act.put]; refine wpL_end ?_; exact bodyPost_end (v := .tuple #[]) (by simp [results, go_sem]) rfl ⟨rfl, HF.out.2, HF.out.1⟩
     · simp only [Bool.not_false, Bool.not_true, Bool.and_false, Bool.and_true, Bool.false_and, Bool.true_and, Bool.false_eq_true, if_true, if_false]
       go_enter Tryz.func145, Tryz.ntmps145
       go_wp2_with (first | (go_at_call 102; refine aT (hfind _ (bel _ _)) fun p => ?_) | (go_at_call 181; refine aT (hlinks _ (bel _ _)) fun p => ?_) | (go_at_call 72; refine aT (hopen _ (bel _ _)) fun p => ?_))
       exact bodyPost_end (v := .tuple #[]) (by simp [results, go_sem]) rfl ⟨rfl, (bel w _).mono hB, HH.out.below (bel _ _)⟩
 · simp only [Bool.not_true, Bool.false_and, Bool.false_eq_true, if_false]
   go_enter Tryz.func145, Tryz.ntmps145
   go_wp2_with (first | (go_at_call 102; refine aT (hfind _ (bel _ _)) fun p => ?_))
   exact bodyPost_end (v := .tuple #[]) (by simp [results, go_sem]) rfl ⟨rfl, (bel w _).mono hB, HH.out.below (bel _ _)⟩
def closeA (S : PSt) (c : PCall) (r : PRes) : Except Int (PSt × PRes) := match fileX S c with
 | none => .error 4
 | some y => .ok (tidyM { S with op := delAt S.op (idxM (isFd c) S.op).toNat } y.2.num, r)
theorem fileX_num {S : PSt} {c : PCall} {K : Nat} {x : PIn} (hf : Fine S) (h : fileX S c = some (K, x)) : findN S.nums x.num = K := by
 unfold fileX at h
 split at h
 · cases h
 · split at h
   · cases h
   · rename_i y hy
     split at h
     · cases h
     · rename_i z hz
       cases h; have h0 := hf.opens y (mG hy); have h1 := findN_num h0; have h2 : S.nums[(findN S.nums y.num).toNat]? = some x.num := by
        show (S.ins.map PIn.num)[(findN S.nums y.num).toNat]? = some x.num; rw [gM, hz]; rfl
       rw [h2] at h1; simp only [Option.some.injEq] at h1; rw [h1]; omega
theorem run_closeA (B d b : Nat) (S : PSt) (c : PCall) (r : PRes) (w : World) (h : DoAt B w d b S c r) (hB : B ≤ w.heap.size) (hf : Fine S) (hk : c.kind = 3) :
 Calls Tryz.prog 108 #[.pointer (some ⟨d, 0, none⟩)] w (RunOut B w d b c (closeA S c r)) := by
 obtain ⟨bi, cap, ov, mv, nv, hP⟩ := h.part hf.pos
 have ht := hP.file hf
 unfold fileE at ht
 unfold closeA
 rcases hX : fileX S c with _ | ⟨K, x⟩
 · rw [hX] at ht; simp only at ht ⊢; have iD := hP.hD.lt; have d1 : w.cell? ⟨d, 1, none⟩ = some (.int .i64 c.kind) := hP.hD.cell 1; rw [hk] at d1; clear h hP hX hf hk
   go_enter Tryz.func108, Tryz.ntmps108
   go_wp2_with (go_at_call 143; refine ht.mono ?_; rintro e w1 ⟨hb1, rfl⟩; obtain ⟨p, rfl⟩ := hb1.rest; clear hb1)
   exact ⟨rfl, (bel w _).mono hB, rfl⟩
 rw [hX] at ht
 simp only at ht ⊢
 obtain ⟨hx, hKl⟩ := fileX_at hX
 have hfn := fileX_num hf hX
 have hib := idxM_bounds (isFd c) S.op
 have hI0 : 0 ≤ idxM (isFd c) S.op := by
  unfold fileX at hX
  split at hX
  · cases hX
  · omega
 obtain ⟨I, hI⟩ : ∃ I : Nat, idxM (isFd c) S.op = I := ⟨(idxM (isFd c) S.op).toNat, by omega⟩
 rw [hI] at ht hib ⊢
 rw [Int.toNat_natCast]
 have hIl : I < S.op.length := by omega
 have hwI : IntKind.i64.wrap ((I : Int) + 1) = (I : Int) + 1 := I64.wrap ⟨by omega, by have := hf.wf.2.1; omega⟩
 have iD := hP.hD.lt
 have d1 : w.cell? ⟨d, 1, none⟩ = some (.int .i64 c.kind) := hP.hD.cell 1
 rw [hk] at d1
 obtain ⟨go, co, rfl, -⟩ := hP.st.1.some_ (by rw [lM]; omega)
 rw [lM] at hP
 have HP := Lib.hid hP
 have HS := Lib.hid (And.intro hf (And.intro hx hfn))
 have hol := hf.wf.2.1
 clear h hP hX hI hI0 hf hx hfn hib
 go_enter Tryz.func108, Tryz.ntmps108
 go_upto_region 8 with (go_at_call 143; refine ht.mono ?_; rintro e w1 ⟨hb1, rfl⟩; have HB := Lib.hid hb1; clear hb1)
 refine abs_world (F := fun wA => DPart B wA d b bi cap (.slice (some ⟨go, 0, none⟩) S.op.length co) mv nv S c r ∧ Below w.heap.size w wA) ⟨HP.out.below HB.out, HB.out⟩ ?_
 clear ht iD HP HB d1
 rintro wA ⟨hA, hbA⟩
 have iD := hA.hD.lt
 have iL := hA.hb.lt
 have d0 : wA.cell? ⟨d, 0, none⟩ = some (.pointer (some ⟨b, 0, none⟩)) := hA.hD.cell 0
 have b1 : wA.cell? ⟨b, 1, none⟩ = some (.slice (some ⟨go, 0, none⟩) S.op.length co) := by have := hA.hb.cell 1; simpa using this
 have hdel := delete74 B go co (S.op.map PDesc.cells) I wA.drew (by rw [lM]; exact hA.st.1.keep ((Keep.refl (fun _ => False) wA).drew) (fun _ _ h => h)) (pdesc_len _) (pdesc_one _) (by rw [lM]; exact hIl) (by rw [lM]; exact hol)
 rw [lM] at hdel
 have HA := Lib.hid (And.intro hA hbA)
 clear hA hbA
 refine wp_region_eff [14, 17] true (fun w' => w'.cell? ⟨d, 0, none⟩ = some (.pointer (some ⟨b, 0, none⟩)) ∧ w'.cell? ⟨b, 1, none⟩ = some (.slice (some ⟨go, 0, none⟩) S.op.length co)) (by kernel_rfl) (by kernel_rfl) ?_ ?_
 · (try dsimp only); (repeat' apply And.intro) <;> go_simp
 repeat
  refine wpL_look rfl rfl ?_; apply Exists.intro; refine ⟨?_, ?_⟩
  focus
   rintro w' ⟨s0, s1⟩; go_simp
   first | done | rfl
  simp only [Act.put, sA, sZ, sS]
 refine wpL_act rfl rfl ?_
 refine eff_call 144 #[.slice (some ⟨go, 0, none⟩) S.op.length co, .int .i64 I, .int .i64 ((I : Int) + 1)] ?hr ?_
 case hr =>
  go_simp
  first | done | rfl
 refine hdel.mono ?_
 rintro e w5 ⟨rfl, ho5, hk5⟩
 obtain ⟨hA, hbA⟩ := HA.out
 have hk45 : Keep (fun g => (Value.slice (some ⟨go, 0, none⟩) S.op.length co).ownBlock = some g) wA w5 := by
  have h0 : Keep (fun g => g = go) wA w5 := ((Keep.refl (fun g => g = go) wA).drew).trans hk5 (fun _ _ h => h); exact h0.mono (fun i _ hi => by rw [hi]; rfl)
 have hst5 := hA.st.setOp3 (op' := delAt S.op I) hk45 (by rw [delAt_map]; exact ho5)
 have hnb : ∀ {g : Nat} {cc : Array Value} {t : TypeId}, Blk wA g cc t → t ≠ 95 → ¬ (Value.slice (some ⟨go, 0, none⟩) S.op.length co).ownBlock = some g := fun hb ht hg => hA.st.1.ne_blk hb (fun e => ht e.symm) hg rfl
 have hD5 := hk45.blk hA.hD (hnb hA.hD (by decide))
 have hB5 := hk45.blk hA.hb (hnb hA.hb (by decide))
 have hN5 := hA.nm.keep hk45 (fun g hg h => by
  obtain ⟨cc, hcc⟩ := hA.nm.blk_of hg; exact hnb hcc (by decide) h)
 have hBA : B ≤ wA.heap.size := Nat.le_trans hB hbA.size
 have hbw5 : Below B w w5 := (hbA.mono hB).trans (hk45.below hBA (fun i hi h => by have := hA.st.1.ge h; omega))
 have y0 : w5.cell? ⟨d, 0, none⟩ = some (.pointer (some ⟨b, 0, none⟩)) := hD5.cell 0
 have y1 : w5.cell? ⟨b, 1, none⟩ = some (.slice (some ⟨go, 0, none⟩) S.op.length co) := by have := hB5.cell 1; simpa using this
 have fy1 := hB5.frozen 1
 have jD := hD5.lt
 have jB := hB5.lt
 have hKb : Keep (fun g => g = b) w5 (w5.setCell ⟨b, 1, none⟩ (.slice (some ⟨go, 0, none⟩) (S.op.length - 1) co)) := Keep.setCell (S := fun g => g = b) (p := ⟨b, 1, none⟩) (Keep.refl _ _) (.inl rfl) _
 have hp : DPart B (w5.setCell ⟨b, 1, none⟩ (.slice (some ⟨go, 0, none⟩) (S.op.length - 1) co)) d b bi cap (.slice (some ⟨go, 0, none⟩) (S.op.length - 1) co) mv nv { S with op := delAt S.op I } c r := ⟨hA.hBb, hA.hBd, hKb.blk hD5 (hD5.ne_ hB5 (by decide)), by have := hB5.set_ 1 (.slice (some ⟨go, 0, none⟩) (S.op.length - 1) co); simpa using this, hst5.keep hKb (fun g hg => by rw [hg]; exact ⟨_, 26, hB5, by decide, by decide, by decide, by decide⟩), hN5.keep hKb (fun g hg => hN5.ne_blk hB5 (by decide) hg)⟩
 have hbf : Below B w (w5.setCell ⟨b, 1, none⟩ (.slice (some ⟨go, 0, none⟩) (S.op.length - 1) co)) := hbw5.setCell (p := ⟨b, 1, none⟩) hA.hBb _
 obtain ⟨hf, hx, hfn⟩ := HS.out
 have hwf' : ({ S with op := delAt S.op I } : PSt).wf := by
  obtain ⟨a1, a2, a3, a4, a5, a6⟩ := hf.wf; refine ⟨a1, ?_, a3, a4, fun y hy => ?_, a6⟩
  · show (delAt S.op I).length ≤ _; unfold delAt; simp; omega
  · have hy' : y ∈ S.op.take I ++ S.op.drop (I + 1) := hy; exact a5 y ((List.mem_append.1 hy').elim List.mem_of_mem_take List.mem_of_mem_drop)
 have htd := tidy75a hp (Nat.le_trans hB hbf.size) hwf' x.num hx hfn
 obtain ⟨hge, cc, hcc⟩ := hA.ge_bi hx
 have hI5 := hk45.blk hcc (hnb hcc (by decide))
 have nbb : ¬ bi = b := hI5.ne_ hB5 (by decide)
 have nbb2 : ¬ b = bi := fun e => nbb e.symm
 have iI5 := hI5.lt
 have z05 : w5.cell? ⟨bi, K * 4, none⟩ = some (.int .i64 x.num) := by rw [hI5.cell, ← hcc.cell]; exact (hA.dat hx).2.1
 have HF := Lib.hid (And.intro hp (And.intro hbf hf))
 clear hA hbA hst5 hD5 hB5 hN5 hk45 hk5 ho5 hnb hbw5 hKb hp hbf hwf' hf hx hfn hdel hge hcc hI5
 refine ⟨_, rfl, .inl ⟨y0, y1⟩, ?_⟩
 simp only [Act.put, sA, sZ, sS]
 repeat
  refine wpL_look rfl rfl ?_; apply Exists.intro; refine ⟨?_, ?_⟩
  focus
   rintro w' ⟨s0, s1⟩; go_simp
   first | done | rfl
  simp only [Act.put, sA, sZ, sS]
 refine wpL_skip rfl rfl ?_
 apply Exists.intro
 refine ⟨?_, .inr ⟨rfl, rfl⟩, ?_⟩
 focus
  go_simp; rfl
 simp only [Act.put]
 refine wpL_end ?_
 clear d0 b1 iD iL
 go_wp2_with (go_at_call 145; refine htd.mono ?_; rintro e w7 ⟨rfl, hb7, hp7⟩; have H7 := Lib.hid (And.intro hb7 hp7); clear hb7 hp7)
 exact bodyPost_end (v := .tuple #[]) (by simp [results, go_sem]) rfl ⟨HF.out.2.1.trans H7.out.1, rfl, H7.out.2.at_⟩
end Go.Proofs.YtmkapobnfigedaaGreatDoor
