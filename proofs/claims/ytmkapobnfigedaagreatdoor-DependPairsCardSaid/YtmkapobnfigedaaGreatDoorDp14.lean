/- Part of the proof of a law of chapter 15. Conditions: none. -/
import Derived.Test.YtmkapobnfigedaaGreatDoorDp13
import Derived.Test.YtmkapobnfigedaaGreatDoorDp12
set_option linter.unusedVariables false
set_option linter.unusedSimpArgs false
set_option maxRecDepth 100000
set_option maxHeartbeats 8000000
namespace Go.Proofs.YtmkapobnfigedaaGreatDoor
open Go.RowKit
theorem abs_worldR {F : World → Prop} {c : Code} {Q : Exit → Act → World → Prop} {a : Act} {w : World} (hF : F w) (h : ∀ w, F w → c.wp Tryz.prog Q a w) : c.wp Tryz.prog Q a w := h w hF
def dirB (S : PSt) (n : Int) : Bool := match S.ins[(findN S.nums n).toNat]? with
 | some x => x.dir
 | none => false
def renEnd (S : PSt) (r : PRes) (K1 : Nat) (x1 : PIn) (s : ByteArray) (num : Int) (K2 : Nat) (t : ByteArray) : Except Int (PSt × PRes) :=
 match (S.ents K1 x1 (delAt x1.ents (bsE x1.ents s))).ins[K2]? with
 | none => .error 0
 | some y => .ok ((S.ents K1 x1 (delAt x1.ents (bsE x1.ents s))).ents K2 y (insAt y.ents (bsE y.ents t) ⟨t, num⟩), r)
def renTo (S : PSt) (r : PRes) (K1 : Nat) (x1 : PIn) (s : ByteArray) (num : Int) (K2 : Nat) (t : ByteArray) : Except Int (PSt × PRes) :=
 match S.ins[K2]? with
 | none => .error 0
 | some x2 => if hitE x2.ents t = true then .error 2 else if fullM x2.ents t (if x1.num = x2.num then s else { data := #[] }) = true then .error 5 else renEnd S r K1 x1 s num K2 t
def renFrom (S : PSt) (r : PRes) (ns2 : List ByteArray) (K1 : Nat) (x1 : PIn) (s : ByteArray) : Except Int (PSt × PRes) :=
 if hitE x1.ents s = false then .error 1 else match x1.ents[bsE x1.ents s]? with
 | none => .error 0
 | some e => match parentM S ns2 with
   | .error k => .error k
   | .ok (K2, t) => if (dirB S e.num && thruM S ns2 e.num) = true then .error 9 else renTo S r K1 x1 s e.num K2 t
def renameM (S : PSt) (c : PCall) (r : PRes) : Except Int (PSt × PRes) :=
 match parentM S (parseM c.path).2 with
 | .error k => .error k
 | .ok (K1, s) => match S.ins[K1]? with
   | none => .error 0
   | some x1 => renFrom S r (parseM c.path2).2 K1 x1 s
def noThr (S : PSt) (c : PCall) : Bool := match parentM S (parseM c.path).2 with
 | .error _ => true
 | .ok (K1, s) => match S.ins[K1]? with
   | none => true
   | some x1 => match x1.ents[bsE x1.ents s]? with
     | none => true
     | some e => !(dirB S e.num && thruM S (parseM c.path2).2 e.num)
theorem rename79 (B d b : Nat) (S : PSt) (c : PCall) (r : PRes) (w : World) (h : DoAt B w d b S c r) (hB : B ≤ w.heap.size) (hf : Fine S) (hs : Small S) (hmd : 0 < S.made.length) (hp : (parseM c.path).1 = 0) (hpl : (parseM c.path).2.length ≤ 1000000000) (hp2 : (parseM c.path2).1 = 0) (hpl2 : (parseM c.path2).2.length ≤ 1000000000)
 (hno : noThr S c = true) :
 Calls Tryz.prog 149 #[.pointer (some ⟨d, 0, none⟩)] w (RunOut B w d b c (renameM S c r)) := by
 obtain ⟨bi, gm, capi, capm, ov, nv, ho⟩ := h.open_ hf.pos hmd
 have d6 : w.cell? ⟨d, 6, none⟩ = some (.string c.path) := ho.hD.cell 6
 have d7 : w.cell? ⟨d, 7, none⟩ = some (.string c.path2) := ho.hD.cell 7
 have d0 : w.cell? ⟨d, 0, none⟩ = some (.pointer (some ⟨b, 0, none⟩)) := ho.hD.cell 0
 have b0 : w.cell? ⟨b, 0, none⟩ = some (.slice (some ⟨bi, 0, none⟩) S.ins.length capi) := ho.hb.cell 0
 have iD := ho.hD.lt
 have iBk := ho.hb.lt
 have iW : Bel w w := inferInstance
 have hthr0 := fun n ww (hb : Below w.heap.size w ww) => through131 d b S c c.path2 n ww (ho.at_.read.below hb (Nat.le_refl _)) hf hp2 hpl2
 obtain ⟨PM1, hPM1⟩ : ∃ PM, parentM S (parseM c.path).2 = PM := ⟨_, rfl⟩
 have hp1 := ho.parent_call hf c.path hp hpl PM1 hPM1
 obtain ⟨PM2, hPM2⟩ : ∃ PM, parentM S (parseM c.path2).2 = PM := ⟨_, rfl⟩
 have hp2' := ho.parent_call hf c.path2 hp2 hpl2 PM2 hPM2
 unfold renameM
 rw [hPM1]
 rcases PM1 with k | ⟨K1, s⟩
 · simp only; have hpar1 : ∀ ww, Below w.heap.size w ww → Calls Tryz.prog 170 #[.pointer (some ⟨d, 0, none⟩), .string c.path] ww fun e w' => e = thrown k ∧ Below ww.heap.size ww w' := hp1
   clear hp1 hp2' hPM1 hPM2 hf hs ho hthr0 hno
   go_enter Tryz.func149, Tryz.ntmps149
   go_wp2_with (first | (go_at_call 170; with_reducible refine aE (hpar1 _ (bel _ _)) fun p => ?_))
   exact ⟨rfl, (bel w _).mono hB, rfl⟩
 · have hpar1 : ∀ ww, Below w.heap.size w ww → Calls Tryz.prog 170 #[.pointer (some ⟨d, 0, none⟩), .string c.path] ww fun e w' => e = .returned (.tuple #[.pointer (some ⟨bi, K1 * 4, none⟩), .string s]) ∧ Below ww.heap.size ww w' := hp1
   obtain ⟨x1, hx1, _⟩ := parent_ok hPM1; obtain ⟨ea1, ec1, hI1⟩ := ho.ino hs hx1; have hent1 := fun ww hb => hI1.ent ww s hb
   have a2 := hI1.y2; have a0 := hI1.y0; have iBi := hI1.iB; simp only; rw [hx1]; simp only; unfold renFrom; by_cases hhit : hitE x1.ents s = false
   · rw [if_pos hhit]; rw [hhit] at hent1; clear hp1 hp2' hPM1 hPM2 hf hs ho hthr0 hno hI1 hx1
     go_enter Tryz.func149, Tryz.ntmps149
     go_wp2_with (first | (go_at_call 170; with_reducible refine aE (hpar1 _ (bel _ _)) fun p => ?_) | (go_at_call 171; with_reducible refine aT (hent1 _ (bel _ _)) fun p => ?_) | (go_at_call 172; with_reducible refine aE (throw_yes _ _) fun p => ?_) | (go_at_call 172; with_reducible refine aT (throw_no _ _) fun p => ?_))
     exact ⟨rfl, (bel w _).mono hB, rfl⟩
   · rw [if_neg hhit]; have hhit : hitE x1.ents s = true := by simpa using hhit
     have hqt := hitE_lt hhit; rw [hhit] at hent1; obtain ⟨e1, he1⟩ : ∃ e, x1.ents[bsE x1.ents s]? = some e := ⟨_, gE hqt⟩
     rw [he1]; simp only; obtain ⟨q, hq⟩ : ∃ q, bsE x1.ents s = q := ⟨_, rfl⟩
     simp only [hq] at hent1 hqt; have hqI : (q : Int) < x1.ents.length := by omega
     obtain ⟨a', c', he', hat'⟩ := hI1.row.at_; simp only [lM, Value.slice.injEq] at he'; obtain ⟨rfl, -, rfl⟩ := he'; obtain ⟨be, oe, rfl, iE0, -, hce⟩ := hat' w (Below.refl _ _) q e1.cells (by rw [gM, ← hq, he1]; rfl); have n1 := hce 1 _ rfl; rw [hPM2]; have hsp := ho.at_.read.sp; have hfind := fun ww (hb : Below w.heap.size w ww) => find_sp b S e1.num ww (hsp.below hb (Nat.le_refl _)) hf.wf
     have hfb := findN_bounds S.nums e1.num; have hf0 := hf.find x1 (mG hx1) e1 (mG he1); have hnl : S.nums.length = S.ins.length := by unfold PSt.nums; rw [lM]
     rcases PM2 with k | ⟨K2, t⟩
     · simp only; have hpar2 : ∀ ww, Below w.heap.size w ww → Calls Tryz.prog 170 #[.pointer (some ⟨d, 0, none⟩), .string c.path2] ww fun e w' => e = thrown k ∧ Below ww.heap.size ww w' := hp2'
       clear hp1 hp2' hPM1 hPM2 hf hs ho hthr0 hno hI1 hx1 hat' hce he1 hsp hfind hfb hf0
       go_enter Tryz.func149, Tryz.ntmps149
       go_wp2_with (first | (go_at_call 170; with_reducible refine aE (hpar1 _ (bel _ _)) fun p => ?_) | (go_at_call 171; with_reducible refine aT (hent1 _ (bel _ _)) fun p => ?_) | (go_at_call 172; with_reducible refine aT (throw_no _ _) fun p => ?_) | (go_at_call 170; with_reducible refine aE (hpar2 _ (bel _ _)) fun p => ?_))
       exact ⟨rfl, (bel w _).mono hB, rfl⟩
     · have hpar2 : ∀ ww, Below w.heap.size w ww → Calls Tryz.prog 170 #[.pointer (some ⟨d, 0, none⟩), .string c.path2] ww fun e w' => e = .returned (.tuple #[.pointer (some ⟨bi, K2 * 4, none⟩), .string t]) ∧ Below ww.heap.size ww w' := hp2'
       simp only; have hno1 : (dirB S e1.num && thruM S (parseM c.path2).2 e1.num) = false := by
        unfold noThr at hno; rw [hPM1] at hno; simp only [hx1, he1] at hno; generalize dirB S e1.num = a at hno ⊢; generalize thruM S (parseM c.path2).2 e1.num = b at hno ⊢; revert hno; rcases a with _ | _ <;> rcases b with _ | _ <;> simp
       rw [hno1]; simp only [Bool.false_eq_true, if_false]; obtain ⟨f, hfv⟩ : ∃ f : Nat, findN S.nums e1.num = f := ⟨(findN S.nums e1.num).toNat, by omega⟩
       have hfl : f < S.ins.length := by omega
       obtain ⟨xf, hxf⟩ : ∃ xf, S.ins[f]? = some xf := ⟨_, gE hfl⟩
       obtain ⟨eaf, ecf, hIf⟩ := ho.ino hs hxf; have f1 := hIf.y1; have hdb : dirB S e1.num = xf.dir := by unfold dirB; rw [hfv, Int.toNat_natCast, hxf]
       have hfnd : ∀ ww, Below w.heap.size w ww → Calls Tryz.prog 102 #[.pointer (some ⟨b, 0, none⟩), .int .i64 e1.num] ww fun e w' => e = .returned (.int .i64 f) ∧ Below ww.heap.size ww w' := fun ww hb => by have := hfind ww hb; rw [hfv] at this; exact this
       have hthr : ∀ ww, Below w.heap.size w ww → Calls Tryz.prog 188 #[.pointer (some ⟨d, 0, none⟩), .string c.path2, .int .i64 e1.num] ww _ := fun ww hb => hthr0 e1.num ww hb
       rw [hdb] at hno1; have hflI : (f : Int) < S.ins.length := by omega
       obtain ⟨x2, hx2, _⟩ := parent_ok hPM2; obtain ⟨ea2, ec2, hI2⟩ := ho.ino hs hx2; have hent2 := fun ww hb => hI2.ent ww t hb
       have c2 := hI2.y2; have c0 := hI2.y0; unfold renTo; rw [hx2]; simp only; generalize hthv : thruM S (parseM c.path2).2 e1.num = tv at hthr hno1; generalize hdv : xf.dir = dv at f1 hno1; obtain ⟨but, hbut⟩ : ∃ but, (if x1.num = x2.num then s else { data := #[] }) = but := ⟨_, rfl⟩
       rw [hbut]; have hful := fun ww hb => hI2.ful ww t but hb
       obtain ⟨hit2, hh2⟩ : ∃ h, hitE x2.ents t = h := ⟨_, rfl⟩
       obtain ⟨fu, hfu⟩ : ∃ h, fullM x2.ents t but = h := ⟨_, rfl⟩
       rw [hh2] at hent2 ⊢; rw [hfu] at hful ⊢; have hK := Lib.hid (And.intro ho (And.intro hs (And.intro hhit (And.intro he1 (And.intro hx1 hq))))); have hcase : dv = false ∨ (dv = true ∧ tv = false) := by
        rcases dv with _ | _
        · exact .inl rfl
        · exact .inr ⟨rfl, by simpa using hno1⟩
       have hnum : (x1.num == x2.num) = decide (x1.num = x2.num) := by
        by_cases h : x1.num = x2.num <;> simp [h]
       clear hp1 hp2' hPM1 hPM2 hf hthr0 hno hI1 hat' hce hsp hfind hfb hf0 hno1 hIf hI2 hh2 hfu hdb hdv hthv hfv hxf; rcases hit2 with _ | _
       · simp only [Bool.false_eq_true, if_false]; rcases fu with _ | _
         · simp only [Bool.false_eq_true, if_false]; obtain ⟨S1, hS1⟩ : ∃ S1, S.ents K1 x1 (delAt x1.ents (bsE x1.ents s)) = S1 := ⟨_, rfl⟩
           have hl1 : S1.ins.length = S.ins.length := by rw [← hS1]; unfold PSt.ents; simp
           obtain ⟨hK2l, _⟩ := gI.1 hx2; obtain ⟨y2, hy2⟩ : ∃ y, (S.ents K1 x1 (delAt x1.ents (bsE x1.ents s))).ins[K2]? = some y := ⟨_, gE (by rw [hS1]; omega)⟩
           have hyl : y2.ents.length ≤ 100000 := by
            unfold PSt.ents at hy2; simp only at hy2; by_cases hkk : K1 = K2
            · subst hkk; rw [List.getElem?_set_self (by omega)] at hy2; cases hy2; have := hs.ents x1 (mG hx1); unfold delAt; simp only [lP, List.length_take, List.length_drop]; omega
            · rw [List.getElem?_set_ne hkk] at hy2; exact hs.ents y2 (mG hy2)
           unfold renEnd; rw [hy2]; simp only; have hx1l := hs.ents x1 (mG hx1); have htak : ∀ ww, Below w.heap.size w ww → Calls Tryz.prog 187 #[.pointer (some ⟨bi, K1 * 4, none⟩), .string s] ww _ := fun ww hb => take130 B ww ov (.slice (some ⟨gm, 0, none⟩) S.made.length capm) S bi capi K1 x1 s (hK.out.1.below hb).st hK.out.2.2.2.2.1 (Nat.le_trans hB hb.size) (hK.out.2.1.ents x1 (mG hK.out.2.2.2.2.1)) hK.out.2.2.1 e1 hK.out.2.2.2.1
           clear hS1 hl1; by_cases hsm : x1.num = x2.num
           · rw [if_pos hsm] at hbut; rw [decide_eq_true hsm] at hnum; subst hbut; clear hx1 hx2 ho hs hhit he1 hq hsm; rcases hcase with rfl | ⟨rfl, rfl⟩
             · go_enter Tryz.func149, Tryz.ntmps149
               go_upto_region 5 with (first | (go_at_call 170; with_reducible refine aE (hpar1 _ (bel _ _)) fun p => ?_) | (go_at_call 171; with_reducible refine aT (hent1 _ (bel _ _)) fun p => ?_) | (go_at_call 172; with_reducible refine aT (throw_no _ _) fun p => ?_) | (go_at_call 170; with_reducible refine aE (hpar2 _ (bel _ _)) fun p => ?_))
               refine wp_region_quiet_rest (by kernel_rfl) (by kernel_rfl) (WQ.out ?_)
               repeat
                refine WQ_step (fun K hK => ?_); go_simp
                first
                 | (refine hK _ ?_; clear hK K)
                 | (apply Exists.intro
                    refine ⟨fun _ => ?_, hK _ ?_⟩
                    focus (first | (first | refine cI (hfnd _ (bel _ _)) | refine cJ (hfnd _ (bel _ _))) | (first | refine cI (hthr _ (bel _ _)) | refine cJ (hthr _ (bel _ _))) | (first | refine cI (throw_no _ _) | refine cJ (throw_no _ _)))
                    clear hK K)
               refine WN fun p => ?_
               go_upto_region 9 with (first | (go_at_call 171; with_reducible refine aT (hent2 _ (bel _ _)) fun p => ?_) | (go_at_call 172; with_reducible refine aT (throw_no _ _) fun p => ?_))
               refine wp_region_quiet_rest (by kernel_rfl) (by kernel_rfl) ?_
               repeat
                first
                 | go_big_quiet_skip
                 | (go_big_quiet_want; go_big_quiet_op; first | go_big_quiet_on | (apply Exists.intro; refine ⟨fun _ => ?_, ?_⟩; (focus (fail)); go_big_quiet_on))
               refine QN fun p => ?_
               go_upto_region 13 with (first | (go_at_call 173; with_reducible refine aT (hful _ (bel _ _)) fun p => ?_) | (go_at_call 172; with_reducible refine aT (throw_no _ _) fun p => ?_) | (go_at_call 187; refine (htak _ (bel w _)).mono ?_; rintro e w3 ⟨rfl, hb3, hk3, hs3⟩; have o3 := Opened.put (hK.out.1.below (bel w _)) hk3 hs3; have HW3 := Lib.hid (And.intro o3 (((bel w _).mono hB).trans hb3)); clear hb3 hk3 hs3 o3))
               refine abs_worldR (F := fun wA => Opened B wA d b bi gm capi capm ov nv (S.ents K1 x1 (delAt x1.ents (bsE x1.ents s))) c r ∧ Below B w wA) HW3.out ?_; clear HW3 htak; rintro wA ⟨oA, hbA⟩; have hput := put118 B wA ov (.slice (some ⟨gm, 0, none⟩) S.made.length capm) (S.ents K1 x1 (delAt x1.ents (bsE x1.ents s))) bi capi K2 y2 t e1.num oA.st hy2 (Nat.le_trans hB hbA.size) hyl; have HO := Lib.hid (And.intro oA hbA); clear oA hbA; have hlen : (S.ents K1 x1 (delAt x1.ents (bsE x1.ents s))).ins.length = S.ins.length := by unfold PSt.ents; simp
               go_wp2_with (go_at_call 175; refine hput.mono ?_; rintro e w4 ⟨rfl, hb4, hk4, hs4⟩; have o4 := Opened.put HO.out.1 hk4 hs4; have HW4 := Lib.hid (And.intro o4 (HO.out.2.trans hb4)); clear hb4 hk4 hs4 o4)
               exact bodyPost_end (v := .tuple #[]) (by simp [results, go_sem]) rfl ⟨HW4.out.2, rfl, HW4.out.1.at_⟩
             · go_enter Tryz.func149, Tryz.ntmps149
               go_upto_region 5 with (first | (go_at_call 170; with_reducible refine aE (hpar1 _ (bel _ _)) fun p => ?_) | (go_at_call 171; with_reducible refine aT (hent1 _ (bel _ _)) fun p => ?_) | (go_at_call 172; with_reducible refine aT (throw_no _ _) fun p => ?_) | (go_at_call 170; with_reducible refine aE (hpar2 _ (bel _ _)) fun p => ?_))
               refine wp_region_quiet_rest (by kernel_rfl) (by kernel_rfl) (WQ.out ?_)
               repeat
                refine WQ_step (fun K hK => ?_); go_simp
                first
                 | (refine hK _ ?_; clear hK K)
                 | (apply Exists.intro
                    refine ⟨fun _ => ?_, hK _ ?_⟩
                    focus (first | (first | refine cI (hfnd _ (bel _ _)) | refine cJ (hfnd _ (bel _ _))) | (first | refine cI (hthr _ (bel _ _)) | refine cJ (hthr _ (bel _ _))) | (first | refine cI (throw_no _ _) | refine cJ (throw_no _ _)))
                    clear hK K)
               refine WN fun p => ?_
               go_upto_region 9 with (first | (go_at_call 171; with_reducible refine aT (hent2 _ (bel _ _)) fun p => ?_) | (go_at_call 172; with_reducible refine aT (throw_no _ _) fun p => ?_))
               refine wp_region_quiet_rest (by kernel_rfl) (by kernel_rfl) ?_
               repeat
                first
                 | go_big_quiet_skip
                 | (go_big_quiet_want; go_big_quiet_op; first | go_big_quiet_on | (apply Exists.intro; refine ⟨fun _ => ?_, ?_⟩; (focus (fail)); go_big_quiet_on))
               refine QN fun p => ?_
               go_upto_region 13 with (first | (go_at_call 173; with_reducible refine aT (hful _ (bel _ _)) fun p => ?_) | (go_at_call 172; with_reducible refine aT (throw_no _ _) fun p => ?_) | (go_at_call 187; refine (htak _ (bel w _)).mono ?_; rintro e w3 ⟨rfl, hb3, hk3, hs3⟩; have o3 := Opened.put (hK.out.1.below (bel w _)) hk3 hs3; have HW3 := Lib.hid (And.intro o3 (((bel w _).mono hB).trans hb3)); clear hb3 hk3 hs3 o3))
               refine abs_worldR (F := fun wA => Opened B wA d b bi gm capi capm ov nv (S.ents K1 x1 (delAt x1.ents (bsE x1.ents s))) c r ∧ Below B w wA) HW3.out ?_; clear HW3 htak; rintro wA ⟨oA, hbA⟩; have hput := put118 B wA ov (.slice (some ⟨gm, 0, none⟩) S.made.length capm) (S.ents K1 x1 (delAt x1.ents (bsE x1.ents s))) bi capi K2 y2 t e1.num oA.st hy2 (Nat.le_trans hB hbA.size) hyl; have HO := Lib.hid (And.intro oA hbA); clear oA hbA; have hlen : (S.ents K1 x1 (delAt x1.ents (bsE x1.ents s))).ins.length = S.ins.length := by unfold PSt.ents; simp
               go_wp2_with (go_at_call 175; refine hput.mono ?_; rintro e w4 ⟨rfl, hb4, hk4, hs4⟩; have o4 := Opened.put HO.out.1 hk4 hs4; have HW4 := Lib.hid (And.intro o4 (HO.out.2.trans hb4)); clear hb4 hk4 hs4 o4)
               exact bodyPost_end (v := .tuple #[]) (by simp [results, go_sem]) rfl ⟨HW4.out.2, rfl, HW4.out.1.at_⟩
           · rw [if_neg hsm] at hbut; rw [decide_eq_false hsm] at hnum; subst hbut; clear hx1 hx2 ho hs hhit he1 hq hsm; rcases hcase with rfl | ⟨rfl, rfl⟩
             · go_enter Tryz.func149, Tryz.ntmps149
               go_upto_region 5 with (first | (go_at_call 170; with_reducible refine aE (hpar1 _ (bel _ _)) fun p => ?_) | (go_at_call 171; with_reducible refine aT (hent1 _ (bel _ _)) fun p => ?_) | (go_at_call 172; with_reducible refine aT (throw_no _ _) fun p => ?_) | (go_at_call 170; with_reducible refine aE (hpar2 _ (bel _ _)) fun p => ?_))
               refine wp_region_quiet_rest (by kernel_rfl) (by kernel_rfl) (WQ.out ?_)
               repeat
                refine WQ_step (fun K hK => ?_); go_simp
                first
                 | (refine hK _ ?_; clear hK K)
                 | (apply Exists.intro
                    refine ⟨fun _ => ?_, hK _ ?_⟩
                    focus (first | (first | refine cI (hfnd _ (bel _ _)) | refine cJ (hfnd _ (bel _ _))) | (first | refine cI (hthr _ (bel _ _)) | refine cJ (hthr _ (bel _ _))) | (first | refine cI (throw_no _ _) | refine cJ (throw_no _ _)))
                    clear hK K)
               refine WN fun p => ?_
               go_upto_region 9 with (first | (go_at_call 171; with_reducible refine aT (hent2 _ (bel _ _)) fun p => ?_) | (go_at_call 172; with_reducible refine aT (throw_no _ _) fun p => ?_))
               refine wp_region_quiet_rest (by kernel_rfl) (by kernel_rfl) ?_
               repeat
                first
                 | go_big_quiet_skip
                 | (go_big_quiet_want; go_big_quiet_op; first | go_big_quiet_on | (apply Exists.intro; refine ⟨fun _ => ?_, ?_⟩; (focus (fail)); go_big_quiet_on))
               refine QN fun p => ?_
               go_upto_region 13 with (first | (go_at_call 173; with_reducible refine aT (hful _ (bel _ _)) fun p => ?_) | (go_at_call 172; with_reducible refine aT (throw_no _ _) fun p => ?_) | (go_at_call 187; refine (htak _ (bel w _)).mono ?_; rintro e w3 ⟨rfl, hb3, hk3, hs3⟩; have o3 := Opened.put (hK.out.1.below (bel w _)) hk3 hs3; have HW3 := Lib.hid (And.intro o3 (((bel w _).mono hB).trans hb3)); clear hb3 hk3 hs3 o3))
               refine abs_worldR (F := fun wA => Opened B wA d b bi gm capi capm ov nv (S.ents K1 x1 (delAt x1.ents (bsE x1.ents s))) c r ∧ Below B w wA) HW3.out ?_; clear HW3 htak; rintro wA ⟨oA, hbA⟩; have hput := put118 B wA ov (.slice (some ⟨gm, 0, none⟩) S.made.length capm) (S.ents K1 x1 (delAt x1.ents (bsE x1.ents s))) bi capi K2 y2 t e1.num oA.st hy2 (Nat.le_trans hB hbA.size) hyl; have HO := Lib.hid (And.intro oA hbA); clear oA hbA; have hlen : (S.ents K1 x1 (delAt x1.ents (bsE x1.ents s))).ins.length = S.ins.length := by unfold PSt.ents; simp
               go_wp2_with (go_at_call 175; refine hput.mono ?_; rintro e w4 ⟨rfl, hb4, hk4, hs4⟩; have o4 := Opened.put HO.out.1 hk4 hs4; have HW4 := Lib.hid (And.intro o4 (HO.out.2.trans hb4)); clear hb4 hk4 hs4 o4)
               exact bodyPost_end (v := .tuple #[]) (by simp [results, go_sem]) rfl ⟨HW4.out.2, rfl, HW4.out.1.at_⟩
             · go_enter Tryz.func149, Tryz.ntmps149
               go_upto_region 5 with (first | (go_at_call 170; with_reducible refine aE (hpar1 _ (bel _ _)) fun p => ?_) | (go_at_call 171; with_reducible refine aT (hent1 _ (bel _ _)) fun p => ?_) | (go_at_call 172; with_reducible refine aT (throw_no _ _) fun p => ?_) | (go_at_call 170; with_reducible refine aE (hpar2 _ (bel _ _)) fun p => ?_))
               refine wp_region_quiet_rest (by kernel_rfl) (by kernel_rfl) (WQ.out ?_)
               repeat
                refine WQ_step (fun K hK => ?_); go_simp
                first
                 | (refine hK _ ?_; clear hK K)
                 | (apply Exists.intro
                    refine ⟨fun _ => ?_, hK _ ?_⟩
                    focus (first | (first | refine cI (hfnd _ (bel _ _)) | refine cJ (hfnd _ (bel _ _))) | (first | refine cI (hthr _ (bel _ _)) | refine cJ (hthr _ (bel _ _))) | (first | refine cI (throw_no _ _) | refine cJ (throw_no _ _)))
                    clear hK K)
               refine WN fun p => ?_
               go_upto_region 9 with (first | (go_at_call 171; with_reducible refine aT (hent2 _ (bel _ _)) fun p => ?_) | (go_at_call 172; with_reducible refine aT (throw_no _ _) fun p => ?_))
               refine wp_region_quiet_rest (by kernel_rfl) (by kernel_rfl) ?_
               repeat
                first
                 | go_big_quiet_skip
                 | (go_big_quiet_want; go_big_quiet_op; first | go_big_quiet_on | (apply Exists.intro; refine ⟨fun _ => ?_, ?_⟩; (focus (fail)); go_big_quiet_on))
               refine QN fun p => ?_
               go_upto_region 13 with (first | (go_at_call 173; with_reducible refine aT (hful _ (bel _ _)) fun p => ?_) | (go_at_call 172; with_reducible refine aT (throw_no _ _) fun p => ?_) | (go_at_call 187; refine (htak _ (bel w _)).mono ?_; rintro e w3 ⟨rfl, hb3, hk3, hs3⟩; have o3 := Opened.put (hK.out.1.below (bel w _)) hk3 hs3; have HW3 := Lib.hid (And.intro o3 (((bel w _).mono hB).trans hb3)); clear hb3 hk3 hs3 o3))
               refine abs_worldR (F := fun wA => Opened B wA d b bi gm capi capm ov nv (S.ents K1 x1 (delAt x1.ents (bsE x1.ents s))) c r ∧ Below B w wA) HW3.out ?_; clear HW3 htak; rintro wA ⟨oA, hbA⟩; have hput := put118 B wA ov (.slice (some ⟨gm, 0, none⟩) S.made.length capm) (S.ents K1 x1 (delAt x1.ents (bsE x1.ents s))) bi capi K2 y2 t e1.num oA.st hy2 (Nat.le_trans hB hbA.size) hyl; have HO := Lib.hid (And.intro oA hbA); clear oA hbA; have hlen : (S.ents K1 x1 (delAt x1.ents (bsE x1.ents s))).ins.length = S.ins.length := by unfold PSt.ents; simp
               go_wp2_with (go_at_call 175; refine hput.mono ?_; rintro e w4 ⟨rfl, hb4, hk4, hs4⟩; have o4 := Opened.put HO.out.1 hk4 hs4; have HW4 := Lib.hid (And.intro o4 (HO.out.2.trans hb4)); clear hb4 hk4 hs4 o4)
               exact bodyPost_end (v := .tuple #[]) (by simp [results, go_sem]) rfl ⟨HW4.out.2, rfl, HW4.out.1.at_⟩
         · simp only [if_true]; by_cases hsm : x1.num = x2.num
           · rw [if_pos hsm] at hbut; rw [decide_eq_true hsm] at hnum; subst hbut; clear hx1 hx2 ho hs hhit he1 hq hsm; rcases hcase with rfl | ⟨rfl, rfl⟩
             · go_enter Tryz.func149, Tryz.ntmps149
               go_upto_region 5 with (first | (go_at_call 170; with_reducible refine aE (hpar1 _ (bel _ _)) fun p => ?_) | (go_at_call 171; with_reducible refine aT (hent1 _ (bel _ _)) fun p => ?_) | (go_at_call 172; with_reducible refine aT (throw_no _ _) fun p => ?_) | (go_at_call 170; with_reducible refine aE (hpar2 _ (bel _ _)) fun p => ?_))
               refine wp_region_quiet_rest (by kernel_rfl) (by kernel_rfl) (WQ.out ?_)
               repeat
                refine WQ_step (fun K hK => ?_); go_simp
                first
                 | (refine hK _ ?_; clear hK K)
                 | (apply Exists.intro
                    refine ⟨fun _ => ?_, hK _ ?_⟩
                    focus (first | (first | refine cI (hfnd _ (bel _ _)) | refine cJ (hfnd _ (bel _ _))) | (first | refine cI (hthr _ (bel _ _)) | refine cJ (hthr _ (bel _ _))) | (first | refine cI (throw_no _ _) | refine cJ (throw_no _ _)))
                    clear hK K)
               refine WN fun p => ?_
               go_upto_region 9 with (first | (go_at_call 171; with_reducible refine aT (hent2 _ (bel _ _)) fun p => ?_) | (go_at_call 172; with_reducible refine aT (throw_no _ _) fun p => ?_))
               refine wp_region_quiet_rest (by kernel_rfl) (by kernel_rfl) ?_
               repeat
                first
                 | go_big_quiet_skip
                 | (go_big_quiet_want; go_big_quiet_op; first | go_big_quiet_on | (apply Exists.intro; refine ⟨fun _ => ?_, ?_⟩; (focus (fail)); go_big_quiet_on))
               refine QN fun p => ?_; go_wp2_with (first | (go_at_call 173; with_reducible refine aT (hful _ (bel _ _)) fun p => ?_) | (go_at_call 172; with_reducible refine aE (throw_yes _ _) fun p => ?_) | (go_at_call 172; with_reducible refine aT (throw_no _ _) fun p => ?_))
               exact ⟨rfl, (bel w _).mono hB, rfl⟩
             · go_enter Tryz.func149, Tryz.ntmps149
               go_upto_region 5 with (first | (go_at_call 170; with_reducible refine aE (hpar1 _ (bel _ _)) fun p => ?_) | (go_at_call 171; with_reducible refine aT (hent1 _ (bel _ _)) fun p => ?_) | (go_at_call 172; with_reducible refine aT (throw_no _ _) fun p => ?_) | (go_at_call 170; with_reducible refine aE (hpar2 _ (bel _ _)) fun p => ?_))
               refine wp_region_quiet_rest (by kernel_rfl) (by kernel_rfl) (WQ.out ?_)
               repeat
                refine WQ_step (fun K hK => ?_); go_simp
                first
                 | (refine hK _ ?_; clear hK K)
                 | (apply Exists.intro
                    refine ⟨fun _ => ?_, hK _ ?_⟩
                    focus (first | (first | refine cI (hfnd _ (bel _ _)) | refine cJ (hfnd _ (bel _ _))) | (first | refine cI (hthr _ (bel _ _)) | refine cJ (hthr _ (bel _ _))) | (first | refine cI (throw_no _ _) | refine cJ (throw_no _ _)))
                    clear hK K)
               refine WN fun p => ?_
               go_upto_region 9 with (first | (go_at_call 171; with_reducible refine aT (hent2 _ (bel _ _)) fun p => ?_) | (go_at_call 172; with_reducible refine aT (throw_no _ _) fun p => ?_))
               refine wp_region_quiet_rest (by kernel_rfl) (by kernel_rfl) ?_
               repeat
                first
                 | go_big_quiet_skip
                 | (go_big_quiet_want; go_big_quiet_op; first | go_big_quiet_on | (apply Exists.intro; refine ⟨fun _ => ?_, ?_⟩; (focus (fail)); go_big_quiet_on))
               refine QN fun p => ?_; go_wp2_with (first | (go_at_call 173; with_reducible refine aT (hful _ (bel _ _)) fun p => ?_) | (go_at_call 172; with_reducible refine aE (throw_yes _ _) fun p => ?_) | (go_at_call 172; with_reducible refine aT (throw_no _ _) fun p => ?_))
               exact ⟨rfl, (bel w _).mono hB, rfl⟩
           · rw [if_neg hsm] at hbut; rw [decide_eq_false hsm] at hnum; subst hbut; clear hx1 hx2 ho hs hhit he1 hq hsm; rcases hcase with rfl | ⟨rfl, rfl⟩
             · go_enter Tryz.func149, Tryz.ntmps149
               go_upto_region 5 with (first | (go_at_call 170; with_reducible refine aE (hpar1 _ (bel _ _)) fun p => ?_) | (go_at_call 171; with_reducible refine aT (hent1 _ (bel _ _)) fun p => ?_) | (go_at_call 172; with_reducible refine aT (throw_no _ _) fun p => ?_) | (go_at_call 170; with_reducible refine aE (hpar2 _ (bel _ _)) fun p => ?_))
               refine wp_region_quiet_rest (by kernel_rfl) (by kernel_rfl) (WQ.out ?_)
               repeat
                refine WQ_step (fun K hK => ?_); go_simp
                first
                 | (refine hK _ ?_; clear hK K)
                 | (apply Exists.intro
                    refine ⟨fun _ => ?_, hK _ ?_⟩
                    focus (first | (first | refine cI (hfnd _ (bel _ _)) | refine cJ (hfnd _ (bel _ _))) | (first | refine cI (hthr _ (bel _ _)) | refine cJ (hthr _ (bel _ _))) | (first | refine cI (throw_no _ _) | refine cJ (throw_no _ _)))
                    clear hK K)
               refine WN fun p => ?_
               go_upto_region 9 with (first | (go_at_call 171; with_reducible refine aT (hent2 _ (bel _ _)) fun p => ?_) | (go_at_call 172; with_reducible refine aT (throw_no _ _) fun p => ?_))
               refine wp_region_quiet_rest (by kernel_rfl) (by kernel_rfl) ?_
               repeat
                first
                 | go_big_quiet_skip
                 | (go_big_quiet_want; go_big_quiet_op; first | go_big_quiet_on | (apply Exists.intro; refine ⟨fun _ => ?_, ?_⟩; (focus (fail)); go_big_quiet_on))
               refine QN fun p => ?_; go_wp2_with (first | (go_at_call 173; with_reducible refine aT (hful _ (bel _ _)) fun p => ?_) | (go_at_call 172; with_reducible refine aE (throw_yes _ _) fun p => ?_) | (go_at_call 172; with_reducible refine aT (throw_no _ _) fun p => ?_))
               exact ⟨rfl, (bel w _).mono hB, rfl⟩
             · go_enter Tryz.func149, Tryz.ntmps149
               go_upto_region 5 with (first | (go_at_call 170; with_reducible refine aE (hpar1 _ (bel _ _)) fun p => ?_) | (go_at_call 171; with_reducible refine aT (hent1 _ (bel _ _)) fun p => ?_) | (go_at_call 172; with_reducible refine aT (throw_no _ _) fun p => ?_) | (go_at_call 170; with_reducible refine aE (hpar2 _ (bel _ _)) fun p => ?_))
               refine wp_region_quiet_rest (by kernel_rfl) (by kernel_rfl) (WQ.out ?_)
               repeat
                refine WQ_step (fun K hK => ?_); go_simp
                first
                 | (refine hK _ ?_; clear hK K)
                 | (apply Exists.intro
                    refine ⟨fun _ => ?_, hK _ ?_⟩
                    focus (first | (first | refine cI (hfnd _ (bel _ _)) | refine cJ (hfnd _ (bel _ _))) | (first | refine cI (hthr _ (bel _ _)) | refine cJ (hthr _ (bel _ _))) | (first | refine cI (throw_no _ _) | refine cJ (throw_no _ _)))
                    clear hK K)
               refine WN fun p => ?_
               go_upto_region 9 with (first | (go_at_call 171; with_reducible refine aT (hent2 _ (bel _ _)) fun p => ?_) | (go_at_call 172; with_reducible refine aT (throw_no _ _) fun p => ?_))
               refine wp_region_quiet_rest (by kernel_rfl) (by kernel_rfl) ?_
               repeat
                first
                 | go_big_quiet_skip
                 | (go_big_quiet_want; go_big_quiet_op; first | go_big_quiet_on | (apply Exists.intro; refine ⟨fun _ => ?_, ?_⟩; (focus (fail)); go_big_quiet_on))
               refine QN fun p => ?_; go_wp2_with (first | (go_at_call 173; with_reducible refine aT (hful _ (bel _ _)) fun p => ?_) | (go_at_call 172; with_reducible refine aE (throw_yes _ _) fun p => ?_) | (go_at_call 172; with_reducible refine aT (throw_no _ _) fun p => ?_))
               exact ⟨rfl, (bel w _).mono hB, rfl⟩
       · simp only [if_true]; clear hx1 hx2 ho hs hhit he1 hq hbut hnum; rcases hcase with rfl | ⟨rfl, rfl⟩
         · go_enter Tryz.func149, Tryz.ntmps149
           go_upto_region 5 with (first | (go_at_call 170; with_reducible refine aE (hpar1 _ (bel _ _)) fun p => ?_) | (go_at_call 171; with_reducible refine aT (hent1 _ (bel _ _)) fun p => ?_) | (go_at_call 172; with_reducible refine aT (throw_no _ _) fun p => ?_) | (go_at_call 170; with_reducible refine aE (hpar2 _ (bel _ _)) fun p => ?_))
           refine wp_region_quiet_rest (by kernel_rfl) (by kernel_rfl) (WQ.out ?_)
           repeat
            refine WQ_step (fun K hK => ?_); go_simp
            first
             | (refine hK _ ?_; clear hK K)
             | (apply Exists.intro
                refine ⟨fun _ => ?_, hK _ ?_⟩
                focus (first | (first | refine cI (hfnd _ (bel _ _)) | refine cJ (hfnd _ (bel _ _))) | (first | refine cI (hthr _ (bel _ _)) | refine cJ (hthr _ (bel _ _))) | (first | refine cI (throw_no _ _) | refine cJ (throw_no _ _)))
                clear hK K)
           refine WN fun p => ?_; go_wp2_with (first | (go_at_call 171; with_reducible refine aT (hent2 _ (bel _ _)) fun p => ?_) | (go_at_call 172; with_reducible refine aT (throw_no _ _) fun p => ?_) | (go_at_call 172; with_reducible refine aE (throw_yes _ _) fun p => ?_))
           exact ⟨rfl, (bel w _).mono hB, rfl⟩
         · go_enter Tryz.func149, Tryz.ntmps149
           go_upto_region 5 with (first | (go_at_call 170; with_reducible refine aE (hpar1 _ (bel _ _)) fun p => ?_) | (go_at_call 171; with_reducible refine aT (hent1 _ (bel _ _)) fun p => ?_) | (go_at_call 172; with_reducible refine aT (throw_no _ _) fun p => ?_) | (go_at_call 170; with_reducible refine aE (hpar2 _ (bel _ _)) fun p => ?_))
           refine wp_region_quiet_rest (by kernel_rfl) (by kernel_rfl) (WQ.out ?_)
           repeat
            refine WQ_step (fun K hK => ?_); go_simp
            first
             | (refine hK _ ?_; clear hK K)
             | (apply Exists.intro
                refine ⟨fun _ => ?_, hK _ ?_⟩
                focus (first | (first | refine cI (hfnd _ (bel _ _)) | refine cJ (hfnd _ (bel _ _))) | (first | refine cI (hthr _ (bel _ _)) | refine cJ (hthr _ (bel _ _))) | (first | refine cI (throw_no _ _) | refine cJ (throw_no _ _)))
                clear hK K)
           refine WN fun p => ?_; go_wp2_with (first | (go_at_call 171; with_reducible refine aT (hent2 _ (bel _ _)) fun p => ?_) | (go_at_call 172; with_reducible refine aT (throw_no _ _) fun p => ?_) | (go_at_call 172; with_reducible refine aE (throw_yes _ _) fun p => ?_))
           exact ⟨rfl, (bel w _).mono hB, rfl⟩
end Go.Proofs.YtmkapobnfigedaaGreatDoor
