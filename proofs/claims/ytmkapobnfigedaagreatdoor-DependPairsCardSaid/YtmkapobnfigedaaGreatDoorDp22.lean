/- Part of the proof of a law of chapter 15. Conditions: none. -/
import Derived.Test.YtmkapobnfigedaaGreatDoorDp20
set_option linter.unusedVariables false
set_option linter.unusedSimpArgs false
set_option maxRecDepth 100000
set_option maxHeartbeats 8000000
namespace Go.Proofs.YtmkapobnfigedaaGreatDoor
open Go.RowKit
def openF (c : Int) : List PDesc → Nat → Nat → Nat → Nat × Nat
 | [], _, f, a => (f, a)
 | o :: r, i, f, a => openF c r (i + 1) (if o.core = c ∧ o.fd = f then f + 1 else f) (if o.core < c ∨ (o.core = c ∧ o.fd = f) then i + 1 else a)
theorem openF_le (c : Int) : ∀ (l : List PDesc) (i f a : Nat), f ≤ i → a ≤ i → (openF c l i f a).1 ≤ i + l.length ∧ (openF c l i f a).2 ≤ i + l.length
 | [], i, f, a, h1, h2 => by unfold openF; simp; omega
 | o :: r, i, f, a, h1, h2 => by
   unfold openF; have := openF_le c r (i + 1) (if o.core = c ∧ o.fd = f then f + 1 else f) (if o.core < c ∨ (o.core = c ∧ o.fd = f) then i + 1 else a) (by split <;> omega) (by split <;> omega); simp only [List.length_cons]; omega
def insD (l : List PDesc) (k : Nat) (y : PDesc) : List PDesc := l.take k ++ y :: l.drop k
def openDo (S : PSt) (c : PCall) (r : PRes) : Except Int (PSt × PRes) :=
 if (walkM S 0 (parseM c.path).2).2 ≠ 0 then .error (walkM S 0 (parseM c.path).2).2 else
 match S.ins[(walkM S 0 (parseM c.path).2).1]? with
 | none => .ok (S, r)
 | some x => if x.dir = true then .error 8 else if 4 ≤ (openF c.core S.op 0 0 0).1 then .error 10 else
   .ok ({ S with op := insD S.op (openF c.core S.op 0 0 0).2 ⟨c.core, (openF c.core S.op 0 0 0).1, x.num⟩ }, { r with fd := (openF c.core S.op 0 0 0).1 })
def PathE (bi : Nat) (W : Nat × Int) (e : Ending) : Prop := (W.2 = 0 ∧ e = .returned (.pointer (some ⟨bi, W.1 * 4, none⟩))) ∨ (W.2 ≠ 0 ∧ e = thrown W.2)
theorem PathE.ok {bi K : Nat} {e : Ending} (h : PathE bi (K, 0) e) : e = .returned (.pointer (some ⟨bi, K * 4, none⟩)) := by
 rcases h with ⟨_, h⟩ | ⟨h, _⟩
 · exact h
 · exact absurd rfl h
theorem PathE.bad {bi K : Nat} {C : Int} {e : Ending} (h : PathE bi (K, C) e) (hC : C ≠ 0) : e = thrown C := by
 rcases h with ⟨h, _⟩ | ⟨_, h⟩
 · exact absurd h hC
 · exact h
section
variable {B : Nat} {w w' : World} {d b bi cap : Nat} {ov mv nv : Value} {S : PSt} {c : PCall} {r : PRes}
theorem DPart.path (h : DPart B w d b bi cap ov mv nv S c r) (hf : Fine S) (s : ByteArray) (hp : (parseM s).1 = 0) (hpl : (parseM s).2.length ≤ 1000000000) :
 Calls Tryz.prog 178 #[.pointer (some ⟨d, 0, none⟩), .string s] w fun e w' => Below w.heap.size w w' ∧ PathE bi (walkM S 0 (parseM s).2) e := by
 refine (at122 d b S c s w (DR.of_blk h.hD (SP.of_blk h.hb h.st.read)) hf hp hpl).mono ?_
 rintro e w' ⟨hb, ho⟩
 refine ⟨hb, ?_⟩
 rcases ho with ⟨hc, bi', off, cap', hc', rfl⟩ | ⟨hc, rfl⟩
 · have h0 := h.hb.cell 0; simp only [List.getElem?_toArray, List.getElem?_cons_zero] at h0; rw [h0] at hc'; simp only [Option.some.injEq, Value.slice.injEq, Addr.mk.injEq] at hc'; obtain ⟨⟨rfl, rfl, -⟩, -, -⟩ := hc'; exact .inl ⟨hc, by rw [Nat.zero_add]⟩
 · exact .inr ⟨hc, rfl⟩
end
theorem StOwn.setOp3 {B : Nat} {w w1 : World} {iv ov ov' mv : Value} {S : PSt} {op' : List PDesc} (h : StOwn B w iv ov mv S) (hk : Keep (fun g => ov.ownBlock = some g) w w1) (ho : OwnP B w1 95 3 ov' (op'.map PDesc.cells)) : StOwn B w1 iv ov' mv { S with op := op' } := by
 obtain ⟨h1, h2, is, h3, h4, h5, h6⟩ := h
 have key : ∀ {e : TypeId} {k : Nat} {v : Value} {rows : List (List Value)}, OwnP B w e k v rows → e ≠ 95 → OwnP B w1 e k v rows := by
  intro e k v rows ho he; refine ho.keep hk (fun g hg hx => ?_); rcases h1 with ⟨h0, _⟩ | ⟨g', cap', cur, h0, _, hb', _⟩
  · rw [h0] at hx; cases hx
  · rw [h0] at hx; simp only [Value.ownBlock, Option.some.injEq] at hx; subst hx; exact ho.ne_blk hb' he hg rfl
 exact ⟨ho, key h2 (by decide), is, key h3 (by decide), h4, fun q r x hr hx => by
  obtain ⟨a1, a2, a3, a4⟩ := h5 q r x hr hx; exact ⟨a1, a2, a3, key a4 (by decide)⟩, h6⟩
theorem open72 (B d b : Nat) (S : PSt) (c : PCall) (r : PRes) (w : World) (h : DoAt B w d b S c r) (hB : B ≤ w.heap.size) (hf : Fine S) (hop : S.op.length ≤ 100000) (hp : (parseM c.path).1 = 0) (hpl : (parseM c.path).2.length ≤ 1000000000) :
 Calls Tryz.prog 142 #[.pointer (some ⟨d, 0, none⟩)] w (RunOut B w d b c (openDo S c r)) := by
 obtain ⟨bi, cap, ov, mv, nv, hP⟩ := h.part hf.pos
 have ht := hP.path hf c.path hp hpl
 have hlt := walkM_lt hf (parseM c.path).2 0 hf.pos
 have iD := hP.hD.lt
 have d6 : w.cell? ⟨d, 6, none⟩ = some (.string c.path) := hP.hD.cell 6
 have HP := Lib.hid hP
 obtain ⟨RR, hRR⟩ : ∃ RR, openDo S c r = RR := ⟨_, rfl⟩
 rw [hRR]
 unfold openDo at hRR
 generalize walkM S 0 (parseM c.path).2 = W at ht hlt hRR
 obtain ⟨K, C⟩ := W
 simp only at hlt hRR
 clear h hP hp hpl
 by_cases hC : C = 0
 · subst hC; rw [if_neg (by simp)] at hRR; obtain ⟨x, hx⟩ : ∃ x, S.ins[K]? = some x := ⟨_, gE hlt⟩
   rw [hx] at hRR; simp only at hRR; have HRR := Lib.hid hRR; clear hRR
   go_enter Tryz.func142, Tryz.ntmps142
   go_upto_region 1 with (go_at_call 178; refine ht.mono ?_; rintro e w1 ⟨hb1, ho⟩; obtain rfl := ho.ok; have HB := Lib.hid hb1; clear hb1 ho)
   refine abs_world (F := fun wA => DPart B wA d b bi cap ov mv nv S c r ∧ Below w.heap.size w wA) ⟨HP.out.below HB.out, HB.out⟩ ?_; clear ht iD HP HB d6; rintro wA ⟨hA, hbA⟩; obtain ⟨iI, x0, x1, x3⟩ := hA.dat hx; obtain ⟨xn, xd, xe, xdat⟩ := x; have HRR := Lib.hid (show (if xd = true then Except.error 8 else if 4 ≤ (openF c.core S.op 0 0 0).1 then Except.error 10 else Except.ok ({ S with op := insD S.op (openF c.core S.op 0 0 0).2 ⟨c.core, (openF c.core S.op 0 0 0).1, xn⟩ }, { r with fd := (openF c.core S.op 0 0 0).1 }) : Except Int (PSt × PRes)) = RR from HRR.out); simp only at x0 x1; rcases xd with _ | _
   · have HA := Lib.hid (And.intro hA hbA); have hopn := openF_le c.core S.op 0 0 0 (Nat.le_refl _) (Nat.le_refl _); obtain ⟨R, hR⟩ : ∃ R, openF c.core S.op 0 0 0 = R := ⟨_, rfl⟩
     rw [hR] at hopn; have HR := Lib.hid hR; have HRR := Lib.hid (show (if 4 ≤ R.1 then Except.error 10 else Except.ok ({ S with op := insD S.op R.2 ⟨c.core, R.1, xn⟩ }, { r with fd := R.1 }) : Except Int (PSt × PRes)) = RR by rw [← HRR.out, hR]; rfl); have iD := hA.hD.lt; have iL := hA.hb.lt; have d0 : wA.cell? ⟨d, 0, none⟩ = some (.pointer (some ⟨b, 0, none⟩)) := hA.hD.cell 0; have d2 : wA.cell? ⟨d, 2, none⟩ = some (.int .i64 c.core) := hA.hD.cell 2; have b1 : wA.cell? ⟨b, 1, none⟩ = some ov := hA.hb.cell 1; obtain ⟨ao, co, rfl, hato⟩ := hA.st.read.1.at_; rw [lM] at b1; have HO := Lib.hid hato; have HA := Lib.hid (show DPart B wA d b bi cap (.slice ao S.op.length co) mv nv S c r ∧ Below w.heap.size w wA by have h := HA.out; rw [lM] at h; exact h); have HX := Lib.hid hx; clear hA hbA hx x3 hR hato; go_wp2_with (go_at_call 172; refine aT (throw_no _ _) fun p => ?_)
     go_loopw [3, 4, 27] (fun v3 v4 v27 wr => ∃ (q f a : Nat), v27 = .int .i64 q ∧ v3 = .int .i64 f ∧ v4 = .int .i64 a ∧ q ≤ S.op.length ∧ f ≤ q ∧ a ≤ q ∧ openF c.core (S.op.drop q) q f a = R ∧ Below wA.heap.size wA wr) (fun _ _ v27 _ => (S.op.length - intOf v27).toNat)
     case atStart => exact ⟨0, 0, 0, rfl, rfl, rfl, by omega, by omega, by omega, HR.out, bel _ _⟩
     case round =>
      obtain ⟨q, f, a, rfl, rfl, rfl, hq, hfq, haq, hre, hb⟩ := hrel; have iB : Bel wA wr := ⟨hb⟩
      have iDr : BlockLt d wr := ⟨by have := hb.size; have := iD.lt; omega⟩
      have r0 : wr.cell? ⟨d, 0, none⟩ = some (.pointer (some ⟨b, 0, none⟩)) := (hb.cell (p := ⟨d, 0, none⟩) iD.lt).trans d0; have r2 : wr.cell? ⟨d, 2, none⟩ = some (.int .i64 c.core) := (hb.cell (p := ⟨d, 2, none⟩) iD.lt).trans d2; by_cases hlt : q < S.op.length
      · obtain ⟨y, hy⟩ : ∃ y, S.op[q]? = some y := ⟨_, gE hlt⟩
        rw [drop_at hy] at hre; unfold openF at hre; obtain ⟨bo, off, rfl, iG0, iG, hc⟩ := HO.out wr hb q y.cells (by rw [gM, hy]; rfl); have y0 := hc 0 _ rfl; have y1 := hc 1 _ rfl; have y2 := hc 2 _ rfl; rw [Nat.add_zero] at y0; have hwf : IntKind.i64.wrap ((f : Int) + 1) = ((f + 1 : Nat) : Int) := I64.wrap ⟨by omega, by omega⟩; have hwq : IntKind.i64.wrap ((q : Int) + 1) = ((q + 1 : Nat) : Int) := I64.wrap ⟨by omega, by omega⟩; have HRE := Lib.hid hre; clear hc hy hre; by_cases g1 : y.core < c.core
        · have g1b : decide (y.core < c.core) = true := decide_eq_true g1; have g2b : (y.core == c.core) = false := by simp; omega
          have e1 : ¬ (y.core = c.core ∧ y.fd = (f : Int)) := by omega
          go_upto_region 6 with fail
          refine wp_region_quiet_rest (by kernel_rfl) (by kernel_rfl) (WQ.out ?_)
          repeat
           refine WQ_step (fun K hK => ?_); go_simp
           first
            | (refine hK _ ?_; clear hK K)
            | (apply Exists.intro
               refine ⟨fun _ => ?_, hK _ ?_⟩
               focus (fail)
               clear hK K)
          refine WN fun p => ?_; go_wp2_with fail; refine wp_region_quiet_rest (by kernel_rfl) (by kernel_rfl) (WQ.out ?_)
          repeat
           refine WQ_step (fun K hK => ?_); go_simp
           first
            | (refine hK _ ?_; clear hK K)
            | (apply Exists.intro
               refine ⟨fun _ => ?_, hK _ ?_⟩
               focus (fail)
               clear hK K)
          refine WN fun p => ?_; go_wp2_with fail
          go_roundw
          case rel => exact ⟨q + 1, f, q + 1, by go_num, rfl, by go_num, by omega, by omega, by omega, by have := HRE.out; rw [if_neg e1, if_pos (.inl g1)] at this; exact this, bel _ _⟩
          case measure => simp [intOf]; omega
        · have g1b : decide (y.core < c.core) = false := decide_eq_false g1; by_cases g2 : y.core = c.core
          · have g2b : (y.core == c.core) = true := by simpa using g2
            by_cases g3 : y.fd = (f : Int)
            · have g3b : (y.fd == (f : Int)) = true := by simpa using g3
              clear g2 g3
              go_upto_region 6 with fail
              refine wp_region_quiet_rest (by kernel_rfl) (by kernel_rfl) (WQ.out ?_)
              repeat
               refine WQ_step (fun K hK => ?_); go_simp
               first
                | (refine hK _ ?_; clear hK K)
                | (apply Exists.intro
                   refine ⟨fun _ => ?_, hK _ ?_⟩
                   focus (fail)
                   clear hK K)
              refine WN fun p => ?_; go_wp2_with fail; refine wp_region_quiet_rest (by kernel_rfl) (by kernel_rfl) (WQ.out ?_)
              repeat
               refine WQ_step (fun K hK => ?_); go_simp
               first
                | (refine hK _ ?_; clear hK K)
                | (apply Exists.intro
                   refine ⟨fun _ => ?_, hK _ ?_⟩
                   focus (fail)
                   clear hK K)
              refine WN fun p => ?_; go_wp2_with fail
              go_roundw
              case rel => exact ⟨q + 1, f + 1, q + 1, by go_num, by go_num, by go_num, by omega, by omega, by omega, by have := HRE.out; rw [if_pos ⟨by simpa using g2b, by simpa using g3b⟩, if_pos (.inr ⟨by simpa using g2b, by simpa using g3b⟩)] at this; exact this, bel _ _⟩
              case measure => simp [intOf]; omega
            · have g3b : (y.fd == (f : Int)) = false := by simpa using g3
              clear g2
              go_upto_region 6 with fail
              refine wp_region_quiet_rest (by kernel_rfl) (by kernel_rfl) (WQ.out ?_)
              repeat
               refine WQ_step (fun K hK => ?_); go_simp
               first
                | (refine hK _ ?_; clear hK K)
                | (apply Exists.intro
                   refine ⟨fun _ => ?_, hK _ ?_⟩
                   focus (fail)
                   clear hK K)
              refine WN fun p => ?_; go_wp2_with fail; refine wp_region_quiet_rest (by kernel_rfl) (by kernel_rfl) (WQ.out ?_)
              repeat
               refine WQ_step (fun K hK => ?_); go_simp
               first
                | (refine hK _ ?_; clear hK K)
                | (apply Exists.intro
                   refine ⟨fun _ => ?_, hK _ ?_⟩
                   focus (fail)
                   clear hK K)
              refine WN fun p => ?_; go_wp2_with fail
              go_roundw
              case rel => exact ⟨q + 1, f, a, by go_num, rfl, rfl, by omega, by omega, by omega, by have := HRE.out; rw [if_neg (fun h => g3 h.2), if_neg (fun h => h.elim (fun h => absurd h (by omega)) (fun h => g3 h.2))] at this; exact this, bel _ _⟩
              case measure => simp [intOf]; omega
          · have g2b : (y.core == c.core) = false := by simpa using g2
            go_upto_region 6 with fail
            refine wp_region_quiet_rest (by kernel_rfl) (by kernel_rfl) (WQ.out ?_)
            repeat
             refine WQ_step (fun K hK => ?_); go_simp
             first
              | (refine hK _ ?_; clear hK K)
              | (apply Exists.intro
                 refine ⟨fun _ => ?_, hK _ ?_⟩
                 focus (fail)
                 clear hK K)
            refine WN fun p => ?_; go_wp2_with fail; refine wp_region_quiet_rest (by kernel_rfl) (by kernel_rfl) (WQ.out ?_)
            repeat
             refine WQ_step (fun K hK => ?_); go_simp
             first
              | (refine hK _ ?_; clear hK K)
              | (apply Exists.intro
                 refine ⟨fun _ => ?_, hK _ ?_⟩
                 focus (fail)
                 clear hK K)
            refine WN fun p => ?_; go_wp2_with fail
            go_roundw
            case rel => exact ⟨q + 1, f, a, by go_num, rfl, rfl, by omega, by omega, by omega, by have := HRE.out; rw [if_neg (fun h => g2 h.1), if_neg (fun h => h.elim (fun h => absurd h (by omega)) (fun h => g2 h.1))] at this; exact this, bel _ _⟩
            case measure => simp [intOf]; omega
      · rw [List.drop_of_length_le (by omega)] at hre; unfold openF at hre; subst hre; have hP := HA.out.1.below hb; have hbw : Below w.heap.size w wr := HA.out.2.trans (hb.mono HA.out.2.size); by_cases hf4 : 4 ≤ f
        · obtain rfl : RR = .error 10 := by rw [← HRR.out]; exact if_pos hf4
          have hf4I : (4 : Int) ≤ f := by omega
          have HP := Lib.hid hbw; clear hP hbw HA HRR HR; go_wp2_with (go_at_call 172; refine aE (throw_yes _ _) fun p => ?_)
          exact ⟨rfl, (HP.out.trans ((bel wr _).mono HP.out.size)).mono hB, rfl⟩
        · obtain rfl : RR = .ok ({ S with op := insD S.op a ⟨c.core, f, xn⟩ }, { r with fd := f }) := by rw [← HRR.out]; exact if_neg hf4
          have hf4I : ¬ (4 : Int) ≤ f := by omega
          obtain ⟨iI, x0, -, -⟩ := hP.dat (HX.out); simp only at x0; have b1 : wr.cell? ⟨b, 1, none⟩ = some (.slice ao S.op.length co) := by have := hP.hb.cell 1; simpa using this
          have iLr := hP.hb.lt; have HP := Lib.hid (And.intro hP hbw); clear hP hbw HRR HR
          go_upto_region 12 with (go_at_call 172; refine aT (throw_no _ _) fun p => ?_)
          refine abs_world (F := fun wz => DPart B wz d b bi cap (.slice ao S.op.length co) mv nv S c r ∧ Below w.heap.size w wz) ⟨HP.out.1.below (bel wr _), HP.out.2.trans ((bel wr _).mono HP.out.2.size)⟩ ?_; clear iI x0 b1 iLr HP r0 r2 iDr d0 d2 iD iL hb iB HA HO; rintro wz ⟨hz, hbz⟩; have iD := hz.hD.lt; have iL := hz.hb.lt; have d0 : wz.cell? ⟨d, 0, none⟩ = some (.pointer (some ⟨b, 0, none⟩)) := hz.hD.cell 0; have d2 : wz.cell? ⟨d, 2, none⟩ = some (.int .i64 c.core) := hz.hD.cell 2; have b1 : wz.cell? ⟨b, 1, none⟩ = some (.slice ao S.op.length co) := by have := hz.hb.cell 1; simpa using this
          obtain ⟨iI, x0, -, -⟩ := hz.dat HX.out; simp only at x0; obtain ⟨u1, u2, is, u3, u4, u5, u6⟩ := hz.st; have hBz : B ≤ wz.heap.size := Nat.le_trans hB hbz.size; have haf : a ≤ S.op.length := by omega
          have hins : ∀ ww gv, Below wz.heap.size wz ww → wz.heap.size ≤ gv → Blk ww gv #[.int .i64 c.core, .int .i64 f, .int .i64 xn] 95 → Calls Tryz.prog 179 #[.slice ao S.op.length co, .int .i64 a, .slice (some ⟨gv, 0, none⟩) 1 1] ww _ := fun ww gv hb hg hgv =>
           insert123 B _ (S.op.map PDesc.cells) a gv [.int .i64 c.core, .int .i64 f, .int .i64 xn] ww (u1.keep (Keep.of_below hb (fun _ => False)) (fun _ _ h => h)) (pdesc_len _) (pdesc_one _) (by rw [lM]; omega) (by rw [lM]; omega) hgv rfl (by intro u hu; simp only [List.mem_cons, List.not_mem_nil, or_false] at hu; rcases hu with rfl | rfl | rfl <;> rfl) (fun e => by have := u1.lt e; omega) (Nat.le_trans hBz hb.size)
          have HZ := Lib.hid (And.intro hz (And.intro hbz hins)); clear hz hbz hins u1 u2 u3 u4 u5 u6; refine wp_region_eff [23, 24, 27] true (fun w' => w'.cell? ⟨d, 0, none⟩ = some (.pointer (some ⟨b, 0, none⟩)) ∧ w'.cell? ⟨d, 2, none⟩ = some (.int .i64 c.core) ∧ w'.cell? ⟨b, 1, none⟩ = some (.slice ao S.op.length co) ∧ w'.cell? ⟨bi, K * 4, none⟩ = some (.int .i64 xn)) (by kernel_rfl) (by kernel_rfl) ?_ ?_
          · (try dsimp only); (repeat' apply And.intro) <;> go_simp
          repeat
           refine wpL_look rfl rfl ?_; apply Exists.intro; refine ⟨?_, ?_⟩
           focus
            rintro w' ⟨s0, s1, s2, s3⟩; go_simp
            first | done | rfl
           simp only [Act.put, sA, sZ, sS]
          refine wpL_do rfl rfl ?_; apply Exists.intro; apply Exists.intro; refine ⟨?_, ?_, ?_⟩
          focus
           go_simp; exact ⟨rfl, rfl⟩
          focus
           refine .inl ⟨?_, ?_, ?_, ?_⟩ <;> go_simp
          simp only [Act.put, sA, sZ, sS]; refine wpL_act rfl rfl ?_; refine eff_call 179 #[.slice ao S.op.length co, .int .i64 a, .slice (some ⟨wz.heap.size, 0, none⟩) 1 1] ?hr ?_
          case hr =>
           go_simp
           first | done | rfl
          refine (HZ.out.2.2 (wz.drew.alloc (.cells #[.int .i64 c.core, .int .i64 f, .int .i64 xn] 95)) wz.heap.size (bel wz _) (Nat.le_refl _) (Blk.new_i _ _ _ _)).mono ?_; rintro e w5 ⟨v', rfl, ho5, hk5, _⟩; obtain ⟨hz, hbz, -⟩ := HZ.out; have hk45 := (Keep.of_below (bel wz (wz.drew.alloc (.cells #[.int .i64 c.core, .int .i64 f, .int .i64 xn] 95))) (fun g => (Value.slice ao S.op.length co).ownBlock = some g)).trans hk5 (fun _ _ h => h); have hst5 := hz.st.setOp3 (op' := insD S.op a ⟨c.core, f, xn⟩) hk45 (by unfold insD; rw [List.map_append, List.map_cons, List.map_take, List.map_drop]; exact ho5); have hnb : ∀ {g : Nat} {cc : Array Value} {t : TypeId}, Blk wz g cc t → t ≠ 95 → ¬ (Value.slice ao S.op.length co).ownBlock = some g := fun hb ht hg => hz.st.1.ne_blk hb (fun e => ht e.symm) hg rfl
          have hD5 := hk45.blk hz.hD (hnb hz.hD (by decide)); have hB5 := hk45.blk hz.hb (hnb hz.hb (by decide)); have hN5 := hz.nm.keep hk45 (fun g hg h => by
           rcases hz.nm with ⟨h0, _⟩ | ⟨g', cap', cur, h0, _, hb', _⟩
           · rw [h0] at hg; cases hg
           · rw [h0] at hg; simp only [Value.ownBlock, Option.some.injEq] at hg; subst hg; exact hnb hb' (by decide) h)
          have hbw5 : Below B w w5 := (hbz.mono hB).trans (hk45.below hBz (fun i hi h => by have := hz.st.1.ge h; omega)); have y0 : w5.cell? ⟨d, 0, none⟩ = some (.pointer (some ⟨b, 0, none⟩)) := hD5.cell 0; have y2 : w5.cell? ⟨d, 2, none⟩ = some (.int .i64 c.core) := hD5.cell 2; have y1 : w5.cell? ⟨b, 1, none⟩ = some (.slice ao S.op.length co) := by have := hB5.cell 1; simpa using this
          have fy1 := hB5.frozen 1; have jD := hD5.lt; have jB := hB5.lt; have z10 : w5.cell? ⟨d, 10, none⟩ = some (.int .i64 r.fd) := hD5.cell 10; have fz10 := hD5.frozen 10; have ndb : ¬ d = b := hD5.ne_ hB5 (by decide); have nbd : ¬ b = d := fun e => ndb e.symm
          have hins5 : ∃ c, Blk wz bi c 68 := by
           obtain ⟨_, _, is, u3, _⟩ := hz.st; rcases u3 with ⟨h0, _⟩ | ⟨g', _, arr, h0, _, hb', _⟩
           · simp at h0
           · simp only [Value.slice.injEq, Option.some.injEq, Addr.mk.injEq] at h0; obtain ⟨⟨rfl, -, -⟩, -, -⟩ := h0; exact ⟨_, hb'⟩
          obtain ⟨cc, hcc⟩ := hins5; have hI5 := hk45.blk hcc (hnb hcc (by decide)); have iI5 := hI5.lt; have x5 : w5.cell? ⟨bi, K * 4, none⟩ = some (.int .i64 xn) := by rw [hI5.cell, ← hcc.cell]; exact x0
          obtain ⟨va, vn, vc, rfl⟩ := ho5.form; have H5 := Lib.hid (And.intro hst5 (And.intro hD5 (And.intro hB5 (And.intro hN5 (And.intro hbw5 (And.intro hz.hBb hz.hBd)))))); clear hst5 hD5 hB5 hN5 hk45 hk5 ho5 hnb hz hbz hcc hI5 hbw5 HZ; refine ⟨_, rfl, .inl ⟨y0, y2, y1, x5⟩, ?_⟩; simp only [Act.put, sA, sZ, sS]
          repeat
           refine wpL_look rfl rfl ?_; apply Exists.intro; refine ⟨?_, ?_⟩
           focus
            rintro w' ⟨s0, s1, s2, s3⟩; go_simp
            first | done | rfl
           simp only [Act.put, sA, sZ, sS]
          refine wpL_skip rfl rfl ?_; apply Exists.intro; refine ⟨?_, .inr ⟨rfl, rfl⟩, ?_⟩
          focus
           go_simp; rfl
          simp only [Act.put]; refine wpL_end ?_; clear d0 d2 b1 x0 iD iL iI x5 iI5 y2; go_wp2_with fail; obtain ⟨hst5, hD5, hB5, hN5, hbw5, e1, e2⟩ := H5.out; have hKb : Keep (fun g => g = b) w5 (w5.setCell ⟨b, 1, none⟩ (.slice va vn vc)) := Keep.setCell (S := fun g => g = b) (p := ⟨b, 1, none⟩) (Keep.refl _ _) (.inl rfl) _; have hfin : DoAt B ((w5.setCell ⟨b, 1, none⟩ (.slice va vn vc)).setCell ⟨d, 10, none⟩ (.int .i64 f)) d b { S with op := insD S.op a ⟨c.core, f, xn⟩ } c { r with fd := f } := by
           have hp : DPart B (w5.setCell ⟨b, 1, none⟩ (.slice va vn vc)) d b bi cap (.slice va vn vc) mv nv { S with op := insD S.op a ⟨c.core, f, xn⟩ } c r := ⟨e1, e2, hKb.blk hD5 (hD5.ne_ hB5 (by decide)), by have := hB5.set_ 1 (.slice va vn vc); simpa using this, hst5.keep hKb (fun g hg => by rw [hg]; exact ⟨_, 26, hB5, by decide, by decide, by decide, by decide⟩), hN5.keep hKb (fun g hg => hN5.ne_blk hB5 (by decide) hg)⟩
           exact (hp.res (t := 10) (r' := { r with fd := f }) rfl rfl).at_
          have hbf : Below B w ((w5.setCell ⟨b, 1, none⟩ (.slice va vn vc)).setCell ⟨d, 10, none⟩ (.int .i64 f)) := (hbw5.setCell (p := ⟨b, 1, none⟩) e1 _).setCell (p := ⟨d, 10, none⟩) e2 _; exact bodyPost_end (v := .tuple #[]) (by simp [results, go_sem]) rfl ⟨hbf, rfl, hfin⟩
   · obtain rfl : RR = .error 8 := by rw [← HRR.out]; rfl
     have HA := Lib.hid hbA; clear hA hbA hx x3; go_wp2_with (go_at_call 172; refine aE (throw_yes _ _) fun p => ?_)
     exact ⟨rfl, (HA.out.trans ((bel wA _).mono HA.out.size)).mono hB, rfl⟩
 · rw [if_pos hC] at hRR; subst hRR
   go_enter Tryz.func142, Tryz.ntmps142
   go_wp2_with (go_at_call 178; refine ht.mono ?_; rintro e w1 ⟨hb1, ho⟩; obtain rfl := ho.bad hC)
   exact ⟨rfl, hb1.mono hB, rfl⟩
theorem OwnP.blk_of {B : Nat} {w : World} {e : TypeId} {k : Nat} {v : Value} {rows : List (List Value)} (h : OwnP B w e k v rows) {g : Nat} (hg : v.ownBlock = some g) : ∃ cc, Blk w g cc e := by
 rcases h with ⟨h0, _⟩ | ⟨g', cap', cur, h0, _, hb', _⟩
 · rw [h0] at hg; cases hg
 · rw [h0] at hg; simp only [Value.ownBlock, Option.some.injEq] at hg; subst hg; exact ⟨_, hb'⟩
section
variable {B : Nat} {w w' : World} {d b bi cap : Nat} {ov mv nv : Value} {S : PSt} {c : PCall} {r : PRes}
theorem DPart.ents {K : Nat} {x : PIn} (h : DPart B w d b bi cap ov mv nv S c r) (hx : S.ins[K]? = some x) : ∃ ev, w.cell? ⟨bi, K * 4 + 2, none⟩ = some ev ∧ OwnP B w 97 2 ev (x.ents.map PEnt.cells) := by
 obtain ⟨_, _, is, h3, h4, h5, _⟩ := h.st
 obtain ⟨hl, _⟩ := gI.1 hx
 obtain ⟨rr, hrr⟩ : ∃ rr, is[K]? = some rr := ⟨_, gE (by omega)⟩
 obtain ⟨a1, a2, a3, a4⟩ := h5 K rr x hrr hx
 refine ⟨rr.ev, ?_, a4⟩
 obtain ⟨a, c', he, hat⟩ := h3.row.at_
 obtain ⟨g, off, he2, _, _, hc⟩ := hat w (Below.refl _ _) K rr.cells (by rw [gM, hrr]; rfl)
 subst he2
 simp only [Value.slice.injEq, Option.some.injEq, Addr.mk.injEq] at he
 obtain ⟨⟨rfl, rfl, -⟩, -, -⟩ := he
 have := hc 2 _ rfl
 simpa using this
theorem DPart.named {s : ByteArray} {v' : Value} (h : DPart B w d b bi cap ov mv nv S c r) (hg : Grew B 9 1 w nv ((r.names ++ [s]).map strCells) v' w') : DPart B (w'.setCell ⟨d, 14, none⟩ v') d b bi cap ov mv v' S c { r with names := r.names ++ [s] } := by
 obtain ⟨ho, hk, hat⟩ := hg
 have hnb : ∀ {g : Nat} {cc : Array Value} {t : TypeId}, Blk w g cc t → t ≠ 9 → ¬ nv.ownBlock = some g := fun hb ht hg => h.nm.ne_blk hb (fun e => ht e.symm) hg rfl
 have hD := hk.blk h.hD (hnb h.hD (by decide))
 have hb := hk.blk h.hb (hnb h.hb (by decide))
 have hst := h.st.keep hk (fun g hg => by
  obtain ⟨cc, hcc⟩ := h.nm.blk_of hg; exact ⟨_, 9, hcc, by decide, by decide, by decide, by decide⟩)
 have hKd : Keep (fun k => k = d) w' (w'.setCell ⟨d, 14, none⟩ v') := Keep.setCell (S := fun k => k = d) (p := ⟨d, 14, none⟩) (Keep.refl _ _) (.inl rfl) _
 refine ⟨h.hBb, h.hBd, ?_, hKd.blk hb (hb.ne_ hD (by decide)), hst.keep hKd (fun g hg => by rw [hg]; exact ⟨_, 136, hD, by decide, by decide, by decide, by decide⟩), ho.keep hKd (fun g hg => ho.ne_blk hD (by decide) hg)⟩
 exact hD.set_ 14 v'
theorem DPart.named_ents {rows : List (List Value)} {ev : Value} {s : ByteArray} {v' : Value} (h : DPart B w d b bi cap ov mv nv S c r) (hg : Grew B 9 1 w nv ((r.names ++ [s]).map strCells) v' w') (he : OwnP B w 97 2 ev rows) : OwnP B (w'.setCell ⟨d, 14, none⟩ v') 97 2 ev rows := by
 obtain ⟨ho, hk, hat⟩ := hg
 have h1 : OwnP B w' 97 2 ev rows := he.keep hk (fun g hg hh => by
  obtain ⟨cc, hcc⟩ := h.nm.blk_of hh; exact he.ne_blk hcc (by decide) hg rfl)
 have hD := hk.blk h.hD (fun hh => by
  obtain ⟨cc, hcc⟩ := h.nm.blk_of hh; exact h.hD.ne_ hcc (by decide) rfl)
 have hKd : Keep (fun k => k = d) w' (w'.setCell ⟨d, 14, none⟩ v') := Keep.setCell (S := fun k => k = d) (p := ⟨d, 14, none⟩) (Keep.refl _ _) (.inl rfl) _
 exact h1.keep hKd (fun g hg => h1.ne_blk hD (by decide) hg)
end
theorem take_succ_at {α : Type} {l : List α} {q : Nat} {x : α} (h : l[q]? = some x) : l.take (q + 1) = l.take q ++ [x] := by
 rw [List.take_add_one, h]
 rfl
def listM (S : PSt) (c : PCall) (r : PRes) : Except Int (PSt × PRes) :=
 if (walkM S 0 (parseM c.path).2).2 ≠ 0 then .error (walkM S 0 (parseM c.path).2).2 else
 match S.ins[(walkM S 0 (parseM c.path).2).1]? with
 | none => .ok (S, r)
 | some x => if x.dir = true then .ok (S, { r with names := r.names ++ x.ents.map PEnt.name }) else .error 7
theorem tell_list (B d b : Nat) (S : PSt) (c : PCall) (r : PRes) (w : World) (h : DoAt B w d b S c r) (hB : B ≤ w.heap.size) (hf : Fine S) (hk : c.kind = 12) (hrn : r.names.length ≤ 1000000000) (hp : (parseM c.path).1 = 0) (hpl : (parseM c.path).2.length ≤ 1000000000) :
 Calls Tryz.prog 150 #[.pointer (some ⟨d, 0, none⟩)] w (RunOut B w d b c (listM S c r)) := by
 obtain ⟨i9x, hi9, h90, h91, h92⟩ := info_parts info9
 obtain ⟨bi, cap, ov, mv, nv, hP⟩ := h.part hf.pos
 have ht := hP.path hf c.path hp hpl
 have hlt := walkM_lt hf (parseM c.path).2 0 hf.pos
 have iD := hP.hD.lt
 have d1 : w.cell? ⟨d, 1, none⟩ = some (.int .i64 c.kind) := hP.hD.cell 1
 have d6 : w.cell? ⟨d, 6, none⟩ = some (.string c.path) := hP.hD.cell 6
 rw [hk] at d1
 have HP := Lib.hid hP
 obtain ⟨RR, hRR⟩ : ∃ RR, listM S c r = RR := ⟨_, rfl⟩
 rw [hRR]
 unfold listM at hRR
 generalize walkM S 0 (parseM c.path).2 = W at ht hlt hRR
 obtain ⟨K, C⟩ := W
 simp only at hlt hRR
 clear h hP hp hpl
 by_cases hC : C = 0
 · subst hC; rw [if_neg (by simp)] at hRR; obtain ⟨x, hx⟩ : ∃ x, S.ins[K]? = some x := ⟨_, gE hlt⟩
   rw [hx] at hRR; simp only at hRR; have hel : x.ents.length ≤ 1000000000 := (hf.wf.2.2.2.1 x (mG hx)).2.1; have HRR := Lib.hid hRR; clear hRR
   go_enter Tryz.func150, Tryz.ntmps150
   go_upto_region 1 with (go_at_call 178; refine ht.mono ?_; rintro e w1 ⟨hb1, ho⟩; obtain rfl := ho.ok; have HB := Lib.hid hb1; clear hb1 ho)
   refine abs_world (F := fun wA => DPart B wA d b bi cap ov mv nv S c r ∧ Below w.heap.size w wA) ⟨HP.out.below HB.out, HB.out⟩ ?_; clear ht iD HP HB d6 d1; rintro wA ⟨hA, hbA⟩; have iD := hA.hD.lt; have d1 : wA.cell? ⟨d, 1, none⟩ = some (.int .i64 c.kind) := hA.hD.cell 1; rw [hk] at d1; obtain ⟨iI, x0, x1, x3⟩ := hA.dat hx; obtain ⟨ev, x2, hev⟩ := hA.ents hx; obtain ⟨xn, xd, xe, xdat⟩ := x; simp only at x0 x1 x2 hev hel; have HX := Lib.hid (And.intro hA (And.intro hbA hev)); have HRR := Lib.hid (show (if xd = true then Except.ok (S, { r with names := r.names ++ xe.map PEnt.name }) else Except.error 7 : Except Int (PSt × PRes)) = RR from HRR.out); rcases xd with _ | _
   · obtain rfl : RR = .error 7 := by rw [← HRR.out]; rfl
     clear hA hbA hev hx x2 x3; go_wp2_with (go_at_call 172; refine aE (throw_yes _ _) fun p => ?_)
     exact ⟨rfl, (HX.out.2.1.trans ((bel wA _).mono HX.out.2.1.size)).mono hB, rfl⟩
   · obtain rfl : RR = .ok (S, { r with names := r.names ++ xe.map PEnt.name }) := by rw [← HRR.out]; rfl
     obtain ⟨ae, ce, rfl, -⟩ := hev.row.at_; rw [lM] at x2; have HX := Lib.hid (show DPart B wA d b bi cap ov mv nv S c r ∧ Below w.heap.size w wA ∧ OwnP B wA 97 2 (.slice ae xe.length ce) (xe.map PEnt.cells) by have h := HX.out; rw [lM] at h; exact h); clear hA hbA hev hx x3 HRR; go_wp2_with (go_at_call 172; refine aT (throw_no _ _) fun p => ?_)
     go_loopw [50] (fun v50 wr => ∃ (q : Nat) (nv' : Value), v50 = .int .i64 q ∧ q ≤ xe.length ∧ DPart B wr d b bi cap ov mv nv' S c { r with names := r.names ++ (xe.take q).map PEnt.name } ∧ OwnP B wr 97 2 (.slice ae xe.length ce) (xe.map PEnt.cells) ∧ Below B w wr) (fun v50 _ => (xe.length - intOf v50).toNat)
     case atStart => exact ⟨0, nv, rfl, by omega, by simpa using HX.out.1.below (bel wA (wA.junk p)), HX.out.2.2.keep (Keep.of_below (bel wA (wA.junk p)) (fun _ => False)) (fun _ _ h => h), (HX.out.2.1.trans ((bel wA (wA.junk p)).mono HX.out.2.1.size)).mono hB⟩
     case round =>
      obtain ⟨q, nv', rfl, hq, hP, hev, hb⟩ := hrel; have iDr := hP.hD.lt; by_cases hlt : q < xe.length
      · obtain ⟨e, he⟩ : ∃ e, xe[q]? = some e := ⟨_, gE hlt⟩
        obtain ⟨a', c', e', hat⟩ := hev.row.at_; simp only [Value.slice.injEq] at e'; obtain ⟨rfl, -, rfl⟩ := e'; obtain ⟨bo, off, rfl, iG0, iG, hc⟩ := hat wr (Below.refl _ _) q e.cells (by rw [gM, he]; rfl); have y0 := hc 0 _ rfl; have y1 := hc 1 _ rfl; rw [Nat.add_zero] at y0; have d14 : wr.cell? ⟨d, 14, none⟩ = some nv' := hP.hD.cell 14; have f14 := hP.hD.frozen 14; have hnl : (r.names ++ (xe.take q).map PEnt.name).length ≤ 2000000000 := by simp; omega
        have hno := hP.nm.one; obtain ⟨an, nn, cn, rfl⟩ := hP.nm.form; have HR := Lib.hid (And.intro hP (And.intro hev (And.intro hb he))); have hqI : (q : Int) < xe.length := by omega
        have hBr : B ≤ wr.heap.size := by have := hP.hBd; have := iDr.lt; omega
        clear hP hev hb he hat hc
        go_upto_region 9 with fail
        refine abs_world (F := fun wz => DPart B wz d b bi cap ov mv (.slice an nn cn) S c { r with names := r.names ++ (xe.take q).map PEnt.name } ∧ OwnP B wz 97 2 (.slice (some ⟨bo, off, none⟩) xe.length ce) (xe.map PEnt.cells) ∧ Below B w wz ∧ Blk wz wr.heap.size #[.string e.name, .int .i64 e.num] 97) ⟨HR.out.1.below (bel wr _), HR.out.2.1.keep (Keep.of_below (bel wr _) (fun _ => False)) (fun _ _ h => h), HR.out.2.2.1.trans ((bel wr _).mono hBr), Blk.new _ _ _⟩ ?_; obtain ⟨g4, hg4⟩ : ∃ g, wr.heap.size = g := ⟨_, rfl⟩
        rw [hg4]; clear y0 y1 d14 f14 iG iDr; rintro wz ⟨hP, hev, hb, h4⟩; have iDz := hP.hD.lt; have d14 : wz.cell? ⟨d, 14, none⟩ = some (.slice an nn cn) := hP.hD.cell 14; have i4 := h4.lt; have z0 := h4.cell 0; simp at z0; have hBz : B ≤ wz.heap.size := by have := hP.hBd; have := iDz.lt; omega
        have HZ := Lib.hid (And.intro hP (And.intro hev hb)); have H4 := Lib.hid h4; clear hP hev hb h4; refine wp_region_eff [8, 9, 13] true (fun w' => w'.cell? ⟨d, 14, none⟩ = some (.slice an nn cn) ∧ w'.cell? ⟨g4, 0, none⟩ = some (.string e.name)) (by kernel_rfl) (by kernel_rfl) ?_ ?_
        · (try dsimp only); (repeat' apply And.intro) <;> go_simp
        repeat
         refine wpL_look rfl rfl ?_; apply Exists.intro; refine ⟨?_, ?_⟩
         focus
          rintro w' ⟨s0, s1⟩; go_simp
          first | done | rfl
         simp only [Act.put, sA, sZ, sS]
        refine wpL_do rfl rfl ?_; apply Exists.intro; apply Exists.intro; refine ⟨?_, ?_, ?_⟩
        focus
         go_simp; exact ⟨rfl, rfl⟩
        focus
         refine .inl ?_
         (try dsimp only); (repeat' apply And.intro) <;> go_simp
        simp only [Act.put, sA, sZ, sS]; refine wpL_act rfl rfl ?_; refine eff_append_P (.tmp 59) (.tmp 62) 50 ?e00 B 9 1 16 i9x _ Tryz.underlying50 hi9 h90 h91 h92 ?e9 ?e10 (.slice an nn cn) (.slice (some ⟨wz.heap.size, 0, none⟩) 1 1) ((r.names ++ (xe.take q).map PEnt.name).map strCells) [strCells e.name] ?e1 ?e3 ?e2 ?e4 ?e5 ?e6 ?e11 ?e12 ?e13 ?e14 ?_
        case e00 => rfl
        case e9 => rfl
        case e10 => decide
        case e1 => rfl
        case e3 => rfl
        case e2 => exact str_len _
        case e4 => intro cs hcs; simp at hcs; subst hcs; rfl
        case e5 => intro cs hcs u hu; simp at hcs; subst hcs; simp [strCells] at hu; subst hu; rfl
        case e6 => exact (HZ.out.1.below (bel wz (wz.drew.alloc (Obj.cells #[.string e.name] 9)))).nm
        case e11 => exact RowAt.single (Blk.new wz.drew #[.string e.name] 9) 1 1
        case e12 => rw [lM]; unfold maxLen; simp at hnl ⊢; omega
        case e13 => rw [lM]; simp at hnl ⊢; omega
        case e14 => simp; omega
        intro v' w5 hg5; have hP1 := HZ.out.1.below (bel wz (wz.drew.alloc (Obj.cells #[.string e.name] 9))); have hg6 : Grew B 9 1 (wz.drew.alloc (Obj.cells #[.string e.name] 9)) (.slice an nn cn) ((({ r with names := r.names ++ (xe.take q).map PEnt.name } : PRes).names ++ [e.name]).map strCells) v' w5 := by
         rw [List.map_append]; exact hg5
        have hfin := hP1.named hg6; have hevf := hP1.named_ents hg6 (HZ.out.2.1.keep (Keep.of_below (bel wz (wz.drew.alloc (Obj.cells #[.string e.name] 9))) (fun _ => False)) (fun _ _ h => h)); have hnb : ∀ {g : Nat} {cc : Array Value} {t : TypeId}, Blk (wz.drew.alloc (Obj.cells #[.string e.name] 9)) g cc t → t ≠ 9 → ¬ (Value.slice an nn cn).ownBlock = some g := fun hb ht hg => hP1.nm.ne_blk hb (fun e => ht e.symm) hg rfl
        have hD5 := hg5.2.1.blk hP1.hD (hnb hP1.hD (by decide)); have t14 : w5.cell? ⟨d, 14, none⟩ = some (.slice an nn cn) := hD5.cell 14; have ft14 := hD5.frozen 14; have iD5 := hD5.lt; obtain ⟨va, vn, vc, rfl⟩ := hg5.1.form; have hbf : Below B w (w5.setCell ⟨d, 14, none⟩ (.slice va vn vc)) := (HZ.out.2.2.trans (((bel wz (wz.drew.alloc (Obj.cells #[.string e.name] 9))).mono hBz).trans (hg5.2.1.below (by simp; omega) (fun i hi h => by have := hP1.nm.ge h; omega)))).setCell (p := ⟨d, 14, none⟩) HZ.out.1.hBd _; have h45 := hg5.2.1.blk (blk_on H4.out (bel wz (wz.drew.alloc (Obj.cells #[.string e.name] 9)))) (hnb (blk_on H4.out (bel wz (wz.drew.alloc (Obj.cells #[.string e.name] 9)))) (by decide)); have t4 : w5.cell? ⟨g4, 0, none⟩ = some (.string e.name) := by have := h45.cell 0; simpa using this
        have i45 := h45.lt; have HF := Lib.hid (And.intro hfin (And.intro hevf hbf)); clear hg5 hg6 hfin hevf hbf hP1 hnb hD5 h45; refine ⟨.inl ⟨t14, t4⟩, ?_⟩; simp only [Act.put, sA, sZ, sS]
        repeat
         refine wpL_look rfl rfl ?_; apply Exists.intro; refine ⟨?_, ?_⟩
         focus
          rintro w' ⟨s0, s1⟩; go_simp
          first | done | rfl
         simp only [Act.put, sA, sZ, sS]
        refine wpL_skip rfl rfl ?_; apply Exists.intro; refine ⟨?_, .inr ⟨rfl, rfl⟩, ?_⟩
        focus
         go_simp; rfl
        simp only [Act.put, sA, sZ, sS]; refine wpL_end ?_; clear t14 ft14 t4 i45 d14 i4 z0 iDz; go_wp2_with fail
        go_roundw
        case rel => exact ⟨q + 1, _, by go_num, by omega, by have h := HF.out.1; rw [show (({ r with names := r.names ++ (xe.take q).map PEnt.name } : PRes).names ++ [e.name]) = r.names ++ (xe.take (q + 1)).map PEnt.name by rw [take_succ_at HR.out.2.2.2]; simp] at h; exact h, HF.out.2.1, HF.out.2.2⟩
        case measure => simp [intOf]; omega
      · have hqe : q = xe.length := by omega
        subst hqe; rw [List.take_of_length_le (Nat.le_refl _)] at hP; have HR := Lib.hid (And.intro hP hb); clear hP hb hev; go_wp2_with fail; exact bodyPost_end (v := .tuple #[]) (by simp [results, go_sem]) rfl ⟨HR.out.2, rfl, HR.out.1.at_⟩
 · rw [if_pos hC] at hRR; subst hRR
   go_enter Tryz.func150, Tryz.ntmps150
   go_wp2_with (go_at_call 178; refine ht.mono ?_; rintro e w1 ⟨hb1, ho⟩; obtain rfl := ho.bad hC)
   exact ⟨rfl, hb1.mono hB, rfl⟩
end Go.Proofs.YtmkapobnfigedaaGreatDoor
