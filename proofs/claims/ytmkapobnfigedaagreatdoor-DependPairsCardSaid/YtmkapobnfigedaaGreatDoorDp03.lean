/- Part of the proof of a law of chapter 15. Conditions: none. -/
import Derived.Test.YtmkapobnfigedaaGreatDoorDp02
set_option linter.unusedVariables false
set_option linter.unusedSimpArgs false
set_option maxRecDepth 100000
set_option maxHeartbeats 8000000
namespace Go.Proofs.YtmkapobnfigedaaGreatDoor
open Go.RowKit
theorem open112 (d : PDesc) (n : Int) (bx : Nat) (w : World) (ib : BlockLt bx w) (c : w.cell? ⟨bx, 0, none⟩ = some (.int .i64 n)) :
 Calls Tryz.prog 104 #[.agg #[.int .i64 d.core, .int .i64 d.fd, .int .i64 d.num], .pointer (some ⟨bx, 0, none⟩)] w fun e w' => e = .returned (.bool (d.num == n)) ∧ Below w.heap.size w w' := by
 go_enter Tryz.func104, Tryz.ntmps104
 go_wp2_with fail
 go_ret
 exact ⟨rfl, bel _ _⟩
theorem cont111 (op : List PDesc) (v : Value) (n : Int) (bx : Nat) (w : World) (h : RowAt w 3 v (op.map PDesc.cells)) (hlen : op.length ≤ 1000000000) (ib : BlockLt bx w) (c : w.cell? ⟨bx, 0, none⟩ = some (.int .i64 n)) :
 Calls Tryz.prog 103 #[v, .func (.func 104) #[] #[.pointer (some ⟨bx, 0, none⟩)]] w fun e w' => e = .returned (.bool (op.any fun d => d.num == n)) ∧ Below w.heap.size w w' := by
 have hv := h.one
 have hc : ∀ w', Below w.heap.size w w' → Calls Tryz.prog 136 #[v, .func (.func 104) #[] #[.pointer (some ⟨bx, 0, none⟩)]] w' fun e w'' => e = .returned (.int .i64 (idxM (fun d : PDesc => d.num == n) op)) ∧ Below w'.heap.size w' w'' :=
  fun w' hb => index45o op v (.pointer (some ⟨bx, 0, none⟩)) (fun d => d.num == n) w' (h.below hb (Nat.le_refl _)) hlen (fun z ww _ hww => open112 z n bx ww ⟨by have := hb.size; have := hww.size; have := ib.lt; omega⟩ (((hb.trans (hww.mono hb.size)).cell (p := ⟨bx, 0, none⟩) ib.lt).trans c))
 have ha := idxM_any (fun d : PDesc => d.num == n) op
 generalize (op.any fun d => d.num == n) = A at ha ⊢
 subst ha
 generalize idxM (fun d : PDesc => d.num == n) op = R at hc ⊢
 clear h c
 go_enter Tryz.func103, Tryz.ntmps103
 go_wp2_with ((go_at_call 136; refine aT (hc _ (bel _ _)) fun p => ?_))
 go_ret
 exact ⟨by first | rfl | simp_all, bel _ _⟩
def openM (op : List PDesc) (n : Int) : Bool := op.any fun d => d.num == n
theorem open66 (b : Nat) (S : PSt) (n : Int) (w : World) (h : SP w b S) (hwf : S.wf) :
 Calls Tryz.prog 72 #[.pointer (some ⟨b, 0, none⟩), .int .i64 n] w fun e w' => e = .returned (.bool (openM S.op n)) ∧ Below w.heap.size w w' := by
 have ib : BlockLt b w := ⟨h.1⟩
 have hlen := hwf.2.1
 obtain ⟨hl, iv, ov, mv, c0, c1, c2, hr⟩ := h
 have hc : ∀ w' bx, Below w.heap.size w w' → BlockLt bx w' → w'.cell? ⟨bx, 0, none⟩ = some (.int .i64 n) → Calls Tryz.prog 103 #[ov, .func (.func 104) #[] #[.pointer (some ⟨bx, 0, none⟩)]] w' fun e w'' => e = .returned (.bool (openM S.op n)) ∧ Below w'.heap.size w' w'' :=
  fun w' bx hb i c => cont111 S.op ov n bx w' (hr.1.below hb (Nat.le_refl _)) hlen i c
 have ho := hr.1.one
 clear hr hwf c0 c2
 go_enter Tryz.func72, Tryz.ntmps72
 go_wp2_with ((go_at_call 103; refine aT (hc _ _ (bel _ _) inferInstance (by go_simp)) fun p => ?_))
 go_ret
 exact ⟨rfl, bel _ _⟩
def prevDB (p : Option PDesc) (d : PDesc) : Bool := match p with | some o => decide (d.core < o.core) || (decide (o.core = d.core) && decide (d.fd ≤ o.fd)) | none => false
def descB (S : PSt) : Option PDesc → List PDesc → Bool
 | _, [] => true
 | p, d :: r =>
   if d.core < 0 then false else if S.made.length ≤ d.core then false else if d.fd < 0 then false else if 4 ≤ d.fd then false else if prevDB p d = true then false else
   if findN S.nums d.num < 0 then false else match S.ins[(findN S.nums d.num).toNat]? with
   | some x => if x.dir = true then false else descB S (some d) r
   | none => false
def mayOpenM (S : PSt) : Bool := descB S none S.op
def prevD (ds : List PDesc) (q : Nat) : Option PDesc := if q = 0 then none else ds[q - 1]?
theorem mayOpen64 (b : Nat) (S : PSt) (w : World) (h : SP w b S) (hwf : S.wf) :
 Calls Tryz.prog 70 #[.pointer (some ⟨b, 0, none⟩)] w fun e w' => e = .returned (.bool (mayOpenM S)) ∧ Below w.heap.size w w' := by
 have hf : ∀ ww, Below w.heap.size w ww → ∀ n, Calls Tryz.prog 102 #[.pointer (some ⟨b, 0, none⟩), .int .i64 n] ww fun e w' => e = .returned (.int .i64 (findN S.nums n)) ∧ Below ww.heap.size ww w' :=
  fun ww hb n => find_sp b S n ww (h.below hb (Nat.le_refl _)) hwf
 obtain ⟨hl, iv, ov, mv, c0, c1, c2, hr⟩ := h
 have ib : BlockLt b w := ⟨hl⟩
 have hlen := hwf.2.1
 have hleni := hwf.1
 have HWF := Lib.hid hwf.2.2.2.2.1
 obtain ⟨ai, capi, rfl, hati⟩ := hr.ins_at
 obtain ⟨ao, capo, rfl, hato⟩ := hr.1.at_
 obtain ⟨am, capm, rfl, -⟩ := hr.2.1
 rw [lM] at c1 c2
 have HI := Lib.hid hati
 have HO := Lib.hid hato
 have hlm := hwf.2.2.1
 clear hr hwf hati hato
 unfold mayOpenM
 obtain ⟨R, hR⟩ : ∃ R, descB S none S.op = R := ⟨_, rfl⟩
 rw [hR]
 have HR := Lib.hid hR
 clear hR
 go_enter Tryz.func70, Tryz.ntmps70
 go_wp2_with fail
 go_loopw [11] (fun i wr => ∃ (q : Nat), i = .int .i64 q ∧ q ≤ S.op.length ∧ descB S (prevD S.op q) (S.op.drop q) = R ∧ Below w.heap.size w wr) (fun i _ => (S.op.length - intOf i).toNat)
 case atStart => exact ⟨0, rfl, by omega, HR.out, bel _ _⟩
 case round =>
  obtain ⟨q, rfl, hq, hre, hb⟩ := hrel; have iB : Bel w wr := ⟨hb⟩
  have iL0 : BlockLt b wr := ⟨by have := hb.size; have := ib.lt; omega⟩
  have c0r : wr.cell? ⟨b, 0, none⟩ = some (.slice ai S.ins.length capi) := (hb.cell (p := ⟨b, 0, none⟩) ib.lt).trans c0; have c1r : wr.cell? ⟨b, 1, none⟩ = some (.slice ao S.op.length capo) := (hb.cell (p := ⟨b, 1, none⟩) ib.lt).trans c1; have c2r : wr.cell? ⟨b, 2, none⟩ = some (.slice am S.made.length capm) := (hb.cell (p := ⟨b, 2, none⟩) ib.lt).trans c2; by_cases hlt : q < S.op.length
  · obtain ⟨d, hd⟩ : ∃ d, S.op[q]? = some d := ⟨_, gE hlt⟩
    rw [drop_at hd] at hre; unfold descB at hre; obtain ⟨bo, off, rfl, iG0, iG, hc⟩ := HO.out wr hb q d.cells (by rw [gM, hd]; rfl); have d0 := hc 0 _ rfl; have d1 := hc 1 _ rfl; have d2 := hc 2 _ rfl; rw [Nat.add_zero] at d0; have hfn : ∀ ww, Below w.heap.size w ww → Calls Tryz.prog 102 #[.pointer (some ⟨b, 0, none⟩), .int .i64 d.num] ww _ := fun ww hww => hf ww hww d.num
    have hfb := findN_bounds S.nums d.num; have hnl : S.nums.length = S.ins.length := by unfold PSt.nums; rw [lM]
    have hpd : prevD S.op (q + 1) = some d := by
     unfold prevD; rw [if_neg (by omega), Nat.add_sub_cancel, hd]
    have HPD := Lib.hid hpd; have hpv : (q = 0 ∧ prevD S.op q = none) ∨ ∃ (k : Nat) (y : PDesc), (q : Int) - 1 = k ∧ 0 < q ∧ k < S.op.length ∧ prevD S.op q = some y ∧ wr.cell? ⟨bo, off + k * 3, none⟩ = some (.int .i64 y.core) ∧ wr.cell? ⟨bo, off + k * 3 + 1, none⟩ = some (.int .i64 y.fd) := by
     by_cases hq0 : q = 0
     · exact .inl ⟨hq0, by simp [prevD, hq0]⟩
     · have hk : q - 1 < S.op.length := by omega
       have hy : S.op[q - 1]? = some S.op[q - 1] := gE hk; obtain ⟨b2, off2, he2, _, _, hc2⟩ := HO.out wr hb (q - 1) S.op[q - 1].cells (by rw [gM, hy]; rfl); cases he2; exact .inr ⟨q - 1, S.op[q - 1], by omega, by omega, hk, by unfold prevD; rw [if_neg hq0, hy], hc2 0 _ rfl, hc2 1 _ rfl⟩
    clear hc hd hpd hf; by_cases g1 : d.core < 0
    · rw [if_pos g1] at hre; have g1b : decide (d.core < 0) = true := decide_eq_true g1; subst hre; go_wp2_with fail; refine wp_region_quiet_rest (by kernel_rfl) (by kernel_rfl) ?_
      repeat
       first
        | go_big_quiet_skip
        | (go_big_quiet_want; go_big_quiet_op; first | go_big_quiet_on | (apply Exists.intro; refine ⟨fun _ => ?_, ?_⟩; focus (fail); go_big_quiet_on))
      refine QN fun p => ?_; go_wp2_with fail; exact bodyPost_ret (v := .bool false) (by simp [results, Tryz.results70, go_sem]) rfl ⟨rfl, bel _ _⟩
    rw [if_neg g1] at hre; have g1b : decide (d.core < 0) = false := decide_eq_false g1; by_cases g2 : S.made.length ≤ d.core
    · rw [if_pos g2] at hre; have g2b : decide ((S.made.length : Int) ≤ d.core) = true := decide_eq_true g2; subst hre; go_wp2_with fail; refine wp_region_quiet_rest (by kernel_rfl) (by kernel_rfl) ?_
      repeat
       first
        | go_big_quiet_skip
        | (go_big_quiet_want; go_big_quiet_op; first | go_big_quiet_on | (apply Exists.intro; refine ⟨fun _ => ?_, ?_⟩; focus (fail); go_big_quiet_on))
      refine QN fun p => ?_; go_wp2_with fail; exact bodyPost_ret (v := .bool false) (by simp [results, Tryz.results70, go_sem]) rfl ⟨rfl, bel _ _⟩
    rw [if_neg g2] at hre; have g2b : decide ((S.made.length : Int) ≤ d.core) = false := decide_eq_false g2; by_cases g3 : d.fd < 0
    · rw [if_pos g3] at hre; have g3b : decide (d.fd < 0) = true := decide_eq_true g3; subst hre; go_wp2_with fail; refine wp_region_quiet_rest (by kernel_rfl) (by kernel_rfl) ?_
      repeat
       first
        | go_big_quiet_skip
        | (go_big_quiet_want; go_big_quiet_op; first | go_big_quiet_on | (apply Exists.intro; refine ⟨fun _ => ?_, ?_⟩; focus (fail); go_big_quiet_on))
      refine QN fun p => ?_; go_wp2_with fail; exact bodyPost_ret (v := .bool false) (by simp [results, Tryz.results70, go_sem]) rfl ⟨rfl, bel _ _⟩
    rw [if_neg g3] at hre; have g3b : decide (d.fd < 0) = false := decide_eq_false g3; by_cases g4 : 4 ≤ d.fd
    · rw [if_pos g4] at hre; have g4b : decide (4 ≤ d.fd) = true := decide_eq_true g4; subst hre; go_wp2_with fail; refine wp_region_quiet_rest (by kernel_rfl) (by kernel_rfl) ?_
      repeat
       first
        | go_big_quiet_skip
        | (go_big_quiet_want; go_big_quiet_op; first | go_big_quiet_on | (apply Exists.intro; refine ⟨fun _ => ?_, ?_⟩; focus (fail); go_big_quiet_on))
      refine QN fun p => ?_; go_wp2_with fail; exact bodyPost_ret (v := .bool false) (by simp [results, Tryz.results70, go_sem]) rfl ⟨rfl, bel _ _⟩
    rw [if_neg g4] at hre; have g4b : decide (4 ≤ d.fd) = false := decide_eq_false g4; generalize findN S.nums d.num = fv at hfn hre hfb; generalize hT : (if fv < 0 then false else match S.ins[fv.toNat]? with | some x => if x.dir = true then false else descB S (some d) (S.op.drop (q + 1)) | none => false) = T at hre; have hfc0 : (fv < 0 ∧ false = T) ∨ ∃ (k2 : Nat) (x : PIn) (bi offi : Nat), fv = k2 ∧ k2 < S.ins.length ∧ ai = some ⟨bi, offi, none⟩ ∧ BlockLt bi wr ∧ wr.cell? ⟨bi, offi + k2 * 4 + 1, none⟩ = some (.bool x.dir) ∧ (if x.dir = true then false else descB S (some d) (S.op.drop (q + 1))) = T := by
     by_cases h2 : fv < 0
     · rw [if_pos h2] at hT; exact .inl ⟨h2, hT⟩
     · rw [if_neg h2] at hT; have hk : fv.toNat < S.ins.length := by omega
       have hx : S.ins[fv.toNat]? = some S.ins[fv.toNat] := gE hk; rw [hx] at hT; obtain ⟨bi, offi, ev, he, _, i2, _, _, _, y1, _, _⟩ := HI.out wr hb _ _ hx; exact .inr ⟨fv.toNat, _, bi, offi, by omega, hk, he, i2, y1, hT⟩
    have HF := Lib.hid hfc0; clear hT hfc0 hfb; rcases hpv with ⟨hq0, hp⟩ | ⟨k, y, hk1, hq1, hkl, hp, p0, p1⟩
    · subst hq0; rw [hp, show prevDB none d = false from rfl, if_neg (by decide)] at hre; subst hre; clear hp; simp only [Nat.zero_mul, Nat.add_zero] at d0 d1 d2; have hfc := HF.out; clear HF; rcases hfc with ⟨h2, hre⟩ | ⟨k2, x, bi, offi, hk2, hkl2, hai, iBi, m1, hre⟩
      · subst hre; go_wp2_with fail; refine wp_region_quiet_rest (by kernel_rfl) (by kernel_rfl) ?_
        repeat
         first
          | go_big_quiet_skip
          | (go_big_quiet_want; go_big_quiet_op; first | go_big_quiet_on | (apply Exists.intro; refine ⟨fun _ => ?_, ?_⟩; focus (fail); go_big_quiet_on))
        refine QN fun p => ?_; go_wp2_with fail; refine wp_region_quiet_rest (by kernel_rfl) (by kernel_rfl) ?_
        repeat
         first
          | go_big_quiet_skip
          | (go_big_quiet_want; go_big_quiet_op; first | go_big_quiet_on | (apply Exists.intro; refine ⟨fun _ => ?_, ?_⟩; focus (fail); go_big_quiet_on))
        refine QN fun p => ?_; go_wp2_with ((go_at_call 102; refine aT (hfn _ (bel _ _)) fun p => ?_))
        exact bodyPost_ret (v := .bool false) (by simp [results, Tryz.results70, go_sem]) rfl ⟨rfl, bel _ _⟩
      · subst hk2; subst hai; by_cases hd : x.dir = true
        · rw [if_pos hd] at hre; rw [hd] at m1; subst hre; go_wp2_with fail; refine wp_region_quiet_rest (by kernel_rfl) (by kernel_rfl) ?_
          repeat
           first
            | go_big_quiet_skip
            | (go_big_quiet_want; go_big_quiet_op; first | go_big_quiet_on | (apply Exists.intro; refine ⟨fun _ => ?_, ?_⟩; focus (fail); go_big_quiet_on))
          refine QN fun p => ?_; go_wp2_with fail; refine wp_region_quiet_rest (by kernel_rfl) (by kernel_rfl) ?_
          repeat
           first
            | go_big_quiet_skip
            | (go_big_quiet_want; go_big_quiet_op; first | go_big_quiet_on | (apply Exists.intro; refine ⟨fun _ => ?_, ?_⟩; focus (fail); go_big_quiet_on))
          refine QN fun p => ?_; go_wp2_with ((go_at_call 102; refine aT (hfn _ (bel _ _)) fun p => ?_))
          exact bodyPost_ret (v := .bool false) (by simp [results, Tryz.results70, go_sem]) rfl ⟨rfl, bel _ _⟩
        · rw [if_neg hd] at hre; have hd : x.dir = false := by simpa using hd
          rw [hd] at m1; have HRE := Lib.hid hre; clear hre hd; go_wp2_with fail; refine wp_region_quiet_rest (by kernel_rfl) (by kernel_rfl) ?_
          repeat
           first
            | go_big_quiet_skip
            | (go_big_quiet_want; go_big_quiet_op; first | go_big_quiet_on | (apply Exists.intro; refine ⟨fun _ => ?_, ?_⟩; focus (fail); go_big_quiet_on))
          refine QN fun p => ?_; go_wp2_with fail; refine wp_region_quiet_rest (by kernel_rfl) (by kernel_rfl) ?_
          repeat
           first
            | go_big_quiet_skip
            | (go_big_quiet_want; go_big_quiet_op; first | go_big_quiet_on | (apply Exists.intro; refine ⟨fun _ => ?_, ?_⟩; focus (fail); go_big_quiet_on))
          refine QN fun p => ?_; go_wp2_with ((go_at_call 102; refine aT (hfn _ (bel _ _)) fun p => ?_))
          go_roundw
          case rel => exact ⟨0 + 1, by go_num, by omega, by rw [HPD.out]; exact HRE.out, bel _ _⟩
          case measure => simp [intOf]; omega
    · have hwk : IntKind.i64.wrap (k : Int) = k := I64.wrap ⟨by omega, by omega⟩; have hq1I : 0 < (q : Int) := by omega
      have hq1b : decide (0 < (q : Int)) = true := decide_eq_true hq1I; have hq1c : decide (0 < q) = true := decide_eq_true hq1; rw [hp, show prevDB (some y) d = (decide (d.core < y.core) || (decide (y.core = d.core) && decide (d.fd ≤ y.fd))) from rfl] at hre; clear hp; by_cases p2 : d.core < y.core
      · have p2b : decide (d.core < y.core) = true := decide_eq_true p2; rw [show (decide (d.core < y.core) || (decide (y.core = d.core) && decide (d.fd ≤ y.fd))) = true by simp [p2], if_pos rfl] at hre; subst hre; clear HF; go_wp2_with fail; refine wp_region_quiet_rest (by kernel_rfl) (by kernel_rfl) ?_
        repeat
         first
          | go_big_quiet_skip
          | (go_big_quiet_want; go_big_quiet_op; first | go_big_quiet_on | (apply Exists.intro; refine ⟨fun _ => ?_, ?_⟩; focus (fail); go_big_quiet_on))
        refine QN fun p => ?_; go_wp2_with fail; refine wp_region_quiet_rest (by kernel_rfl) (by kernel_rfl) ?_
        repeat
         first
          | go_big_quiet_skip
          | (go_big_quiet_want; go_big_quiet_op; first | go_big_quiet_on | (apply Exists.intro; refine ⟨fun _ => ?_, ?_⟩; focus (fail); go_big_quiet_on))
        refine QN fun p => ?_; go_wp2_with fail; exact bodyPost_ret (v := .bool false) (by simp [results, Tryz.results70, go_sem]) rfl ⟨rfl, bel _ _⟩
      · have p2b : decide (d.core < y.core) = false := decide_eq_false p2; by_cases p3 : y.core = d.core
        · have p3b : (y.core == d.core) = true := by simpa using p3
          by_cases p4 : d.fd ≤ y.fd
          · have p4b : decide (d.fd ≤ y.fd) = true := decide_eq_true p4; rw [show (decide (d.core < y.core) || (decide (y.core = d.core) && decide (d.fd ≤ y.fd))) = true by simp [p3, p4], if_pos rfl] at hre; subst hre; clear HF p3; go_wp2_with fail; refine wp_region_quiet_rest (by kernel_rfl) (by kernel_rfl) ?_
            repeat
             first
              | go_big_quiet_skip
              | (go_big_quiet_want; go_big_quiet_op; first | go_big_quiet_on | (apply Exists.intro; refine ⟨fun _ => ?_, ?_⟩; focus (fail); go_big_quiet_on))
            refine QN fun p => ?_; go_wp2_with fail; refine wp_region_quiet_rest (by kernel_rfl) (by kernel_rfl) ?_
            repeat
             first
              | go_big_quiet_skip
              | (go_big_quiet_want; go_big_quiet_op; first | go_big_quiet_on | (apply Exists.intro; refine ⟨fun _ => ?_, ?_⟩; focus (fail); go_big_quiet_on))
            refine QN fun p => ?_; go_wp2_with fail; exact bodyPost_ret (v := .bool false) (by simp [results, Tryz.results70, go_sem]) rfl ⟨rfl, bel _ _⟩
          · have p4b : decide (d.fd ≤ y.fd) = false := decide_eq_false p4; rw [show (decide (d.core < y.core) || (decide (y.core = d.core) && decide (d.fd ≤ y.fd))) = false by simp [p2, p4], if_neg (by decide)] at hre; subst hre; have hfc := HF.out; clear HF p3; rcases hfc with ⟨h2, hre⟩ | ⟨k2, x, bi, offi, hk2, hkl2, hai, iBi, m1, hre⟩
            · subst hre; go_wp2_with fail; refine wp_region_quiet_rest (by kernel_rfl) (by kernel_rfl) ?_
              repeat
               first
                | go_big_quiet_skip
                | (go_big_quiet_want; go_big_quiet_op; first | go_big_quiet_on | (apply Exists.intro; refine ⟨fun _ => ?_, ?_⟩; focus (fail); go_big_quiet_on))
              refine QN fun p => ?_; go_wp2_with fail; refine wp_region_quiet_rest (by kernel_rfl) (by kernel_rfl) ?_
              repeat
               first
                | go_big_quiet_skip
                | (go_big_quiet_want; go_big_quiet_op; first | go_big_quiet_on | (apply Exists.intro; refine ⟨fun _ => ?_, ?_⟩; focus (fail); go_big_quiet_on))
              refine QN fun p => ?_; go_wp2_with ((go_at_call 102; refine aT (hfn _ (bel _ _)) fun p => ?_))
              exact bodyPost_ret (v := .bool false) (by simp [results, Tryz.results70, go_sem]) rfl ⟨rfl, bel _ _⟩
            · subst hk2; subst hai; by_cases hd : x.dir = true
              · rw [if_pos hd] at hre; rw [hd] at m1; subst hre; go_wp2_with fail; refine wp_region_quiet_rest (by kernel_rfl) (by kernel_rfl) ?_
                repeat
                 first
                  | go_big_quiet_skip
                  | (go_big_quiet_want; go_big_quiet_op; first | go_big_quiet_on | (apply Exists.intro; refine ⟨fun _ => ?_, ?_⟩; focus (fail); go_big_quiet_on))
                refine QN fun p => ?_; go_wp2_with fail; refine wp_region_quiet_rest (by kernel_rfl) (by kernel_rfl) ?_
                repeat
                 first
                  | go_big_quiet_skip
                  | (go_big_quiet_want; go_big_quiet_op; first | go_big_quiet_on | (apply Exists.intro; refine ⟨fun _ => ?_, ?_⟩; focus (fail); go_big_quiet_on))
                refine QN fun p => ?_; go_wp2_with ((go_at_call 102; refine aT (hfn _ (bel _ _)) fun p => ?_))
                exact bodyPost_ret (v := .bool false) (by simp [results, Tryz.results70, go_sem]) rfl ⟨rfl, bel _ _⟩
              · rw [if_neg hd] at hre; have hd : x.dir = false := by simpa using hd
                rw [hd] at m1; have HRE := Lib.hid hre; clear hre hd; go_wp2_with fail; refine wp_region_quiet_rest (by kernel_rfl) (by kernel_rfl) ?_
                repeat
                 first
                  | go_big_quiet_skip
                  | (go_big_quiet_want; go_big_quiet_op; first | go_big_quiet_on | (apply Exists.intro; refine ⟨fun _ => ?_, ?_⟩; focus (fail); go_big_quiet_on))
                refine QN fun p => ?_; go_wp2_with fail; refine wp_region_quiet_rest (by kernel_rfl) (by kernel_rfl) ?_
                repeat
                 first
                  | go_big_quiet_skip
                  | (go_big_quiet_want; go_big_quiet_op; first | go_big_quiet_on | (apply Exists.intro; refine ⟨fun _ => ?_, ?_⟩; focus (fail); go_big_quiet_on))
                refine QN fun p => ?_; go_wp2_with ((go_at_call 102; refine aT (hfn _ (bel _ _)) fun p => ?_))
                go_roundw
                case rel => exact ⟨q + 1, by go_num, by omega, by rw [HPD.out]; exact HRE.out, bel _ _⟩
                case measure => simp [intOf]; omega
        · have p3b : (y.core == d.core) = false := by simpa using p3
          rw [show (decide (d.core < y.core) || (decide (y.core = d.core) && decide (d.fd ≤ y.fd))) = false by simp [p2, p3], if_neg (by decide)] at hre; subst hre; have hfc := HF.out; clear HF p3; rcases hfc with ⟨h2, hre⟩ | ⟨k2, x, bi, offi, hk2, hkl2, hai, iBi, m1, hre⟩
          · subst hre; go_wp2_with fail; refine wp_region_quiet_rest (by kernel_rfl) (by kernel_rfl) ?_
            repeat
             first
              | go_big_quiet_skip
              | (go_big_quiet_want; go_big_quiet_op; first | go_big_quiet_on | (apply Exists.intro; refine ⟨fun _ => ?_, ?_⟩; focus (fail); go_big_quiet_on))
            refine QN fun p => ?_; go_wp2_with fail; refine wp_region_quiet_rest (by kernel_rfl) (by kernel_rfl) ?_
            repeat
             first
              | go_big_quiet_skip
              | (go_big_quiet_want; go_big_quiet_op; first | go_big_quiet_on | (apply Exists.intro; refine ⟨fun _ => ?_, ?_⟩; focus (fail); go_big_quiet_on))
            refine QN fun p => ?_; go_wp2_with ((go_at_call 102; refine aT (hfn _ (bel _ _)) fun p => ?_))
            exact bodyPost_ret (v := .bool false) (by simp [results, Tryz.results70, go_sem]) rfl ⟨rfl, bel _ _⟩
          · subst hk2; subst hai; by_cases hd : x.dir = true
            · rw [if_pos hd] at hre; rw [hd] at m1; subst hre; go_wp2_with fail; refine wp_region_quiet_rest (by kernel_rfl) (by kernel_rfl) ?_
              repeat
               first
                | go_big_quiet_skip
                | (go_big_quiet_want; go_big_quiet_op; first | go_big_quiet_on | (apply Exists.intro; refine ⟨fun _ => ?_, ?_⟩; focus (fail); go_big_quiet_on))
              refine QN fun p => ?_; go_wp2_with fail; refine wp_region_quiet_rest (by kernel_rfl) (by kernel_rfl) ?_
              repeat
               first
                | go_big_quiet_skip
                | (go_big_quiet_want; go_big_quiet_op; first | go_big_quiet_on | (apply Exists.intro; refine ⟨fun _ => ?_, ?_⟩; focus (fail); go_big_quiet_on))
              refine QN fun p => ?_; go_wp2_with ((go_at_call 102; refine aT (hfn _ (bel _ _)) fun p => ?_))
              exact bodyPost_ret (v := .bool false) (by simp [results, Tryz.results70, go_sem]) rfl ⟨rfl, bel _ _⟩
            · rw [if_neg hd] at hre; have hd : x.dir = false := by simpa using hd
              rw [hd] at m1; have HRE := Lib.hid hre; clear hre hd; go_wp2_with fail; refine wp_region_quiet_rest (by kernel_rfl) (by kernel_rfl) ?_
              repeat
               first
                | go_big_quiet_skip
                | (go_big_quiet_want; go_big_quiet_op; first | go_big_quiet_on | (apply Exists.intro; refine ⟨fun _ => ?_, ?_⟩; focus (fail); go_big_quiet_on))
              refine QN fun p => ?_; go_wp2_with fail; refine wp_region_quiet_rest (by kernel_rfl) (by kernel_rfl) ?_
              repeat
               first
                | go_big_quiet_skip
                | (go_big_quiet_want; go_big_quiet_op; first | go_big_quiet_on | (apply Exists.intro; refine ⟨fun _ => ?_, ?_⟩; focus (fail); go_big_quiet_on))
              refine QN fun p => ?_; go_wp2_with ((go_at_call 102; refine aT (hfn _ (bel _ _)) fun p => ?_))
              go_roundw
              case rel => exact ⟨q + 1, by go_num, by omega, by rw [HPD.out]; exact HRE.out, bel _ _⟩
              case measure => simp [intOf]; omega
  · rw [List.drop_of_length_le (by omega)] at hre; have HRe : true = R := by rw [← hre]; rfl
    subst HRe; clear hf hre; go_wp2_with fail; exact bodyPost_ret (v := .bool true) (by simp [results, Tryz.results70, go_sem]) rfl ⟨rfl, bel _ _⟩
end Go.Proofs.YtmkapobnfigedaaGreatDoor
