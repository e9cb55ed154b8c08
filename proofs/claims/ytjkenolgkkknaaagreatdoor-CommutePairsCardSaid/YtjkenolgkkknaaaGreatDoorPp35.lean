/- Part of the proof that the named pairs of calls commute. Conditions: none. -/
import Derived.Test.YtjkenolgkkknaaaGreatDoorPp33
set_option linter.unusedVariables false
set_option linter.unusedSimpArgs false
set_option maxRecDepth 100000
set_option maxHeartbeats 8000000
namespace Go.Proofs.YtjkenolgkkknaaaGreatDoor
open Go.RowKit
theorem ref15 (S S' : PSt) (iv ov mv : Value) (kd core fd off nu r : Int) (pt p2 dt : ByteArray) (w : World) (h : StRead w iv ov mv S)
 (hin : ∀ ww, Below w.heap.size w ww → Calls Tryz.prog 34 #[.agg #[iv, ov, mv], .agg #[.int .i64 kd, .int .i64 core, .int .i64 fd, .int .i64 off, .int .i64 nu, .string pt, .string p2, .string dt], .int .i64 (-1)] ww fun e w' => ∃ iv' ov' mv', e = .returned (.tuple #[.agg #[iv', ov', mv'], resV 0 0 r, .bool true]) ∧ Below ww.heap.size ww w' ∧ StOwn ww.heap.size w' iv' ov' mv' S') :
 Calls Tryz.prog 15 #[.agg #[iv, ov, mv], .agg #[.int .i64 kd, .int .i64 core, .int .i64 fd, .int .i64 off, .int .i64 nu, .string pt, .string p2, .string dt]] w fun e w' => ∃ iv' ov' mv', e = .returned (.tuple #[.agg #[iv', ov', mv'], resV 0 0 r]) ∧ Below w.heap.size w w' ∧ StOwn w.heap.size w' iv' ov' mv' S' := by
 obtain ⟨ai, ni, ci, ao, no, co, am, nm, cm, rfl, rfl, rfl⟩ := h.slices
 clear h
 simp only [resV] at hin ⊢
 go_enter Tryz.func15, Tryz.ntmps15
 go_upto_region 2 with (go_at_call 34; (with_reducible refine (hin _ (bel _ _)).mono ?_); rintro e w1 ⟨iv1, ov1, mv1, rfl, hb1, hs1⟩; obtain ⟨a1, a2, a3, a4, a5, a6, a7, a8, a9, rfl, rfl, rfl⟩ := hs1.forms; obtain ⟨p, rfl⟩ := hb1.rest; have H1 := Lib.hid (hs1.mono (B' := w.heap.size + 1 + 1 + 1 + 1) (by simp)); clear hs1 hb1)
 refine abs_world (F := fun W => StOwn (w.heap.size + 1 + 1 + 1 + 1) W (.slice a1 a2 a3) (.slice a4 a5 a6) (.slice a7 a8 a9) S' ∧ Blk W (w.heap.size + 1 + 1 + 1 + 1 + p.len) #[.slice a1 a2 a3, .slice a4 a5 a6, .slice a7 a8 a9] 27 ∧ Blk W (w.heap.size + 1 + 1 + 1 + 1 + p.len + 1) #[.int .i64 0, .int .i64 0, .int .i64 r, .bool false, .string { data := #[] }, .slice none 0 0] 46 ∧ Blk W (w.heap.size + 1 + 1) #[.slice none 0 0, .slice none 0 0, .slice none 0 0] 27 ∧ Blk W (w.heap.size + 1 + 1 + 1) #[.int .i64 0, .int .i64 0, .int .i64 0, .bool false, .string { data := #[] }, .slice none 0 0] 46 ∧ Below w.heap.size w W) ⟨H1.out.on (bel _ _), Blk.alloc (Blk.new_i _ _ _ _) _, Blk.new_i _ _ _ _, blk_on (Blk.new_i ((w.alloc (.cells #[.slice ai ni ci, .slice ao no co, .slice am nm cm] 27)).alloc (.cells #[.int .i64 kd, .int .i64 core, .int .i64 fd, .int .i64 off, .int .i64 nu, .string pt, .string p2, .string dt] 29)) #[.slice none 0 0, .slice none 0 0, .slice none 0 0] 27 (w.heap.size + 1 + 1)) (bel _ _), blk_on (Blk.new_i (((w.alloc (.cells #[.slice ai ni ci, .slice ao no co, .slice am nm cm] 27)).alloc (.cells #[.int .i64 kd, .int .i64 core, .int .i64 fd, .int .i64 off, .int .i64 nu, .string pt, .string p2, .string dt] 29)).alloc (.cells #[.slice none 0 0, .slice none 0 0, .slice none 0 0] 27)) #[.int .i64 0, .int .i64 0, .int .i64 0, .bool false, .string { data := #[] }, .slice none 0 0] 46 (w.heap.size + 1 + 1 + 1)) (bel _ _), bel w _⟩ ?_
 clear H1 hin
 obtain ⟨b, hbn⟩ : ∃ b, w.heap.size + 1 + 1 + 1 + 1 + p.len = b := ⟨_, rfl⟩
 have hbl : w.heap.size + 1 + 1 + 1 + 1 ≤ b := by omega
 rw [hbn]
 clear hbn
 rintro W' ⟨ho, hb, hr, hN, hR, hbw⟩
 have iB := hb.lt
 have iR := hr.lt
 have iN := hN.lt
 have iS := hR.lt
 have d0 := hb.cell 0
 have d1 := hb.cell 1
 have d2 := hb.cell 2
 have g0 := hr.cell 0
 have g1 := hr.cell 1
 have g2 := hr.cell 2
 have g3 := hr.cell 3
 have g4 := hr.cell 4
 have g5 := hr.cell 5
 have u0 := hN.cell 0
 have u1 := hN.cell 1
 have u2 := hN.cell 2
 have fu0 := hN.frozen 0
 have fu1 := hN.frozen 1
 have fu2 := hN.frozen 2
 have v0 := hR.cell 0
 have v1 := hR.cell 1
 have v2 := hR.cell 2
 have v3 := hR.cell 3
 have v4 := hR.cell 4
 have v5 := hR.cell 5
 have fv0 := hR.frozen 0
 have fv1 := hR.frozen 1
 have fv2 := hR.frozen 2
 have fv3 := hR.frozen 3
 have fv4 := hR.frozen 4
 have fv5 := hR.frozen 5
 simp at d0 d1 d2 g0 g1 g2 g3 g4 g5 u0 u1 u2 v0 v1 v2 v3 v4 v5
 have n1 : ¬ b = w.heap.size + 1 + 1 := by omega
 have n2 : ¬ b = w.heap.size + 1 + 1 + 1 := by omega
 have n3 : ¬ b + 1 = w.heap.size + 1 + 1 := by omega
 have n4 : ¬ b + 1 = w.heap.size + 1 + 1 + 1 := by omega
 have n5 : ¬ w.heap.size + 1 + 1 = w.heap.size + 1 + 1 + 1 := by omega
 have n6 : ¬ w.heap.size + 1 + 1 + 1 = w.heap.size + 1 + 1 := by omega
 have n7 : ¬ w.heap.size + 1 + 1 = b := by omega
 have n8 : ¬ w.heap.size + 1 + 1 + 1 = b := by omega
 have n9 : ¬ w.heap.size + 1 + 1 = b + 1 := by omega
 have n10 : ¬ w.heap.size + 1 + 1 + 1 = b + 1 := by omega
 have HZ := Lib.hid (And.intro ho (And.intro hN (And.intro hR hbw)))
 clear ho hb hr hN hR hbw
 refine wp_region_eff [2, 3] true (fun w' => w'.cell? ⟨b, 0, none⟩ = some (.slice a1 a2 a3) ∧ w'.cell? ⟨b, 1, none⟩ = some (.slice a4 a5 a6) ∧ w'.cell? ⟨b, 2, none⟩ = some (.slice a7 a8 a9) ∧ w'.cell? ⟨b + 1, 0, none⟩ = some (.int .i64 0) ∧ w'.cell? ⟨b + 1, 1, none⟩ = some (.int .i64 0) ∧ w'.cell? ⟨b + 1, 2, none⟩ = some (.int .i64 r) ∧ w'.cell? ⟨b + 1, 3, none⟩ = some (.bool false) ∧ w'.cell? ⟨b + 1, 4, none⟩ = some (.string { data := #[] }) ∧ w'.cell? ⟨b + 1, 5, none⟩ = some (.slice none 0 0)) (by kernel_rfl) (by kernel_rfl) ?_ ?_
 · (try dsimp only); (repeat' apply And.intro) <;> go_simp
 repeat
  refine wpL_look rfl rfl ?_; apply Exists.intro; refine ⟨?_, ?_⟩
  focus
   rintro w' ⟨s0, s1, s2, s3, s4, s5, s6, s7, s8⟩; go_simp
   first | done | rfl
  simp only [Act.put, sA, sZ, sS]
 refine wpL_skip rfl rfl ?_
 apply Exists.intro
 refine ⟨?_, ?_, ?_⟩
 focus
  go_simp
  first | done | rfl
 focus
  refine .inl ?_
  (try dsimp only); (repeat' apply And.intro) <;> go_simp
 simp only [Act.put, sA, sZ, sS]
 refine wpL_skip rfl rfl ?_
 apply Exists.intro
 refine ⟨?_, ?_, ?_⟩
 focus
  go_simp
  first | done | rfl
 focus
  exact .inr ⟨rfl, rfl⟩
 simp only [Act.put, sA, sZ, sS]
 refine wpL_end ?_
 go_wp2_with fail
 have hK := keep9 (wz := W') (q := w.heap.size + 1 + 1) (r := w.heap.size + 1 + 1 + 1) (c0 := .slice a1 a2 a3) (c1 := .slice a4 a5 a6) (c2 := .slice a7 a8 a9) (a0 := .int .i64 0) (a1 := .int .i64 0) (a2 := .int .i64 r) (a3 := .bool false) (a4 := .string { data := #[] }) (a5 := .slice none 0 0)
 have hfin := HZ.out.1.keep hK (fun g hg => by
  rcases hg with rfl | rfl
  · exact ⟨_, 27, HZ.out.2.1, by decide, by decide, by decide, by decide⟩
  · exact ⟨_, 46, HZ.out.2.2.1, by decide, by decide, by decide, by decide⟩)
 have hbf := HZ.out.2.2.2.trans (hK.below HZ.out.2.2.2.size (fun i hi e => by omega))
 exact bodyPost_ret (v := .tuple #[.agg #[.slice a1 a2 a3, .slice a4 a5 a6, .slice a7 a8 a9], resV 0 0 r]) (by unfold results; simp only [Tryz.results15, resV]; go_simp) rfl ⟨_, _, _, rfl, hbf, hfin.mono (by omega)⟩
def RDid (S : PSt) (kd core fd off nu : Int) (pt p2 dt : ByteArray) (S' : PSt) (r : Int) : Prop :=
 ∀ (w : World) (iv ov mv : Value), StRead w iv ov mv S → Calls Tryz.prog 15 #[.agg #[iv, ov, mv], .agg #[.int .i64 kd, .int .i64 core, .int .i64 fd, .int .i64 off, .int .i64 nu, .string pt, .string p2, .string dt]] w fun e w' => ∃ iv' ov' mv', e = .returned (.tuple #[.agg #[iv', ov', mv'], resV 0 0 r]) ∧ Below w.heap.size w w' ∧ StOwn w.heap.size w' iv' ov' mv' S'
theorem r_make {S : PSt} {kd fd off nu : Int} {p2 dt : ByteArray} {ch : UInt8} {x : PIn} {k : Nat} {m : Int} (hkd : kd = 0 ∨ kd = 1) (hgo : goodB S = true) (hg : mayG S = true) (hr : rootB S = true) (hx : S.ins[0]? = some x) (hch : ch ≠ 47) (hck : checkR (n1 ch) = 0)
 (hent : entryR S 1 (n1 ch) = 0) (hful : decide (4 ≤ fullF (bucketR (n1 ch)) { data := #[] } x.ents 0) = false) (hes : ∀ e ∈ x.ents, e.name.size ≤ 1000000000) (hm : S.made[k]? = some m) (hm0 : 0 ≤ m ∧ m < 32) (hk8 : k < 8) :
 RDid S kd k fd off nu (p1 ch) p2 dt (mk1 S x (n1 ch) k m (kd == 1)) 0 := by
 intro w iv ov mv h
 obtain ⟨hkl, -⟩ := gI.1 hm
 refine ref15 S _ iv ov mv kd k fd off nu 0 (p1 ch) p2 dt w h (fun ww hb => ?_)
 have h' := h.below hb (Nat.le_refl _)
 rcases hkd with rfl | rfl
 · exact do34_0 S _ iv ov mv k fd off nu 0 (p1 ch) p2 dt ww h' (good_wf hgo).1 hg (by omega) (by omega) (fun B b iv' ov' mv' w3 k1 k2 k3 k4 => make56 B b S iv' ov' mv' 0 fd off nu p2 dt ch x k m w3 k1 k2 k3 k4 (good_wf hgo).1 hr hx hch hck hent hful hes hm hm0 hk8)
 · exact do34_1 S _ iv ov mv k fd off nu 0 (p1 ch) p2 dt ww h' (good_wf hgo).1 hg (by omega) (by omega) (fun B b iv' ov' mv' w3 k1 k2 k3 k4 => make56 B b S iv' ov' mv' 1 fd off nu p2 dt ch x k m w3 k1 k2 k3 k4 (good_wf hgo).1 hr hx hch hck hent hful hes hm hm0 hk8)
theorem r_open {S : PSt} {core fd off nu : Int} {p2 dt : ByteArray} {ch : UInt8} {num : Int} {K : Nat} {x : PIn} (hgo : goodB S = true) (hg : mayG S = true) (hr : rootB S = true) (hch : ch ≠ 47) (hck : checkR (n1 ch) = 0) (hc0 : 0 ≤ core) (hc1 : core < S.made.length)
 (hent : entryR S 1 (n1 ch) = num) (hn0 : num ≠ 0) (hat : atR S num = K) (hx : S.ins[K]? = some x) (hd : x.dir = false) (hfd : ∀ i : Int, 0 ≤ i → i ≤ 3 → fdR S core i = 0) :
 RDid S 2 core fd off nu (p1 ch) p2 dt { S with op := insF (aheadD core 0) ⟨core, 0, num⟩ S.op false [] } 0 := by
 intro w iv ov mv h
 refine ref15 S _ iv ov mv 2 core fd off nu 0 (p1 ch) p2 dt w h (fun ww hb => ?_)
 exact do34_2 S _ iv ov mv core fd off nu 0 (p1 ch) p2 dt ww (h.below hb (Nat.le_refl _)) (good_wf hgo).1 hg hc0 hc1 (fun B b iv' ov' mv' w3 k1 k2 k3 k4 => opened57 B b S iv' ov' mv' 2 core fd off nu p2 dt ch num K x w3 k1 k2 k3 k4 (good_wf hgo).1 hr hch hck hent hn0 hat hx hd hfd)
theorem r_write {S : PSt} {core fd nu : Int} {pt p2 : ByteArray} {num : Int} {K : Nat} {x : PIn} (hgo : goodB S = true) (hg : mayG S = true) (hc0 : 0 ≤ core) (hc1 : core < S.made.length) (hfd : fdR S core fd = num) (hn0 : num ≠ 0) (hat : atR S num = K) (hx : S.ins[K]? = some x) (hdt : x.data = { data := #[] }) :
 RDid S 5 core fd 0 nu pt p2 z200 { S with ins := S.ins.set K { x with data := z200 } } 200 := by
 intro w iv ov mv h
 refine ref15 S _ iv ov mv 5 core fd 0 nu 200 pt p2 z200 w h (fun ww hb => ?_)
 exact do34_5 S _ iv ov mv core fd 0 nu 200 pt p2 z200 ww (h.below hb (Nat.le_refl _)) (good_wf hgo).1 hg hc0 hc1 (fun B b iv' ov' mv' w3 k1 k2 k3 k4 => write58 B b S iv' ov' mv' core fd nu pt p2 num K x w3 k1 k2 k3 k4 (good_wf hgo).1 hfd hn0 hat hx hdt)
def nil : ByteArray := ⟨#[]⟩
def q1 : PSt := mk1 s2 ⟨1, true, [], ⟨#[]⟩⟩ (n1 120) 0 0 false
def q2 : PSt := { q1 with op := insF (aheadD 0 0) ⟨0, 0, 2⟩ q1.op false [] }
def q3 : PSt := { q2 with op := insF (aheadD 1 0) ⟨1, 0, 2⟩ q2.op false [] }
def q4 : PSt := { q3 with ins := q3.ins.set 1 ⟨2, false, [], z200⟩ }
def q5 : PSt := mk1 q4 ⟨1, true, [⟨⟨#[120]⟩, 2⟩], ⟨#[]⟩⟩ (n1 100) 0 1 true
def q6 : PSt := mk1 q5 ⟨1, true, [⟨⟨#[100]⟩, 10⟩, ⟨⟨#[120]⟩, 2⟩], ⟨#[]⟩⟩ (n1 101) 1 0 true
theorem q6_ : q6 = s6 := by kernel_rfl
theorem fds {S : PSt} {core : Int} (h0 : fdR S core 0 = 0) (h1 : fdR S core 1 = 0) (h2 : fdR S core 2 = 0) (h3 : fdR S core 3 = 0) : ∀ i : Int, 0 ≤ i → i ≤ 3 → fdR S core i = 0 := by
 intro i a b
 have : i = 0 ∨ i = 1 ∨ i = 2 ∨ i = 3 := by omega
 rcases this with rfl | rfl | rfl | rfl <;> assumption
theorem small_ {es : List PEnt} (h : (es.all fun e => e.name.size.ble 1000) = true) : ∀ e ∈ es, e.name.size ≤ 1000000000 := by
 intro e he
 have := Nat.le_of_ble_eq_true (List.all_eq_true.1 h e he)
 omega
theorem d1 : RDid s2 0 0 0 0 0 ⟨#[47, 120]⟩ nil nil q1 0 := r_make (k := 0) (.inl rfl) g0 (by kernel_rfl) (by kernel_rfl) (by kernel_rfl) (by decide) (by kernel_rfl) (by kernel_rfl) (by kernel_rfl) (small_ (by kernel_rfl)) (by kernel_rfl) (by omega) (by omega)
theorem d2 : RDid q1 2 0 0 0 0 ⟨#[47, 120]⟩ nil nil q2 0 := r_open (K := 1) (x := ⟨2, false, [], ⟨#[]⟩⟩) (by kernel_rfl) (by kernel_rfl) (by kernel_rfl) (by decide) (by kernel_rfl) (by omega) (by show (0 : Int) < ((2 : Nat) : Int); omega) (by kernel_rfl) (by omega) (by kernel_rfl) (by kernel_rfl) rfl (fds (by kernel_rfl) (by kernel_rfl) (by kernel_rfl) (by kernel_rfl))
theorem d3 : RDid q2 2 1 0 0 0 ⟨#[47, 120]⟩ nil nil q3 0 := r_open (K := 1) (x := ⟨2, false, [], ⟨#[]⟩⟩) (by kernel_rfl) (by kernel_rfl) (by kernel_rfl) (by decide) (by kernel_rfl) (by omega) (by show (1 : Int) < ((2 : Nat) : Int); omega) (by kernel_rfl) (by omega) (by kernel_rfl) (by kernel_rfl) rfl (fds (by kernel_rfl) (by kernel_rfl) (by kernel_rfl) (by kernel_rfl))
theorem d4 : RDid q3 5 0 0 0 0 nil nil z200 q4 200 := r_write (num := 2) (K := 1) (x := ⟨2, false, [], ⟨#[]⟩⟩) (by kernel_rfl) (by kernel_rfl) (by omega) (by show (0 : Int) < ((2 : Nat) : Int); omega) (by kernel_rfl) (by omega) (by kernel_rfl) (by kernel_rfl) rfl
theorem d5 : RDid q4 1 0 0 0 0 ⟨#[47, 100]⟩ nil nil q5 0 := r_make (k := 0) (.inr rfl) (by kernel_rfl) (by kernel_rfl) (by kernel_rfl) (by kernel_rfl) (by decide) (by kernel_rfl) (by kernel_rfl) (by kernel_rfl) (small_ (by kernel_rfl)) (by kernel_rfl) (by omega) (by omega)
theorem d6 : RDid q5 1 1 0 0 0 ⟨#[47, 101]⟩ nil nil s6 0 := by
 rw [← q6_]
 exact r_make (k := 1) (.inr rfl) (by kernel_rfl) (by kernel_rfl) (by kernel_rfl) (by kernel_rfl) (by decide) (by kernel_rfl) (by kernel_rfl) (by kernel_rfl) (small_ (by kernel_rfl)) (by kernel_rfl) (by omega) (by omega)
end Go.Proofs.YtjkenolgkkknaaaGreatDoor
