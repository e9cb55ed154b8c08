/- A call as data; the doer; at, file, may. Conditions: none. -/
import Derived.Test.YtmkapobnfigedaaGreatDoorEl13
import Derived.Test.YtmkapobnfigedaaGreatDoorEl14
set_option linter.unusedVariables false
set_option linter.unusedSimpArgs false
namespace Go.Proofs.YtmkapobnfigedaaGreatDoor
open Go.RowKit
structure PCall where
 kind : Int
 core : Int
 fd : Int
 off : Int
 num : Int
 path : ByteArray
 path2 : ByteArray
 data : ByteArray
deriving DecidableEq
def PCall.cells (c : PCall) : List Value := [.int .i64 c.kind, .int .i64 c.core, .int .i64 c.fd, .int .i64 c.off, .int .i64 c.num, .string c.path, .string c.path2, .string c.data]
def PCall.val (c : PCall) : Value := .agg #[.int .i64 c.kind, .int .i64 c.core, .int .i64 c.fd, .int .i64 c.off, .int .i64 c.num, .string c.path, .string c.path2, .string c.data]
def PCall.wf (c : PCall) : Prop := I64 c.kind ∧ I64 c.core ∧ I64 c.fd ∧ I64 c.off ∧ I64 c.num
structure DR (w : World) (d b : Nat) (S : PSt) (c : PCall) : Prop where
 lt : d < w.heap.size
 d0 : w.cell? ⟨d, 0, none⟩ = some (.pointer (some ⟨b, 0, none⟩))
 dc : ∀ (t : Nat) (u : Value), c.cells[t]? = some u → w.cell? ⟨d, 1 + t, none⟩ = some u
 sp : SP w b S
theorem DR.below {w w' : World} {d b B : Nat} {S : PSt} {c : PCall} (h : DR w d b S c) (hb : Below B w w') (hB : w.heap.size ≤ B) : DR w' d b S c := by
 have hs := hb.size
 have hl := h.lt
 exact ⟨by omega, (hb.cell (p := ⟨d, 0, none⟩) (by show d < B; omega)).trans h.d0, fun t u hu => (hb.cell (p := ⟨d, 1 + t, none⟩) (by show d < B; omega)).trans (h.dc t u hu), h.sp.below hb hB⟩
structure Fine (S : PSt) : Prop where
 wf : S.wf
 pos : 0 < S.ins.length
 find : ∀ x ∈ S.ins, ∀ e ∈ x.ents, 0 ≤ findN S.nums e.num
 opens : ∀ d ∈ S.op, 0 ≤ findN S.nums d.num
theorem descB_find (S : PSt) : ∀ (ds : List PDesc) (p : Option PDesc), descB S p ds = true → ∀ d ∈ ds, 0 ≤ findN S.nums d.num
 | [], _, _, d, hd => by simp at hd
 | x :: ds, p, h, d, hd => by
   unfold descB at h
   split at h
   · simp at h
   split at h
   · simp at h
   split at h
   · simp at h
   split at h
   · simp at h
   split at h
   · simp at h
   split at h
   · simp at h
   rename_i h6
   rcases List.mem_cons.1 hd with rfl | hd
   · omega
   · split at h
     · split at h
       · simp at h
       · exact descB_find S ds _ h d hd
     · simp at h
theorem fine_of_may {S : PSt} (hwf : S.wf) (h : mayM S = true) : Fine S := by
 unfold mayM at h
 split at h
 · rename_i h1
   simp only [Bool.and_eq_true] at h1; exact ⟨hwf, (may_len h1.1.1 h1.1.2).1, mayIns_find h1.1.2, descB_find S _ _ h1.2⟩
 · simp at h
theorem walkM_lt {S : PSt} (hf : Fine S) : ∀ (ns : List ByteArray) (k : Nat), k < S.ins.length → (walkM S k ns).1 < S.ins.length
 | [], k, hk => hk
 | n :: r, k, hk => by
   unfold walkM; rw [List.getElem?_eq_getElem hk]; simp only
   split
   · split
     · split
       · rename_i e he
         have h0 := hf.find S.ins[k] (List.getElem_mem hk) e (List.mem_of_getElem? he); have hb := findN_bounds S.nums e.num; have hnl : S.nums.length = S.ins.length := by unfold PSt.nums; rw [List.length_map]
         exact walkM_lt hf r _ (by omega)
       · exact hf.pos
     · exact hf.pos
   · exact hf.pos
def AtOut (w : World) (b : Nat) (S : PSt) (K : Nat) (C : Int) (e : Ending) : Prop :=
 (C = 0 ∧ ∃ bi off cap, w.cell? ⟨b, 0, none⟩ = some (.slice (some ⟨bi, off, none⟩) S.ins.length cap) ∧ e = .returned (.pointer (some ⟨bi, off + K * 4, none⟩))) ∨ (C ≠ 0 ∧ e = thrown C)
set_option maxRecDepth 100000 in
set_option maxHeartbeats 2000000 in
theorem at122 (d b : Nat) (S : PSt) (c : PCall) (s : ByteArray) (w : World) (h : DR w d b S c) (hf : Fine S) (hp : (parseM s).1 = 0) (hpl : (parseM s).2.length ≤ 1000000000) :
 Calls Tryz.prog 178 #[.pointer (some ⟨d, 0, none⟩), .string s] w fun e w' => Below w.heap.size w w' ∧ AtOut w b S (walkM S 0 (parseM s).2).1 (walkM S 0 (parseM s).2).2 e := by
 have hpar : ∀ ww, Calls Tryz.prog 198 #[.string s] ww fun e w' => ∃ v, e = .returned v ∧ Below ww.heap.size ww w' ∧ RowAt w' 1 v ((parseM s).2.map fun n => [.string n]) := fun ww => by
  refine (parse150 s ww).mono ?_; intro e w' h; rcases h with ⟨_, v, h1, h2, h3⟩ | ⟨h, _⟩
  · exact ⟨v, h1, h2, h3⟩
  · exact absurd hp h
 have hwk : ∀ ww v, Below w.heap.size w ww → RowAt ww 1 v ((parseM s).2.map fun n => [.string n]) → Calls Tryz.prog 191 #[.pointer (some ⟨b, 0, none⟩), v] ww _ := fun ww v hb hv => walk151 b S (parseM s).2 v ww (h.sp.below hb (Nat.le_refl _)) hf.wf hf.pos hf.find hv hpl
 have hlt := walkM_lt hf (parseM s).2 0 hf.pos
 have hd0 := h.d0
 have iD : BlockLt d w := ⟨h.lt⟩
 obtain ⟨hl, iv, ov, mv, c0, c1, c2, hr⟩ := h.sp
 have iL : BlockLt b w := ⟨hl⟩
 obtain ⟨ai, capi, rfl, hati⟩ := hr.ins_at2
 obtain ⟨bi, offi, ev, rfl, -⟩ := hati 0 S.ins[0] (List.getElem?_eq_getElem hf.pos)
 generalize walkM S 0 (parseM s).2 = W at hwk hlt ⊢
 obtain ⟨K, C⟩ := W
 simp only at hwk hlt ⊢
 have HP := Lib.hid (And.intro hpar hwk)
 have hlen := hf.wf.1
 clear hpar hwk h hr hati c1 c2 hp hpl
 have hKI : (K : Int) < S.ins.length := by omega
 go_enter Tryz.func178, Tryz.ntmps178
 go_upto_region 1 with fail
 refine wp_region_eff [5, 6] false (fun w' => w'.cell? ⟨d, 0, none⟩ = some (.pointer (some ⟨b, 0, none⟩))) (by kernel_rfl) (by kernel_rfl) ?_ ?_
 · go_simp
 repeat
  refine wpL_look rfl rfl ?_; apply Exists.intro; refine ⟨?_, ?_⟩
  focus
   rintro w' s0; go_simp
   first | done | rfl
  simp only [Act.put, List.setIfInBounds_toArray, List.set_cons_zero, List.set_cons_succ]
 refine wpL_act rfl rfl ?_
 refine eff_call 198 #[.string s] ?hr ?_
 case hr =>
  go_simp
  first | done | rfl
 refine (HP.out.1 w.drew).mono ?_
 rintro e w1 ⟨v, rfl, hb1, hv1⟩
 have hbw : Below w.heap.size w w1 := (bel w w.drew).trans hb1
 have iB1 : Bel w w1 := ⟨hbw⟩
 have iD1 : BlockLt d w1 := ⟨by have := hbw.size; have := iD.lt; omega⟩
 have x0 : w1.cell? ⟨d, 0, none⟩ = some (.pointer (some ⟨b, 0, none⟩)) := (hbw.cell (p := ⟨d, 0, none⟩) iD.lt).trans hd0
 have hone := hv1.one
 refine ⟨_, rfl, .inl x0, ?_⟩
 simp only [Act.put, List.setIfInBounds_toArray, List.set_cons_zero, List.set_cons_succ]
 refine wpL_act rfl rfl ?_
 refine eff_call 191 #[.pointer (some ⟨b, 0, none⟩), v] ?hr2 ?_
 case hr2 =>
  go_simp
  first | done | rfl
 refine (HP.out.2 w1 v hbw hv1).mono ?_
 rintro e w2 ⟨rfl, hb2⟩
 have hbw2 : Below w.heap.size w w2 := hbw.trans (hb2.mono hbw.size)
 have iB2 : Bel w w2 := ⟨hbw2⟩
 have iD2 : BlockLt d w2 := ⟨by have := hbw2.size; have := iD.lt; omega⟩
 have iL2 : BlockLt b w2 := ⟨by have := hbw2.size; have := iL.lt; omega⟩
 have y0 : w2.cell? ⟨d, 0, none⟩ = some (.pointer (some ⟨b, 0, none⟩)) := (hbw2.cell (p := ⟨d, 0, none⟩) iD.lt).trans hd0
 have z0 : w2.cell? ⟨b, 0, none⟩ = some (.slice (some ⟨bi, offi, none⟩) S.ins.length capi) := (hbw2.cell (p := ⟨b, 0, none⟩) iL.lt).trans c0
 have HC0 := Lib.hid c0
 clear hv1 hb1 hb2 c0
 refine ⟨_, rfl, .inl y0, ?_⟩
 simp only [Act.put, List.setIfInBounds_toArray, List.set_cons_zero, List.set_cons_succ]
 repeat
  refine wpL_look rfl rfl ?_; apply Exists.intro; refine ⟨?_, ?_⟩
  focus
   rintro w' s0; go_simp
   first | done | rfl
  simp only [Act.put, List.setIfInBounds_toArray, List.set_cons_zero, List.set_cons_succ]
 refine wpL_end ?_
 by_cases hC : C = 0
 · subst hC; go_wp2_with ((go_at_call 172; refine (throw_no _ _).mono ?_; rintro e w' ⟨rfl, hb⟩; obtain ⟨p, rfl⟩ := hb.rest; clear hb))
   go_ret; exact ⟨bel w _, .inl ⟨rfl, _, _, _, HC0.out, rfl⟩⟩
 · have hcb : (C != 0) = true := by simpa using hC
   go_wp2_with ((go_at_call 172; refine (throw_yes _ _).mono ?_; rintro e w' ⟨rfl, hb⟩; obtain ⟨p, rfl⟩ := hb.rest; clear hb))
   exact ⟨rfl, bel w _, .inr ⟨hC, rfl⟩⟩
def maycM (S : PSt) (c : PCall) : Bool := decide (0 ≤ c.kind) && decide (c.kind ≤ 16) && decide (0 ≤ c.core) && decide (c.core < S.made.length) && mayM S
set_option maxRecDepth 100000 in
set_option maxHeartbeats 2000000 in
theorem may38 (b k : Nat) (S : PSt) (c : PCall) (w : World) (h : SP w b S) (hwf : S.wf) (hk : k < w.heap.size) (hc : ∀ (t : Nat) (u : Value), c.cells[t]? = some u → w.cell? ⟨k, t, none⟩ = some u) :
 Calls Tryz.prog 105 #[.pointer (some ⟨b, 0, none⟩), .pointer (some ⟨k, 0, none⟩)] w fun e w' => e = .returned (.bool (maycM S c)) ∧ Below w.heap.size w w' := by
 have iK : BlockLt k w := ⟨hk⟩
 have k0 := hc 0 _ rfl
 have k1 := hc 1 _ rfl
 obtain ⟨hl, iv, ov, mv, c0, c1, c2, hr⟩ := h
 have iL : BlockLt b w := ⟨hl⟩
 have hmay : ∀ ww, Below w.heap.size w ww → Calls Tryz.prog 39 #[.agg #[iv, ov, mv]] ww _ := fun ww hb => may37 iv ov mv S ww (hr.below hb (Nat.le_refl _)) hwf
 have hio : iv.oneCell' = true := by obtain ⟨_, _, _, h3, _⟩ := hr; exact h3.one
 have hoo := hr.1.one
 obtain ⟨am, cm, rfl, -⟩ := hr.2.1
 rw [List.length_map] at c2 hmay
 unfold maycM
 generalize mayM S = M at hmay ⊢
 clear hr hc hwf
 by_cases g1 : 0 ≤ c.kind
 · have b1 : decide (0 ≤ c.kind) = true := decide_eq_true g1; by_cases g2 : c.kind ≤ 16
   · have b2 : decide (c.kind ≤ 16) = true := decide_eq_true g2; by_cases g3 : 0 ≤ c.core
     · have b3 : decide (0 ≤ c.core) = true := decide_eq_true g3; by_cases g4 : c.core < S.made.length
       · have b4 : decide (c.core < (S.made.length : Int)) = true := decide_eq_true g4; simp only [b1, b2, b3, b4, Bool.true_and]
         go_enter Tryz.func105, Tryz.ntmps105
         go_wp2_with fail; refine wp_region_quiet_rest (by kernel_rfl) (by kernel_rfl) ?_
         repeat
          first
           | go_big_quiet_skip
           | (go_big_quiet_want; go_big_quiet_op; first | go_big_quiet_on | (apply Exists.intro; refine ⟨fun _ => ?_, ?_⟩; (focus ((refine calls_in (hmay _ (bel _ _)) (fun w' hb => ?_); first | exact hb.rest | exact rest1 hb | exact rest2 hb))); go_big_quiet_on))
         refine wpQuiet_nil ?_; intro w1 hw1; obtain ⟨p, hw1⟩ := hw1; subst hw1; go_wp2_with fail; go_ret; exact ⟨rfl, bel _ _⟩
       · have b4 : decide (c.core < (S.made.length : Int)) = false := decide_eq_false g4; simp only [b1, b2, b3, b4, Bool.true_and, Bool.false_and]
         go_enter Tryz.func105, Tryz.ntmps105
         go_wp2_with fail; refine wp_region_quiet_rest (by kernel_rfl) (by kernel_rfl) ?_
         repeat
          first
           | go_big_quiet_skip
           | (go_big_quiet_want; go_big_quiet_op; first | go_big_quiet_on | (apply Exists.intro; refine ⟨fun _ => ?_, ?_⟩; (focus (fail)); go_big_quiet_on))
         refine wpQuiet_nil ?_; intro w1 hw1; obtain ⟨p, hw1⟩ := hw1; subst hw1; go_wp2_with fail; go_ret; exact ⟨rfl, bel _ _⟩
     · have b3 : decide (0 ≤ c.core) = false := decide_eq_false g3; simp only [b1, b2, b3, Bool.true_and, Bool.false_and]
       go_enter Tryz.func105, Tryz.ntmps105
       go_wp2_with fail; refine wp_region_quiet_rest (by kernel_rfl) (by kernel_rfl) ?_
       repeat
        first
         | go_big_quiet_skip
         | (go_big_quiet_want; go_big_quiet_op; first | go_big_quiet_on | (apply Exists.intro; refine ⟨fun _ => ?_, ?_⟩; (focus (fail)); go_big_quiet_on))
       refine wpQuiet_nil ?_; intro w1 hw1; obtain ⟨p, hw1⟩ := hw1; subst hw1; go_wp2_with fail; go_ret; exact ⟨rfl, bel _ _⟩
   · have b2 : decide (c.kind ≤ 16) = false := decide_eq_false g2; simp only [b1, b2, Bool.true_and, Bool.false_and]
     go_enter Tryz.func105, Tryz.ntmps105
     go_wp2_with fail; refine wp_region_quiet_rest (by kernel_rfl) (by kernel_rfl) ?_
     repeat
      first
       | go_big_quiet_skip
       | (go_big_quiet_want; go_big_quiet_op; first | go_big_quiet_on | (apply Exists.intro; refine ⟨fun _ => ?_, ?_⟩; (focus (fail)); go_big_quiet_on))
     refine wpQuiet_nil ?_; intro w1 hw1; obtain ⟨p, hw1⟩ := hw1; subst hw1; go_wp2_with fail; go_ret; exact ⟨rfl, bel _ _⟩
 · have b1 : decide (0 ≤ c.kind) = false := decide_eq_false g1; simp only [b1, Bool.false_and]
   go_enter Tryz.func105, Tryz.ntmps105
   go_wp2_with fail; refine wp_region_quiet_rest (by kernel_rfl) (by kernel_rfl) ?_
   repeat
    first
     | go_big_quiet_skip
     | (go_big_quiet_want; go_big_quiet_op; first | go_big_quiet_on | (apply Exists.intro; refine ⟨fun _ => ?_, ?_⟩; (focus (fail)); go_big_quiet_on))
   refine wpQuiet_nil ?_; intro w1 hw1; obtain ⟨p, hw1⟩ := hw1; subst hw1; go_wp2_with fail; go_ret; exact ⟨rfl, bel _ _⟩
end Go.Proofs.YtmkapobnfigedaaGreatDoor
