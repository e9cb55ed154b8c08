/- Part of the proof of a law of chapter 15. Conditions: none. -/
import Derived.Test.YtmkapobnfigedaaGreatDoorDp26
import Derived.Test.YtmkapobnfigedaaGreatDoorDp28
set_option linter.unusedVariables false
set_option linter.unusedSimpArgs false
set_option maxRecDepth 100000
set_option maxHeartbeats 8000000
namespace Go.Proofs.YtmkapobnfigedaaGreatDoor
open Go.RowKit
theorem descB_len (S : PSt) : ∀ (l : List PDesc) (p : Option PDesc), descB S p l = true → (match p with | none => True | some q => q.fd < 4) → ((match p with | none => 0 | some q => q.core * 4 + q.fd + 1 : Int) ≤ (S.made.length : Int) * 4) → (match p with | none => 0 | some q => q.core * 4 + q.fd + 1 : Int) + (l.length : Int) ≤ (S.made.length : Int) * 4
 | [], p, _, _, h => by simpa using h
 | d :: l, p, h, hq, hp => by
   unfold descB at h
   split at h
   · cases h
   split at h
   · cases h
   split at h
   · cases h
   split at h
   · cases h
   split at h
   · cases h
   split at h
   · cases h
   rename_i c0 c1 f0 f1 hpr _
   split at h
   · split at h
     · cases h
     · have ih := descB_len S l (some d) h (by show d.fd < 4; omega) (by show d.core * 4 + d.fd + 1 ≤ (S.made.length : Int) * 4; omega); have ih' : d.core * 4 + d.fd + 1 + (l.length : Int) ≤ (S.made.length : Int) * 4 := ih; rw [List.length_cons]; rcases p with _ | q
       · show (0 : Int) + ((l.length + 1 : Nat) : Int) ≤ _
         push_cast
         omega
       · show q.core * 4 + q.fd + 1 + ((l.length + 1 : Nat) : Int) ≤ _; have hq4 : q.fd < 4 := hq; unfold prevDB at hpr; simp only [Bool.or_eq_true, decide_eq_true_eq, Bool.and_eq_true] at hpr; have hp' : q.core * 4 + q.fd + 1 ≤ (S.made.length : Int) * 4 := hp
         push_cast
         by_cases e : q.core = d.core
         · have : ¬ d.fd ≤ q.fd := fun h => hpr (.inr ⟨e, h⟩)
           omega
         · have : ¬ d.core < q.core := fun h => hpr (.inl h)
           omega
   · cases h
structure MayBounds (S : PSt) : Prop where
 small : Small S
 op : S.op.length ≤ 32
 data : ∀ x ∈ S.ins, x.data.size ≤ 256
 made0 : 0 < S.made.length
theorem may_bounds {S : PSt} (hwf : S.wf) (hm : mayM S = true) : MayBounds S := by
 have T := tree_of_may hwf hm
 have hm' := hm
 unfold mayM at hm'
 split at hm'
 · rename_i h1
   simp only [Bool.and_eq_true] at h1; obtain ⟨⟨hmd, _⟩, hop⟩ := h1; unfold mayMadeM at hmd; simp only [Bool.and_eq_true, Bool.not_eq_true', Bool.or_eq_false_iff, decide_eq_false_iff_not] at hmd; obtain ⟨⟨m1, m8⟩, hall⟩ := hmd; refine ⟨⟨T.small, fun x hx => Nat.le_trans (T.many x hx) (by decide), by omega, fun m hm => ?_⟩, ?_, T.data, by omega⟩
   · have := List.any_eq_false.1 hall m hm; unfold badMade at this; simp at this; omega
   · have := descB_len S S.op none hop trivial (by show (0 : Int) ≤ (S.made.length : Int) * 4; omega); have this' : (0 : Int) + (S.op.length : Int) ≤ (S.made.length : Int) * 4 := this; omega
 · cases hm'
def openX (S : PSt) (c : PCall) (r : PRes) : Except Int (PSt × PRes) := if (parseM c.path).1 ≠ 0 then .error (codeM (parseM c.path).1) else openDo S c r
theorem open72x (B d b : Nat) (S : PSt) (c : PCall) (r : PRes) (w : World) (h : DoAt B w d b S c r) (hB : B ≤ w.heap.size) (hf : Fine S) (hop : S.op.length ≤ 100000) :
 Calls Tryz.prog 142 #[.pointer (some ⟨d, 0, none⟩)] w (RunOut B w d b c (openX S c r)) := by
 unfold openX
 by_cases hp : (parseM c.path).1 = 0
 · rw [if_neg (by simpa using hp)]; exact open72 B d b S c r w h hB hf hop hp (Nat.le_trans (parse_len hp) (by decide))
 · rw [if_pos hp]; have hpar1 : ∀ ww, Below w.heap.size w ww → Calls Tryz.prog 178 #[.pointer (some ⟨d, 0, none⟩), .string c.path] ww _ := fun ww hb => at122x d b S c c.path ww (h.read.below hb (Nat.le_refl _)) hp
   obtain ⟨iv, ov, mv, nv, hBb, hBd, hD, hbk, hst, hnv⟩ := h; have d6 : w.cell? ⟨d, 6, none⟩ = some (.string c.path) := hD.cell 6; have iD := hD.lt; clear hD hbk hst hnv hf
   go_enter Tryz.func142, Tryz.ntmps142
   go_wp2_with (go_at_call 178; refine aE (hpar1 _ (bel _ _)) fun p => ?_)
   exact ⟨rfl, (bel w _).mono hB, rfl⟩
theorem run_made (B d b : Nat) (S : PSt) (c : PCall) (r : PRes) (w : World) (h : DoAt B w d b S c r) (hk : c.kind = 0 ∨ c.kind = 1) (R : Except Int (PSt × PRes)) (ht : Calls Tryz.prog 141 #[.pointer (some ⟨d, 0, none⟩)] w (RunOut B w d b c R)) :
 Calls Tryz.prog 108 #[.pointer (some ⟨d, 0, none⟩)] w (RunOut B w d b c R) := by
 obtain ⟨iD, d1⟩ := h.kind
 rcases hk with hk | hk
 all_goals
  rw [hk] at d1; clear h; rcases R with k | ⟨S', r'⟩
  all_goals (go_enter Tryz.func108, Tryz.ntmps108)
  · go_wp2_with (go_at_call 141; refine ht.mono ?_; rintro e w1 ⟨hb1, hr1⟩; obtain rfl : e = thrown k := hr1)
    exact ⟨rfl, hb1, rfl⟩
  · go_wp2_with (go_at_call 141; refine ht.mono ?_; rintro e w1 ⟨hb1, hr1⟩; have hr2 : e = .returned (.tuple #[]) ∧ DoAt B w1 d b S' c r' := hr1; clear hr1; obtain ⟨rfl, hd1⟩ := hr2; have HD := Lib.hid hd1; clear hd1)
    exact bodyPost_end (v := .tuple #[]) (by simp [results, go_sem]) rfl ⟨hb1, rfl, HD.out⟩
theorem run_bytes6 (B d b : Nat) (S : PSt) (c : PCall) (r : PRes) (w : World) (h : DoAt B w d b S c r) (hk : c.kind = 6) (R : Except Int (PSt × PRes)) (ht : Calls Tryz.prog 146 #[.pointer (some ⟨d, 0, none⟩)] w (RunOut B w d b c R)) :
 Calls Tryz.prog 108 #[.pointer (some ⟨d, 0, none⟩)] w (RunOut B w d b c R) := by
 obtain ⟨iD, d1⟩ := h.kind
 all_goals
  rw [hk] at d1; clear h; rcases R with k | ⟨S', r'⟩
  all_goals (go_enter Tryz.func108, Tryz.ntmps108)
  · go_wp2_with (go_at_call 146; refine ht.mono ?_; rintro e w1 ⟨hb1, hr1⟩; obtain rfl : e = thrown k := hr1)
    exact ⟨rfl, hb1, rfl⟩
  · go_wp2_with (go_at_call 146; refine ht.mono ?_; rintro e w1 ⟨hb1, hr1⟩; have hr2 : e = .returned (.tuple #[]) ∧ DoAt B w1 d b S' c r' := hr1; clear hr1; obtain ⟨rfl, hd1⟩ := hr2; have HD := Lib.hid hd1; clear hd1)
    exact bodyPost_end (v := .tuple #[]) (by simp [results, go_sem]) rfl ⟨hb1, rfl, HD.out⟩
theorem run_linked (B d b : Nat) (S : PSt) (c : PCall) (r : PRes) (w : World) (h : DoAt B w d b S c r) (hk : c.kind = 8) (R : Except Int (PSt × PRes)) (ht : Calls Tryz.prog 147 #[.pointer (some ⟨d, 0, none⟩)] w (RunOut B w d b c R)) :
 Calls Tryz.prog 108 #[.pointer (some ⟨d, 0, none⟩)] w (RunOut B w d b c R) := by
 obtain ⟨iD, d1⟩ := h.kind
 all_goals
  rw [hk] at d1; clear h; rcases R with k | ⟨S', r'⟩
  all_goals (go_enter Tryz.func108, Tryz.ntmps108)
  · go_wp2_with (go_at_call 147; refine ht.mono ?_; rintro e w1 ⟨hb1, hr1⟩; obtain rfl : e = thrown k := hr1)
    exact ⟨rfl, hb1, rfl⟩
  · go_wp2_with (go_at_call 147; refine ht.mono ?_; rintro e w1 ⟨hb1, hr1⟩; have hr2 : e = .returned (.tuple #[]) ∧ DoAt B w1 d b S' c r' := hr1; clear hr1; obtain ⟨rfl, hd1⟩ := hr2; have HD := Lib.hid hd1; clear hd1)
    exact bodyPost_end (v := .tuple #[]) (by simp [results, go_sem]) rfl ⟨hb1, rfl, HD.out⟩
theorem run_removed (B d b : Nat) (S : PSt) (c : PCall) (r : PRes) (w : World) (h : DoAt B w d b S c r) (hk : c.kind = 9 ∨ c.kind = 10) (R : Except Int (PSt × PRes)) (ht : Calls Tryz.prog 148 #[.pointer (some ⟨d, 0, none⟩)] w (RunOut B w d b c R)) :
 Calls Tryz.prog 108 #[.pointer (some ⟨d, 0, none⟩)] w (RunOut B w d b c R) := by
 obtain ⟨iD, d1⟩ := h.kind
 rcases hk with hk | hk
 all_goals
  rw [hk] at d1; clear h; rcases R with k | ⟨S', r'⟩
  all_goals (go_enter Tryz.func108, Tryz.ntmps108)
  · go_wp2_with (go_at_call 148; refine ht.mono ?_; rintro e w1 ⟨hb1, hr1⟩; obtain rfl : e = thrown k := hr1)
    exact ⟨rfl, hb1, rfl⟩
  · go_wp2_with (go_at_call 148; refine ht.mono ?_; rintro e w1 ⟨hb1, hr1⟩; have hr2 : e = .returned (.tuple #[]) ∧ DoAt B w1 d b S' c r' := hr1; clear hr1; obtain ⟨rfl, hd1⟩ := hr2; have HD := Lib.hid hd1; clear hd1)
    exact bodyPost_end (v := .tuple #[]) (by simp [results, go_sem]) rfl ⟨hb1, rfl, HD.out⟩
theorem run_renamed (B d b : Nat) (S : PSt) (c : PCall) (r : PRes) (w : World) (h : DoAt B w d b S c r) (hk : c.kind = 11) (R : Except Int (PSt × PRes)) (ht : Calls Tryz.prog 149 #[.pointer (some ⟨d, 0, none⟩)] w (RunOut B w d b c R)) :
 Calls Tryz.prog 108 #[.pointer (some ⟨d, 0, none⟩)] w (RunOut B w d b c R) := by
 obtain ⟨iD, d1⟩ := h.kind
 all_goals
  rw [hk] at d1; clear h; rcases R with k | ⟨S', r'⟩
  all_goals (go_enter Tryz.func108, Tryz.ntmps108)
  · go_wp2_with (go_at_call 149; refine ht.mono ?_; rintro e w1 ⟨hb1, hr1⟩; obtain rfl : e = thrown k := hr1)
    exact ⟨rfl, hb1, rfl⟩
  · go_wp2_with (go_at_call 149; refine ht.mono ?_; rintro e w1 ⟨hb1, hr1⟩; have hr2 : e = .returned (.tuple #[]) ∧ DoAt B w1 d b S' c r' := hr1; clear hr1; obtain ⟨rfl, hd1⟩ := hr2; have HD := Lib.hid hd1; clear hd1)
    exact bodyPost_end (v := .tuple #[]) (by simp [results, go_sem]) rfl ⟨hb1, rfl, HD.out⟩
theorem run_look {S : PSt} {c : PCall} (hwf : S.wf) (hc : Looks c) (hm : maycM S c = true) {B : Nat} {ww : World} {d b : Nat} (hd : DoAt B ww d b S c PRes.zero) (hB : B ≤ ww.heap.size) : Calls Tryz.prog 108 #[.pointer (some ⟨d, 0, none⟩)] ww (RunOut B ww d b c (lookM S c)) := by
 have hmay := (mayc_may hm).1
 have hf := fine_of_may hwf hmay
 have hdat := may_data hmay
 unfold lookM
 by_cases k4 : c.kind = 4
 · rw [if_pos k4]; exact run_bytes B d b S c PRes.zero ww hd (.inl k4) _ (bytes_read B d b S c PRes.zero ww hd hB hf k4 fun x hx => by have := hdat x hx; omega)
 rw [if_neg k4]
 by_cases k7 : c.kind = 7
 · rw [if_pos k7]; exact run_bytes B d b S c PRes.zero ww hd (.inr (.inr k7)) _ (bytes_size B d b S c PRes.zero ww hd hB hf k7)
 rw [if_neg k7]
 have hk : c.kind = 12 ∨ c.kind = 13 ∨ c.kind = 14 := by
  rcases hc with h | h | h | h | h
  · exact absurd h k4
  · exact absurd h k7
  · exact .inl h
  · exact .inr (.inl h)
  · exact .inr (.inr h)
 refine run_told B d b S c PRes.zero ww hd hk _ ?_
 by_cases hp : (parseM c.path).1 = 0
 · rw [if_neg (by simpa using hp)]; have hl := parse_len hp; rcases hk with k | k | k
   · rw [if_pos k]; exact tell_list B d b S c PRes.zero ww hd hB hf k (by simp [PRes.zero]) hp (by omega)
   · rw [if_neg (by omega), if_pos k]; exact tell_stat B d b S c PRes.zero ww hd hB hf k hp (by omega)
   · rw [if_neg (by omega), if_neg (by omega)]; exact tell_links B d b S c PRes.zero ww hd hB hf k hp
 · rw [if_pos hp]; exact tell_x B d b S c PRes.zero ww hd hB hp
def runX (S : PSt) (c : PCall) : Except Int (PSt × PRes) :=
 if c.kind = 0 ∨ c.kind = 1 then createX S c PRes.zero else if c.kind = 2 then openX S c PRes.zero else if c.kind = 3 then closeA S c PRes.zero else
 if c.kind = 5 then writeX S c PRes.zero else if c.kind = 6 then truncM S c PRes.zero else if c.kind = 8 then linkX S c PRes.zero else
 if c.kind = 9 ∨ c.kind = 10 then removeM S c PRes.zero else if c.kind = 11 then renameX S c PRes.zero else
 if c.kind = 15 then fsyncM S c PRes.zero else if c.kind = 16 then .ok (S, PRes.zero) else lookM S c
def doX (S : PSt) (c : PCall) : PSt × PRes := doM S c (runX S c)
theorem did_all {S : PSt} {c : PCall} (hwf : S.wf) (hcd : c.data.size ≤ 1000000000000000000) : Did S c (doX S c).1 (doX S c).2 := by
 refine did_of (runX S c) hwf (by rfl) fun hm B ww d b hd hB => ?_
 obtain ⟨hmay, hc0, hc1⟩ := mayc_may hm
 have hf := fine_of_may hwf hmay
 obtain ⟨hs, hop, hdat, hmd⟩ := may_bounds hwf hmay
 have hdat' : ∀ x ∈ S.ins, x.data.size ≤ 1000000 := fun x hx => by have := hdat x hx; omega
 have hk : 0 ≤ c.kind ∧ c.kind ≤ 16 := by
  unfold maycM at hm; simp only [Bool.and_eq_true, decide_eq_true_eq] at hm; exact ⟨hm.1.1.1.1, hm.1.1.1.2⟩
 unfold runX
 by_cases k1 : c.kind = 0 ∨ c.kind = 1
 · rw [if_pos k1]; exact run_made B d b S c PRes.zero ww hd k1 _ (create71x B d b S c PRes.zero ww hd hB hf hs hc0 hc1)
 rw [if_neg k1]
 by_cases k2 : c.kind = 2
 · rw [if_pos k2]; exact run_open B d b S c PRes.zero ww hd k2 _ (open72x B d b S c PRes.zero ww hd hB hf (by omega))
 rw [if_neg k2]
 by_cases k3 : c.kind = 3
 · rw [if_pos k3]; exact run_closeA B d b S c PRes.zero ww hd hB hf k3
 rw [if_neg k3]
 by_cases k5 : c.kind = 5
 · rw [if_pos k5]; exact run_bytes B d b S c PRes.zero ww hd (.inr (.inl k5)) _ (bytes_writeX B d b S c PRes.zero ww hd hB hf k5 hdat' hcd)
 rw [if_neg k5]
 by_cases k6 : c.kind = 6
 · rw [if_pos k6]; exact run_bytes6 B d b S c PRes.zero ww hd k6 _ (bytes_trunc B d b S c PRes.zero ww hd hB hf k6 hdat')
 rw [if_neg k6]
 by_cases k8 : c.kind = 8
 · rw [if_pos k8]; exact run_linked B d b S c PRes.zero ww hd k8 _ (link77x B d b S c PRes.zero ww hd hB hf hs hmd)
 rw [if_neg k8]
 by_cases k9 : c.kind = 9 ∨ c.kind = 10
 · rw [if_pos k9]; exact run_removed B d b S c PRes.zero ww hd k9 _ (remove78 B d b S c PRes.zero ww hd hB hf hs hmd)
 rw [if_neg k9]
 by_cases k11 : c.kind = 11
 · rw [if_pos k11]; exact run_renamed B d b S c PRes.zero ww hd k11 _ (rename79x B d b S c PRes.zero ww hd hB hf hs hmd)
 rw [if_neg k11]
 by_cases k15 : c.kind = 15
 · rw [if_pos k15]; exact run_fsync B d b S c PRes.zero ww hd hB hf k15
 rw [if_neg k15]
 by_cases k16 : c.kind = 16
 · rw [if_pos k16]; exact run_sync B d b S c PRes.zero ww hd hB k16
 rw [if_neg k16]
 exact run_look hwf (show Looks c by unfold Looks; omega) hm hd hB
end Go.Proofs.YtmkapobnfigedaaGreatDoor
