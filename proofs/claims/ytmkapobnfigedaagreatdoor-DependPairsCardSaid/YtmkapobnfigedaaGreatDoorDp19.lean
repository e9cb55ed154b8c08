/- Part of the proof of a law of chapter 15. Conditions: none. -/
import Derived.Test.YtmkapobnfigedaaGreatDoorDp17
import Derived.Test.YtmkapobnfigedaaGreatDoorDp18
set_option linter.unusedVariables false
set_option linter.unusedSimpArgs false
set_option maxRecDepth 100000
set_option maxHeartbeats 8000000
namespace Go.Proofs.YtmkapobnfigedaaGreatDoor
open Go.RowKit
def parseGo (s : ByteArray) : Nat → Nat → Nat → List ByteArray → Int × List ByteArray
 | 0, _, _, acc => (0, acc)
 | n + 1, fr, i, acc => if h : i < s.size then
  (if (s[i]'h).toNat = 47 then
   (if checkR (s.extract fr i) = 801 then (1101, []) else if checkR (s.extract fr i) = 800 then (1100, []) else parseGo s n (i + 1) (i + 1) (acc ++ [s.extract fr i]))
  else parseGo s n fr (i + 1) acc)
   else (if checkR (s.extract fr i) = 801 then (1101, []) else if checkR (s.extract fr i) = 800 then (1100, []) else parseGo s n (i + 1) (i + 1) (acc ++ [s.extract fr i]))
def parseRM (s : ByteArray) : Int × List ByteArray :=
 if 64 < s.size then (1101, []) else
 if h : 0 < s.size then
  (if (s[0]'h).toNat = 47 then (if s.size = 1 then (0, []) else
   (if (parseGo s s.size 1 1 []).1 ≠ 0 then ((parseGo s s.size 1 1 []).1, []) else if 4 < (parseGo s s.size 1 1 []).2.length then (1102, []) else (0, (parseGo s s.size 1 1 []).2)))
  else (1100, []))
 else (1100, [])
def ParsedR (w : World) (F : Int × List ByteArray) (e : Ending) (w' : World) : Prop := ∃ v, e = .returned (.tuple #[v, .int .i64 F.1]) ∧ Below w.heap.size w w' ∧ OwnP w.heap.size w' 9 1 v (F.2.map fun n => [.string n])
theorem ParsedR.nil {w w' : World} {c : Int} (hb : Below w.heap.size w w') : ParsedR w (c, []) (.returned (.tuple #[.slice none 0 0, .int .i64 c])) w' := ⟨_, rfl, hb, .inl ⟨rfl, rfl⟩⟩
theorem size_one_slash {s : ByteArray} (h1 : 0 < s.size) (h47 : (s[0]'h1).toNat = 47) : (s.toList == [47]) = decide (s.size = 1) := by
 rw [ByteArray.toList_eq]
 rcases s with ⟨⟨l⟩⟩
 rcases l with _ | ⟨a, l⟩
 · exact absurd h1 (by decide)
 · have ha : a = 47 := by rw [← UInt8.toNat_inj]; exact h47
   subst ha; rcases l with _ | ⟨b, l⟩
   · rfl
   · show ((47 :: b :: l) == [47]) = decide ((47 :: b :: l).length = 1); simp
theorem parse141g (s : ByteArray) (w : World) : Calls Tryz.prog 82 #[.string s] w (ParsedR w (parseRM s)) := by
 unfold parseRM
 by_cases h64 : 64 < s.size
 · rw [if_pos h64]; have i64 : (64 : Int) < s.size := by omega
   go_enter Tryz.func82, Tryz.ntmps82
   go_wp2_with fail; exact bodyPost_ret (v := .tuple #[.slice none 0 0, .int .i64 1101]) (by simp [results, Tryz.results82, go_sem]) rfl (ParsedR.nil (bel _ _))
 rw [if_neg h64]
 have i64 : ¬ (64 : Int) < s.size := by omega
 by_cases h0 : 0 < s.size
 rotate_left
 · rw [dif_neg h0]; have hem : s.toList.isEmpty = true := by
    rw [ByteArray.toList_eq]; rcases s with ⟨⟨l⟩⟩
    rcases l with _ | ⟨a, l⟩
    · rfl
    · exact absurd (show 0 < (a :: l).length by simp) h0
   go_enter Tryz.func82, Tryz.ntmps82
   go_wp2_with fail; exact bodyPost_ret (v := .tuple #[.slice none 0 0, .int .i64 1100]) (by simp [results, Tryz.results82, go_sem]) rfl (ParsedR.nil (bel _ _))
 rw [dif_pos h0]
 have hem : s.toList.isEmpty = false := by
  rw [ByteArray.toList_eq]; rcases s with ⟨⟨l⟩⟩
  rcases l with _ | ⟨a, l⟩
  · exact absurd h0 (by decide)
  · rfl
 by_cases h47 : (s[0]'h0).toNat = 47
 rotate_left
 · rw [if_neg h47]; have hI : ¬ (((s[0]'h0).toNat : Int) = 47) := by omega
   go_enter Tryz.func82, Tryz.ntmps82
   go_wp2_with fail; exact bodyPost_ret (v := .tuple #[.slice none 0 0, .int .i64 1100]) (by simp [results, Tryz.results82, go_sem]) rfl (ParsedR.nil (bel _ _))
 rw [if_pos h47]
 have h1 := size_one_slash h0 h47
 by_cases hs1 : s.size = 1
 · rw [if_pos hs1]; rw [decide_eq_true hs1] at h1
   go_enter Tryz.func82, Tryz.ntmps82
   go_wp2_with fail; exact bodyPost_ret (v := .tuple #[.slice none 0 0, .int .i64 0]) (by simp [results, Tryz.results82, go_sem]) rfl (ParsedR.nil (bel _ _))
 rw [if_neg hs1]
 rw [decide_eq_false hs1] at h1
 obtain ⟨G, hG⟩ : ∃ G, parseGo s s.size 1 1 [] = G := ⟨_, rfl⟩
 rw [hG]
 obtain ⟨V, hV⟩ : ∃ V : Int × List ByteArray, (if G.1 ≠ 0 then (G.1, []) else if 4 < G.2.length then (1102, []) else (0, G.2)) = V := ⟨_, rfl⟩
 rw [hV]
 have HV := Lib.hid hV
 have HG := Lib.hid hG
 clear hG hV
 go_enter Tryz.func82, Tryz.ntmps82
 go_wp2_with fail
 go_loopw [4, 5, 6] (fun v4 v5 v6 wr => ∃ (fr i : Nat) (acc : List ByteArray), v5 = .int .i64 fr ∧ v6 = .int .i64 i ∧ 1 ≤ fr ∧ fr ≤ i ∧ i ≤ s.size + 1 ∧ acc.length ≤ i ∧ parseGo s (s.size + 1 - i) fr i acc = G ∧ Below w.heap.size w wr ∧ OwnP w.heap.size wr 9 1 v4 (acc.map fun n => [Value.string n])) (fun _ _ i _ => (s.size + 1 - intOf i).toNat)
 case atStart => exact ⟨1, 1, [], rfl, rfl, by omega, by omega, by omega, by simp, by rw [Nat.add_sub_cancel]; exact HG.out, bel _ _, .inl ⟨rfl, rfl⟩⟩
 case round =>
  obtain ⟨fr, i, acc, rfl, rfl, hfr, hfi, his, hal, hgo, hb, hO⟩ := hrel; have iB : Bel w wr := ⟨hb⟩
  have hwi : IntKind.i64.wrap ((i : Int) + 1) = (i : Int) + 1 := I64.wrap ⟨by omega, by omega⟩; have hv4 := hO.one; by_cases hle : i ≤ s.size
  · have hleI : (i : Int) ≤ s.size := by omega
    obtain ⟨n, hn⟩ : ∃ n, s.size + 1 - i = n + 1 := ⟨s.size - i, by omega⟩
    have hn' : s.size + 1 - (i + 1) = n := by omega
    rw [hn] at hgo; unfold parseGo at hgo; have h52 := fun ww => check52 (s.extract fr i) ww
    have hfiI : (fr : Int) ≤ i := by omega
    have hfr0 : (0 : Int) ≤ fr := by omega
    by_cases hlt : i < s.size
    · have hltI : (i : Int) < s.size := by omega
      rw [dif_pos hlt] at hgo; by_cases hc : (s[i]'hlt).toNat = 47
      · rw [if_pos hc] at hgo; have hcI : ((s[i]'hlt).toNat : Int) = 47 := by omega
        have HO := Lib.hid hO; clear hO; generalize hck : checkR (s.extract fr i) = ck at h52 hgo; by_cases e1 : ck = 801
        · subst e1; rw [if_pos rfl] at hgo; have hV2 := HV.out; rw [← hgo] at hV2; have hV3 : (1101, []) = V := by simpa using hV2
          subst hV3; clear hV2 hgo hck; go_wp2_with (first | (go_at_call 90; with_reducible refine aT (h52 _) fun p => ?_))
          exact bodyPost_ret (v := .tuple #[.slice none 0 0, .int .i64 1101]) (by simp [results, Tryz.results82, go_sem]) rfl (ParsedR.nil (bel _ _))
        rw [if_neg e1] at hgo; by_cases e2 : ck = 800
        · subst e2; rw [if_pos rfl] at hgo; have hV2 := HV.out; rw [← hgo] at hV2; have hV3 : (1100, []) = V := by simpa using hV2
          subst hV3; clear hV2 hgo hck; go_wp2_with (first | (go_at_call 90; with_reducible refine aT (h52 _) fun p => ?_))
          exact bodyPost_ret (v := .tuple #[.slice none 0 0, .int .i64 1100]) (by simp [results, Tryz.results82, go_sem]) rfl (ParsedR.nil (bel _ _))
        rw [if_neg e2] at hgo; have b1 : (ck == 801) = false := by simpa using e1
        have b2 : (ck == 800) = false := by simpa using e2
        have HGO := Lib.hid hgo; clear hgo hck; go_wp2_with (first | (go_at_call 90; with_reducible refine aT (h52 _) fun p => ?_) | (at_builtin; refine app9 rfl (.tmp 44) (.tmp 49) rfl w.heap.size _ _ acc [s.extract fr i] rfl (by go_simp) (HO.out.below (bel wr _)) (RowAt.single (Blk.new_i _ _ _ _) 1 1) (by simp; omega) (bel w _).size ?_))
        intro v' w' hg; have hbg := hg.on (HO.out.below (bel wr _)) (bel w _).size; have H2 := Lib.hid (And.intro hg.1 ((bel w _).trans hbg)); have hone' := hg.1.one; clear hg hbg; go_wp2_with fail
        go_roundw
        case rel => exact ⟨i + 1, i + 1, acc ++ [s.extract fr i], by go_num, by go_num, by omega, by omega, by omega, by simp; omega, by rw [hn']; exact HGO.out, H2.out.2.trans ((bel w' _).mono H2.out.2.size), by rw [List.map_append]; exact H2.out.1⟩
        case measure => simp [intOf]; omega
      · rw [if_neg hc] at hgo; have hcI : ¬ ((s[i]'hlt).toNat : Int) = 47 := by omega
        have HO := Lib.hid (And.intro hO hgo); clear hO hgo; go_wp2_with fail
        go_roundw
        case rel => exact ⟨fr, i + 1, acc, rfl, by go_num, by omega, by omega, by omega, by omega, by rw [hn']; exact HO.out.2, bel _ _, HO.out.1.below (bel wr _)⟩
        case measure => simp [intOf]; omega
    · have hltI : ¬ (i : Int) < s.size := by omega
      rw [dif_neg hlt] at hgo; have HO := Lib.hid hO; clear hO; generalize hck : checkR (s.extract fr i) = ck at h52 hgo; by_cases e1 : ck = 801
      · subst e1; rw [if_pos rfl] at hgo; have hV2 := HV.out; rw [← hgo] at hV2; have hV3 : (1101, []) = V := by simpa using hV2
        subst hV3; clear hV2 hgo hck; go_wp2_with (first | (go_at_call 90; with_reducible refine aT (h52 _) fun p => ?_))
        exact bodyPost_ret (v := .tuple #[.slice none 0 0, .int .i64 1101]) (by simp [results, Tryz.results82, go_sem]) rfl (ParsedR.nil (bel _ _))
      rw [if_neg e1] at hgo; by_cases e2 : ck = 800
      · subst e2; rw [if_pos rfl] at hgo; have hV2 := HV.out; rw [← hgo] at hV2; have hV3 : (1100, []) = V := by simpa using hV2
        subst hV3; clear hV2 hgo hck; go_wp2_with (first | (go_at_call 90; with_reducible refine aT (h52 _) fun p => ?_))
        exact bodyPost_ret (v := .tuple #[.slice none 0 0, .int .i64 1100]) (by simp [results, Tryz.results82, go_sem]) rfl (ParsedR.nil (bel _ _))
      rw [if_neg e2] at hgo; have b1 : (ck == 801) = false := by simpa using e1
      have b2 : (ck == 800) = false := by simpa using e2
      have HGO := Lib.hid hgo; clear hgo hck; go_wp2_with (first | (go_at_call 90; with_reducible refine aT (h52 _) fun p => ?_) | (at_builtin; refine app9 rfl (.tmp 44) (.tmp 49) rfl w.heap.size _ _ acc [s.extract fr i] rfl (by go_simp) (HO.out.below (bel wr _)) (RowAt.single (Blk.new_i _ _ _ _) 1 1) (by simp; omega) (bel w _).size ?_))
      intro v' w' hg; have hbg := hg.on (HO.out.below (bel wr _)) (bel w _).size; have H2 := Lib.hid (And.intro hg.1 ((bel w _).trans hbg)); have hone' := hg.1.one; clear hg hbg; go_wp2_with fail
      go_roundw
      case rel => exact ⟨i + 1, i + 1, acc ++ [s.extract fr i], by go_num, by go_num, by omega, by omega, by omega, by simp; omega, by rw [hn']; exact HGO.out, H2.out.2.trans ((bel w' _).mono H2.out.2.size), by rw [List.map_append]; exact H2.out.1⟩
      case measure => simp [intOf]; omega
  · have hleI : ¬ (i : Int) ≤ s.size := by omega
    have hi1 : i = s.size + 1 := by omega
    have hgo' : (0, acc) = G := by
     rw [← hgo, hi1, Nat.sub_self]; rfl
    have hV2 := HV.out; rw [← hgo'] at hV2; simp only [ne_eq, not_true, if_false] at hV2; have hV3 : (if 4 < acc.length then (1102, []) else (0, acc)) = V := hV2; have HO := Lib.hid hO; obtain ⟨a4, c4, rfl⟩ := hO.formL; rw [lM] at *; clear hO hgo hgo' hV2; by_cases h4 : 4 < acc.length
    · rw [if_pos h4] at hV3; subst hV3; have h4I : (4 : Int) < acc.length := by omega
      go_wp2_with fail; exact bodyPost_ret (v := .tuple #[.slice none 0 0, .int .i64 1102]) (by simp [results, Tryz.results82, go_sem]) rfl (ParsedR.nil (bel _ _))
    · rw [if_neg h4] at hV3; subst hV3; have h4I : ¬ (4 : Int) < acc.length := by omega
      go_wp2_with fail; exact bodyPost_ret (v := .tuple #[.slice a4 acc.length c4, .int .i64 0]) (by simp [results, Tryz.results82, go_sem]) rfl ⟨_, rfl, bel _ _, HO.out.below (bel wr _)⟩
structure FineR (S : PSt) : Prop where
 wf : S.wf
 root : 0 ≤ atR S 1
 found : ∀ x ∈ S.ins, ∀ e ∈ x.ents, 0 ≤ atR S e.num
theorem entL_mem (n : ByteArray) : ∀ es : List PEnt, entL n es = 0 ∨ ∃ e ∈ es, entL n es = e.num
 | [] => .inl rfl
 | e :: es => by
   unfold entL
   split
   · exact .inr ⟨e, List.mem_cons_self, rfl⟩
   · rcases entL_mem n es with h | ⟨e', h1, h2⟩
     · exact .inl h
     · exact .inr ⟨e', List.mem_cons_of_mem _ h1, h2⟩
theorem FineR.next {S : PSt} (h : FineR S) {at_ : Int} {n : ByteArray} (hn : entryR S at_ n ≠ 0) : 0 ≤ atR S (entryR S at_ n) := by
 unfold entryR at hn ⊢
 split at hn
 · exact absurd rfl hn
 · rename_i h0
   rw [if_neg h0]
   split at hn
   · rename_i x hx
     rcases entL_mem n x.ents with e | ⟨e, he, hq⟩
     · exact absurd e hn
     · rw [hq]; exact h.found x (mG hx) e he
   · exact absurd rfl hn
def walkR (S : PSt) : List ByteArray → Int → List Int → Int × Int × List Int
 | [], at_, th => (at_, 0, th)
 | n :: r, at_, th => match S.ins[(atR S at_).toNat]? with
   | none => (0, 7, th)
   | some x => if x.dir = true then (if entryR S at_ n = 0 then (0, 1, th ++ [at_]) else walkR S r (entryR S at_ n) (th ++ [at_])) else (0, 7, th)
theorem walk143g (S : PSt) (iv ov mv v : Value) (ns : List ByteArray) (w : World) (h : StRead w iv ov mv S) (hf : FineR S) (hv : RowAt w 1 v (ns.map fun n => [.string n])) (hl : ns.length ≤ 1000000000) :
 Calls Tryz.prog 83 #[.agg #[iv, ov, mv], v] w fun e w' => ∃ tv, e = .returned (.tuple #[.int .i64 (walkR S ns 1 []).1, .int .i64 (walkR S ns 1 []).2.1, tv]) ∧ Below w.heap.size w w' ∧ OwnP w.heap.size w' 3 1 tv ((walkR S ns 1 []).2.2.map intCells) := by
 have h51 : ∀ (n : Int) ww, Below w.heap.size w ww → Calls Tryz.prog 85 #[.agg #[iv, ov, mv], .int .i64 n] ww _ := fun n ww hb => at51 S iv ov mv n ww (h.below hb (Nat.le_refl _)) hf.wf.1
 have h95 : ∀ (n : Int) (nm : ByteArray) ww, Below w.heap.size w ww → Calls Tryz.prog 118 #[.agg #[iv, ov, mv], .int .i64 n, .string nm] ww _ := fun n nm ww hb => entry95 S iv ov mv n nm ww (h.below hb (Nat.le_refl _)) hf.wf
 obtain ⟨ai, ni, ci, ao, no, co, am, nm', cm, rfl, rfl, rfl⟩ := h.slices
 obtain ⟨a, cap', e1, hai⟩ := h.ins_at2
 cases e1
 obtain ⟨aN, cN, rfl, hatN⟩ := hv.at_
 rw [lM]
 generalize hR : walkR S ns 1 [] = R
 have HF := Lib.hid hf
 have HI := Lib.hid hai
 have HN := Lib.hid hatN
 have HR := Lib.hid hR
 have h51H := Lib.hid h51
 have h95H := Lib.hid h95
 clear h hai hatN hR hf hv h51 h95
 go_enter Tryz.func83, Tryz.ntmps83
 go_wp2_with fail
 go_loopw [7, 8, 9] (fun v7 v8 v9 wr => ∃ (q : Nat) (at_ : Int) (th : List Int), v7 = .int .i64 at_ ∧ v9 = .int .i64 q ∧ q ≤ ns.length ∧ th.length = q ∧ 0 ≤ atR S at_ ∧ walkR S (ns.drop q) at_ th = R ∧ Below w.heap.size w wr ∧ Blk wr w.heap.size #[.slice ai S.ins.length ci, .slice ao no co, .slice am nm' cm] 26 ∧ OwnP (w.heap.size + 1) wr 3 1 v8 (th.map intCells)) (fun _ _ i _ => (ns.length - intOf i).toNat)
 case atStart => exact ⟨0, 1, [], rfl, rfl, by omega, rfl, HF.out.root, HR.out, bel _ _, Blk.new w _ 26, .inl ⟨rfl, rfl⟩⟩
 case round =>
  obtain ⟨q, at_, th, rfl, rfl, hq, hth, hat, hrel', hb, hbk, hO⟩ := hrel; have iB : Bel w wr := ⟨hb⟩
  have hv8 := hO.one; by_cases hlt : q < ns.length
  · have hltI : (q : Int) < ns.length := by omega
    obtain ⟨nm, hnm⟩ : ∃ nm, ns[q]? = some nm := ⟨_, gE hlt⟩
    rw [drop_at hnm] at hrel'; obtain ⟨k, hk⟩ : ∃ k : Nat, atR S at_ = k := ⟨(atR S at_).toNat, by omega⟩
    have hkl : k < S.ins.length := by
     rcases atR_bounds S at_ with h | h <;> omega
    have hklI : (k : Int) < S.ins.length := by omega
    obtain ⟨x, hx⟩ : ∃ x, S.ins[k]? = some x := ⟨_, gE hkl⟩
    unfold walkR at hrel'; rw [hk, Int.toNat_natCast, hx] at hrel'; simp only at hrel'; have h51 : ∀ ww, Below w.heap.size w ww → Calls Tryz.prog 85 #[.agg #[.slice ai S.ins.length ci, .slice ao no co, .slice am nm' cm], .int .i64 at_] ww fun e w' => e = .returned (.int .i64 k) ∧ Below ww.heap.size ww w' := fun ww hb => by have := h51H.out at_ ww hb; rw [hk] at this; exact this
    have h95 := fun ww hb => h95H.out at_ nm ww hb
    obtain ⟨bi, oi, ev, rfl, iI0, hoi, her, hci⟩ := HI.out k x hx; obtain ⟨iI, x0, x1, x2, x3⟩ := hci wr hb; obtain ⟨bN, oN, rfl, -, iN, hcN⟩ := HN.out wr hb q [.string nm] (by rw [gM, hnm]; rfl); have c0 := hcN 0 _ rfl; rw [Nat.add_zero, Nat.mul_one] at c0; have iL := hbk.lt; have s0 := hbk.cell 0; have s1 := hbk.cell 1; have s2 := hbk.cell 2; simp at s0 s1 s2; have HB := Lib.hid (And.intro hbk hO); clear hbk hO hci hcN her x0 x2 x3; rcases hd : x.dir with _ | _
    · rw [hd] at x1 hrel'; simp only [Bool.false_eq_true, if_false] at hrel'; subst hrel'; clear hx hd; go_wp2_with (first | (go_at_call 85; with_reducible refine aT (h51 _ (bel _ _)) fun p => ?_))
      exact bodyPost_ret (v := .tuple #[.int .i64 0, .int .i64 7, u8]) (by simp [results, Tryz.results83, go_sem]) rfl ⟨_, rfl, bel _ _, (HB.out.2.below (bel wr _)).mono (Nat.le_succ _)⟩
    · rw [hd] at x1 hrel'; simp only [if_true] at hrel'; have HRL := Lib.hid hrel'; have HNX := Lib.hid (fun h => HF.out.next (at_ := at_) (n := nm) h); clear hx hd hrel'; generalize entryR S at_ nm = num at h95 HRL HNX; go_wp2_with (first | (go_at_call 85; with_reducible refine aT (h51 _ (bel _ _)) fun p => ?_) | (at_builtin; refine app3 rfl (.tmp 28) (.tmp 30) rfl (w.heap.size + 1) _ _ th [at_] rfl (by go_simp) (HB.out.2.below (bel wr _)) (RowAt.single (Blk.new_i _ _ _ _) 1 1) (by simp; omega) (Nat.le_trans HB.out.1.lt.lt (bel wr _).size) ?_))
      intro v' w' hg; have hbs : w.heap.size + 1 ≤ wr.heap.size := HB.out.1.lt.lt; have hbg := hg.on (HB.out.2.below (bel wr _)) (Nat.le_trans hbs (bel wr _).size); have hb2 : Below w.heap.size w w' := (bel w _).trans (hbg.mono (Nat.le_succ _)); have hB2 : Blk w' w.heap.size #[.slice (some ⟨bi, oi, none⟩) S.ins.length ci, .slice ao no co, .slice am nm' cm] 26 := hg.2.1.blk (by first | exact HB.out.1.alloc _ | exact (HB.out.1.junk _).alloc _) (fun h => by have := HB.out.2.ge h; omega); have i2 : Bel w w' := ⟨hb2⟩
      have iL2 := hB2.lt; have t0 := hB2.cell 0; have t1 := hB2.cell 1; have t2 := hB2.cell 2; simp at t0 t1 t2; have hone' := hg.1.one; obtain ⟨bN', oN', hfN, -, iN2, hcN2⟩ := HN.out w' hb2 q [.string nm] (by rw [gM, hnm]; rfl); cases hfN; have c2 := hcN2 0 _ rfl; rw [Nat.add_zero, Nat.mul_one] at c2; have hO2 := hg.1; have hO2 : OwnP (w.heap.size + 1) w' 3 1 v' ((th ++ [at_]).map intCells) := by rw [List.map_append]; exact hO2
      have H2 := Lib.hid (And.intro hB2 hO2); clear hg hbg hb2 hB2 s0 s1 s2 x1 c0 iI iN iL hcN2 hO2
      go_upto_region 10 with fail
      refine wp_region_quiet_rest (by kernel_rfl) (by kernel_rfl) (WQ.out ?_)
      repeat
       refine WQ_step (fun K hK => ?_); go_simp
       first
        | (refine hK _ ?_; clear hK K)
        | (apply Exists.intro
           refine ⟨fun _ => ?_, hK _ ?_⟩
           focus ((with_reducible first | refine cI (h95 _ (bel _ _)) | refine cJ (h95 _ (bel _ _))))
           clear hK K)
      refine WN fun p => ?_; by_cases hn0 : num = 0
      · have hr := HRL.out; rw [if_pos hn0] at hr; subst hr; have hnb : (num == 0) = true := by simpa using hn0
        go_wp2_with fail; exact bodyPost_ret (v := .tuple #[.int .i64 0, .int .i64 1, v']) (by simp [results, Tryz.results83, go_sem]) rfl ⟨_, rfl, bel _ _, by have := (H2.out.2.below (bel w' (w'.junk p))).mono (Nat.le_succ _); rw [List.map_append] at this; exact this⟩
      · have hr := HRL.out; rw [if_neg hn0] at hr; have hnb : (num == 0) = false := by simpa using hn0
        have HR2 := Lib.hid hr; clear hr; go_wp2_with fail
        go_roundw
        case rel => exact ⟨q + 1, num, th ++ [at_], rfl, by go_num, by omega, by simp; omega, HNX.out hn0, HR2.out, bel _ _, H2.out.1.below (bel w' _) (by first | exact iL2.lt | omega), H2.out.2.below (bel w' _)⟩
        case measure => simp [intOf]; omega
  · have hltI : ¬ (q : Int) < ns.length := by omega
    rw [List.drop_of_length_le (by omega)] at hrel'; have hr : (at_, 0, th) = R := hrel'; subst hr; have HO := Lib.hid hO; clear hO hrel' hbk; go_wp2_with fail; exact bodyPost_ret (v := .tuple #[.int .i64 at_, .int .i64 0, u8]) (by simp [results, Tryz.results83, go_sem]) rfl ⟨_, rfl, bel _ _, (HO.out.below (bel wr _)).mono (Nat.le_succ _)⟩
theorem code142g (c : Int) (w : World) : Calls Tryz.prog 84 #[.int .i64 c] w fun e w' => e = .returned (.int .i64 (codeR c)) ∧ Below w.heap.size w w' := code142 c w
def findR (S : PSt) (p : ByteArray) : Int × Int := if (parseRM p).1 ≠ 0 then (0, codeR (parseRM p).1) else ((walkR S (parseRM p).2 1 []).1, (walkR S (parseRM p).2 1 []).2.1)
theorem parseRM_len (s : ByteArray) : (parseRM s).2.length ≤ 4 := by
 unfold parseRM
 split
 · simp
 · split
   · split
     · split
       · simp
       · split
         · simp
         · split
           · simp
           · rename_i h
             show (parseGo s s.size 1 1 []).2.length ≤ 4; omega
     · simp
   · simp
theorem find98g (S : PSt) (iv ov mv : Value) (p : ByteArray) (w : World) (h : StRead w iv ov mv S) (hf : FineR S) :
 Calls Tryz.prog 46 #[.agg #[iv, ov, mv], .string p] w fun e w' => e = .returned (.tuple #[.int .i64 (findR S p).1, .int .i64 (findR S p).2]) ∧ Below w.heap.size w w' := by
 have h141 : ∀ ww, Calls Tryz.prog 82 #[.string p] ww _ := fun ww => parse141g p ww
 have hlen := parseRM_len p
 have h143 : ∀ v ww, Below w.heap.size w ww → RowAt ww 1 v ((parseRM p).2.map fun n => [.string n]) → Calls Tryz.prog 83 #[.agg #[iv, ov, mv], v] ww _ := fun v ww hb hv => walk143g S iv ov mv v (parseRM p).2 ww (h.below hb (Nat.le_refl _)) hf hv (by omega)
 obtain ⟨ai, ni, ci, ao, no, co, am, nm', cm, rfl, rfl, rfl⟩ := h.slices
 unfold findR
 generalize parseRM p = F at h141 h143 hlen ⊢
 obtain ⟨c, ns⟩ := F
 simp only at h141 h143 hlen ⊢
 clear h
 by_cases hc : c = 0
 · subst hc; rw [if_neg (by simp)]; simp only; generalize walkR S ns 1 [] = W at h143 ⊢; have H3 := Lib.hid h143; clear h143
   go_enter Tryz.func46, Tryz.ntmps46
   go_wp2_with (first | (go_at_call 82; refine (h141 _).mono ?_; rintro e w1 ⟨v, rfl, hb1, hO1⟩; have hone := hO1.one; have iB : Bel w w1 := ⟨(bel w _).trans (hb1.mono (bel w _).size)⟩; have hbl := hb1; have H1 := Lib.hid (And.intro hO1 hb1); have q0 : w1.cell? ⟨w.heap.size, 0, none⟩ = some (.slice ai ni ci) := (hbl.cell (by simp)).trans (by go_simp); have q1 : w1.cell? ⟨w.heap.size, 1, none⟩ = some (.slice ao no co) := (hbl.cell (by simp)).trans (by go_simp); have q2 : w1.cell? ⟨w.heap.size, 2, none⟩ = some (.slice am nm' cm) := (hbl.cell (by simp)).trans (by go_simp); have iL : BlockLt w.heap.size w1 := ⟨by have := hbl.size; simp at this; omega⟩; clear hO1 hb1 hbl) | (go_at_call 83; refine (H3.out _ _ (bel _ _) (H1.out.1.row.below (bel w1 _) (Nat.le_refl _))).mono ?_; rintro e w2 ⟨tv, rfl, hb2, hO2⟩; have hone2 := hO2.one; obtain ⟨p2, rfl⟩ := hb2.rest; clear hb2 hO2))
   exact bodyPost_ret (v := .tuple #[.int .i64 W.1, .int .i64 W.2.1]) (by simp [results, Tryz.results46, go_sem]) rfl ⟨rfl, bel _ _⟩
 · rw [if_pos hc]; simp only; have hcb : (c != 0) = true := by simpa using hc
   have h142 := fun ww => code142g c ww
   generalize codeR c = C at h142 ⊢; clear h143
   go_enter Tryz.func46, Tryz.ntmps46
   go_wp2_with (first | (go_at_call 82; refine (h141 _).mono ?_; rintro e w1 ⟨v, rfl, hb1, hO1⟩; have hone := hO1.one; have iB : Bel w w1 := ⟨(bel w _).trans (hb1.mono (bel w _).size)⟩; clear hO1 hb1) | (go_at_call 84; refine aT (h142 _) fun p => ?_))
   exact bodyPost_ret (v := .tuple #[.int .i64 0, .int .i64 C]) (by simp [results, Tryz.results46, go_sem]) rfl ⟨rfl, bel _ _⟩
def parentR (S : PSt) (p : ByteArray) : Int × ByteArray × Int :=
 if (parseRM p).1 ≠ 0 then (0, { data := #[] }, codeR (parseRM p).1) else match (parseRM p).2.getLast? with
  | none => (0, { data := #[] }, 9)
  | some l => if (walkR S (parseRM p).2.dropLast 1 []).2.1 ≠ 0 then (0, { data := #[] }, (walkR S (parseRM p).2.dropLast 1 []).2.1) else match S.ins[(atR S (walkR S (parseRM p).2.dropLast 1 []).1).toNat]? with
    | some x => if x.dir = true then ((walkR S (parseRM p).2.dropLast 1 []).1, l, 0) else (0, { data := #[] }, 7)
    | none => (0, { data := #[] }, 7)
theorem walkR_found {S : PSt} (hf : FineR S) : ∀ (ns : List ByteArray) (at_ : Int) (th : List Int), 0 ≤ atR S at_ → (walkR S ns at_ th).2.1 = 0 → 0 ≤ atR S (walkR S ns at_ th).1
 | [], at_, th, h0, _ => h0
 | n :: r, at_, th, h0, h => by
   unfold walkR at h ⊢
   split at h
   · simp at h
   · split at h
     · rename_i hd
       rw [if_pos hd]
       split at h
       · simp at h
       · rename_i hn
         rw [if_neg hn]; exact walkR_found hf r _ _ (hf.next hn) h
     · simp at h
theorem parent94g (S : PSt) (iv ov mv : Value) (p : ByteArray) (w : World) (h : StRead w iv ov mv S) (hf : FineR S) :
 Calls Tryz.prog 45 #[.agg #[iv, ov, mv], .string p] w fun e w' => e = .returned (.tuple #[.int .i64 (parentR S p).1, .string (parentR S p).2.1, .int .i64 (parentR S p).2.2]) ∧ Below w.heap.size w w' := by
 have h141 : ∀ ww, Calls Tryz.prog 82 #[.string p] ww _ := fun ww => parse141g p ww
 have hlen := parseRM_len p
 have hwk : ∀ v ww (ns : List ByteArray), ns.length ≤ 4 → Below w.heap.size w ww → RowAt ww 1 v (ns.map fun n => [.string n]) → Calls Tryz.prog 83 #[.agg #[iv, ov, mv], v] ww _ := fun v ww ns hl hb hv => walk143g S iv ov mv v ns ww (h.below hb (Nat.le_refl _)) hf hv (by omega)
 unfold parentR
 generalize parseRM p = F at h141 hlen ⊢
 obtain ⟨c, ns⟩ := F
 simp only at h141 hlen ⊢
 by_cases hc : c = 0
 rotate_left
 · rw [if_pos hc]; obtain ⟨ai, ni, ci, ao, no, co, am, nm', cm, rfl, rfl, rfl⟩ := h.slices; have hcb : (c != 0) = true := by simpa using hc
   have h142 := fun ww => code142g c ww
   simp only; generalize codeR c = C at h142 ⊢; clear hwk h
   go_enter Tryz.func45, Tryz.ntmps45
   go_wp2_with (first | (go_at_call 82; refine (h141 _).mono ?_; rintro e w1 ⟨v, rfl, hb1, hO1⟩; have hone := hO1.one; have iB : Bel w w1 := ⟨(bel w _).trans (hb1.mono (bel w _).size)⟩; clear hO1 hb1) | (go_at_call 84; refine aT (h142 _) fun p => ?_))
   exact bodyPost_ret (v := .tuple #[.int .i64 0, .string { data := #[] }, .int .i64 C]) (by simp [results, Tryz.results45, go_sem]) rfl ⟨rfl, bel _ _⟩
 subst hc
 rw [if_neg (by simp)]
 rcases hgl : ns.getLast? with _ | l
 · have hns : ns = [] := List.getLast?_eq_none_iff.1 hgl; subst hns; obtain ⟨ai, ni, ci, ao, no, co, am, nm', cm, rfl, rfl, rfl⟩ := h.slices; simp only; clear hwk h hgl
   go_enter Tryz.func45, Tryz.ntmps45
   go_wp2_with (go_at_call 82; refine (h141 _).mono ?_; rintro e w1 ⟨v, rfl, hb1, hO1⟩; obtain ⟨a, cap, rfl, -⟩ := hO1.cap; have iB : Bel w w1 := ⟨(bel w _).trans (hb1.mono (bel w _).size)⟩; clear hO1 hb1)
   exact bodyPost_ret (v := .tuple #[.int .i64 0, .string { data := #[] }, .int .i64 9]) (by simp [results, Tryz.results45, go_sem]) rfl ⟨rfl, bel _ _⟩
 have hne : ns ≠ [] := fun e => by rw [e] at hgl; simp at hgl
 have hlp : 0 < ns.length := List.length_pos_iff.2 hne
 have hll : ns[ns.length - 1]? = some l := by rw [← hgl, List.getLast?_eq_getElem?]
 have hfound := walkR_found hf ns.dropLast 1 [] hf.root
 have hwk1 : ∀ v ww, Below w.heap.size w ww → RowAt ww 1 v (ns.dropLast.map fun n => [.string n]) → Calls Tryz.prog 83 #[.agg #[iv, ov, mv], v] ww _ := fun v ww hb hv => hwk v ww ns.dropLast (by rw [List.length_dropLast]; omega) hb hv
 simp only
 generalize walkR S ns.dropLast 1 [] = W at hwk1 hfound ⊢
 obtain ⟨num, C, th⟩ := W
 simp only at hwk1 hfound ⊢
 obtain ⟨m, hm⟩ : ∃ m, ns.length = m + 1 := ⟨ns.length - 1, by omega⟩
 have hdl : ns.dropLast = ns.take m := by rw [List.dropLast_eq_take, hm]; rfl
 rw [hm] at hll
 replace hll : ns[m]? = some l := hll
 obtain ⟨L, hLn⟩ : ∃ L, ns.length = L := ⟨_, rfl⟩
 obtain ⟨ai, ni, ci, ao, no, co, am, nm', cm, rfl, rfl, rfl⟩ := h.slices
 obtain ⟨ai, ci, e1, hai⟩ := h.ins_at2
 cases e1
 have h51 : ∀ ww, Below w.heap.size w ww → Calls Tryz.prog 85 #[.agg #[.slice ai S.ins.length ci, .slice ao no co, .slice am nm' cm], .int .i64 num] ww _ := fun ww hb => at51 S _ _ _ num ww (h.below hb (Nat.le_refl _)) hf.wf.1
 have hw : ∀ ww a cap, Below w.heap.size w ww → RowAt ww 1 (.slice a L cap) (ns.map fun n => [.string n]) → Calls Tryz.prog 83 #[.agg #[.slice ai S.ins.length ci, .slice ao no co, .slice am nm' cm], .slice a m cap] ww fun e w' => ∃ tv, e = .returned (.tuple #[.int .i64 num, .int .i64 C, tv]) ∧ tv.oneCell' = true ∧ Below ww.heap.size ww w' := fun ww a cap hb hv => (hwk1 _ ww hb (by rw [hdl, List.map_take]; subst hLn; exact hv.take m (by rw [lM]; omega))).mono fun e w' ⟨tv, he, hb', ho⟩ => ⟨tv, he, ho.one, hb'⟩
 have hbd := atR_bounds S num
 have HP := Lib.hid (And.intro h141 (And.intro hw (And.intro hai hll)))
 have HM := Lib.hid (And.intro hm (And.intro hlen hLn))
 clear h141 hw hwk hwk1 hai hll h hgl hdl hlen hf hne hlp
 have hm0 : ((L : Int) == 0) = false := by simp; omega
 have hm1 : ¬ ((L : Int) = 0) := by omega
 have hmI : (L : Int) - 1 = m := by omega
 clear hm hLn
 by_cases hC : C = 0
 · subst hC; rw [if_neg (by simp)]; have hK := hfound rfl; clear hfound; generalize atR S num = A at h51 hK hbd ⊢; obtain ⟨K, rfl⟩ : ∃ K : Nat, A = K := ⟨A.toNat, by omega⟩
   have hKl : (K : Int) < S.ins.length := by omega
   obtain ⟨x, hx⟩ : ∃ x, S.ins[K]? = some x := ⟨_, gE (by omega)⟩
   obtain ⟨bi, oi, ev, rfl, iI0, hoi, her, hci⟩ := HP.out.2.2.1 K x hx; have e0 : ((K : Int)).toNat = K := by omega
   rw [e0, hx]; simp only; have hfd : ∀ wr, Below w.heap.size w wr → wr.cell? ⟨bi, oi + K * 4 + 1, none⟩ = some (.bool x.dir) := fun wr hb => (hci wr hb).2.2.1
   generalize x.dir = dd at hfd hci ⊢; have hfd2 := Lib.hid hfd; have HCI := Lib.hid hci; clear hfd hci her hx iI0 e0 hbd hK; rcases dd with _ | _
   · simp only [Bool.false_eq_true, if_false]
     go_enter Tryz.func45, Tryz.ntmps45
     go_upto_region 6 with (go_at_call 82; refine (HP.out.1 _).mono ?_; rintro e w1 ⟨v, rfl, hb1, ho1⟩; have hrw := ho1.row; obtain ⟨gn, cap, hv, hc1, hc2⟩ := ho1.some_ (by rw [lM]; show 0 < ns.length; have := HM.out; omega); rw [lM] at hv hc1; rw [show List.length ((0 : Int), ns).2 = L from HM.out.2.2] at hv hc1; subst hv; have hnat := hrw.at_; have iB1 : Bel w w1 := ⟨(bel w _).trans (hb1.mono (bel w _).size)⟩; have hww : ∀ ww, Below w1.heap.size w1 ww → Calls Tryz.prog 83 #[.agg #[.slice (some ⟨bi, oi, none⟩) S.ins.length ci, .slice ao no co, .slice am nm' cm], .slice (some ⟨gn, 0, none⟩) m cap] ww _ := fun ww hb => HP.out.2.1 ww _ cap (iB1.below.trans (hb.mono iB1.below.size)) (hrw.below hb (Nat.le_refl _)); have q0 : w1.cell? ⟨w.heap.size, 0, none⟩ = some (.slice (some ⟨bi, oi, none⟩) S.ins.length ci) := (hb1.cell (by simp)).trans (by go_simp); have q1 : w1.cell? ⟨w.heap.size, 1, none⟩ = some (.slice ao no co) := (hb1.cell (by simp)).trans (by go_simp); have q2 : w1.cell? ⟨w.heap.size, 2, none⟩ = some (.slice am nm' cm) := (hb1.cell (by simp)).trans (by go_simp); have iL : BlockLt w.heap.size w1 := ⟨by have := hb1.size; simp at this; omega⟩; have hwm : IntKind.i64.wrap (m : Int) = m := I64.wrap ⟨by omega, by have := HM.out; omega⟩; have hmc : m ≤ cap := (by have := HM.out; omega); have H1 := Lib.hid (And.intro iB1.below (And.intro hrw hnat)); clear hb1 hrw hnat ho1)
     refine wp_region_eff [6] true (fun w' => w'.cell? ⟨w.heap.size, 0, none⟩ = some (.slice (some ⟨bi, oi, none⟩) S.ins.length ci) ∧ w'.cell? ⟨w.heap.size, 1, none⟩ = some (.slice ao no co) ∧ w'.cell? ⟨w.heap.size, 2, none⟩ = some (.slice am nm' cm)) (by kernel_rfl) (by kernel_rfl) ?_ ?_
     · (try dsimp only); (repeat' apply And.intro) <;> go_simp
     repeat
      refine wpL_look rfl rfl ?_; apply Exists.intro; refine ⟨?_, ?_⟩
      focus
       rintro w' ⟨s0, s1, s2⟩; go_simp
       first | done | rfl
      simp only [Act.put, sA, sZ, sS]
     refine wpL_act rfl rfl ?_; refine eff_call 83 #[.agg #[.slice (some ⟨bi, oi, none⟩) S.ins.length ci, .slice ao no co, .slice am nm' cm], .slice (some ⟨gn, 0, none⟩) m cap] ?_ ((hww w1.drew (bel w1 _)).mono ?_)
     focus
      go_simp
      first | done | rfl
     rintro e w2 ⟨tv, rfl, hone, hb2⟩; obtain ⟨p2, rfl⟩ := hb2.rest; clear hb2; refine ⟨_, rfl, .inl ?_, ?_⟩
     · (try dsimp only); (repeat' apply And.intro) <;> go_simp
     simp only [Act.put, sA, sZ, sS]
     repeat
      refine wpL_look rfl rfl ?_; apply Exists.intro; refine ⟨?_, ?_⟩
      focus
       rintro w' ⟨s0, s1, s2⟩; go_simp
       first | done | rfl
      simp only [Act.put, sA, sZ, sS]
     refine wpL_end ?_; obtain ⟨iI1, -, -, -, -⟩ := HCI.out w1 H1.out.1; have z1 := hfd2.out w1 H1.out.1
     go_upto_region 9 with fail
     refine wp_region_quiet_rest (by kernel_rfl) (by kernel_rfl) (WQ.out ?_)
     repeat
      refine WQ_step (fun K hK => ?_); go_simp
      first
       | (refine hK _ ?_; clear hK K)
       | (apply Exists.intro
          refine ⟨fun _ => ?_, hK _ ?_⟩
          focus ((with_reducible first | refine cI (h51 _ (bel _ _)) | refine cJ (h51 _ (bel _ _))))
          clear hK K)
     refine WN fun p => ?_; go_wp2_with fail; exact bodyPost_ret (v := .tuple #[.int .i64 0, .string { data := #[] }, .int .i64 7]) (by simp [results, Tryz.results45, go_sem]) rfl ⟨rfl, bel _ _⟩
   · simp only [if_true]
     go_enter Tryz.func45, Tryz.ntmps45
     go_upto_region 6 with (go_at_call 82; refine (HP.out.1 _).mono ?_; rintro e w1 ⟨v, rfl, hb1, ho1⟩; have hrw := ho1.row; obtain ⟨gn, cap, hv, hc1, hc2⟩ := ho1.some_ (by rw [lM]; show 0 < ns.length; have := HM.out; omega); rw [lM] at hv hc1; rw [show List.length ((0 : Int), ns).2 = L from HM.out.2.2] at hv hc1; subst hv; have hnat := hrw.at_; have iB1 : Bel w w1 := ⟨(bel w _).trans (hb1.mono (bel w _).size)⟩; have hww : ∀ ww, Below w1.heap.size w1 ww → Calls Tryz.prog 83 #[.agg #[.slice (some ⟨bi, oi, none⟩) S.ins.length ci, .slice ao no co, .slice am nm' cm], .slice (some ⟨gn, 0, none⟩) m cap] ww _ := fun ww hb => HP.out.2.1 ww _ cap (iB1.below.trans (hb.mono iB1.below.size)) (hrw.below hb (Nat.le_refl _)); have q0 : w1.cell? ⟨w.heap.size, 0, none⟩ = some (.slice (some ⟨bi, oi, none⟩) S.ins.length ci) := (hb1.cell (by simp)).trans (by go_simp); have q1 : w1.cell? ⟨w.heap.size, 1, none⟩ = some (.slice ao no co) := (hb1.cell (by simp)).trans (by go_simp); have q2 : w1.cell? ⟨w.heap.size, 2, none⟩ = some (.slice am nm' cm) := (hb1.cell (by simp)).trans (by go_simp); have iL : BlockLt w.heap.size w1 := ⟨by have := hb1.size; simp at this; omega⟩; have hwm : IntKind.i64.wrap (m : Int) = m := I64.wrap ⟨by omega, by have := HM.out; omega⟩; have hmc : m ≤ cap := (by have := HM.out; omega); have H1 := Lib.hid (And.intro iB1.below (And.intro hrw hnat)); clear hb1 hrw hnat ho1)
     refine wp_region_eff [6] true (fun w' => w'.cell? ⟨w.heap.size, 0, none⟩ = some (.slice (some ⟨bi, oi, none⟩) S.ins.length ci) ∧ w'.cell? ⟨w.heap.size, 1, none⟩ = some (.slice ao no co) ∧ w'.cell? ⟨w.heap.size, 2, none⟩ = some (.slice am nm' cm)) (by kernel_rfl) (by kernel_rfl) ?_ ?_
     · (try dsimp only); (repeat' apply And.intro) <;> go_simp
     repeat
      refine wpL_look rfl rfl ?_; apply Exists.intro; refine ⟨?_, ?_⟩
      focus
       rintro w' ⟨s0, s1, s2⟩; go_simp
       first | done | rfl
      simp only [Act.put, sA, sZ, sS]
     refine wpL_act rfl rfl ?_; refine eff_call 83 #[.agg #[.slice (some ⟨bi, oi, none⟩) S.ins.length ci, .slice ao no co, .slice am nm' cm], .slice (some ⟨gn, 0, none⟩) m cap] ?_ ((hww w1.drew (bel w1 _)).mono ?_)
     focus
      go_simp
      first | done | rfl
     rintro e w2 ⟨tv, rfl, hone, hb2⟩; obtain ⟨p2, rfl⟩ := hb2.rest; clear hb2; refine ⟨_, rfl, .inl ?_, ?_⟩
     · (try dsimp only); (repeat' apply And.intro) <;> go_simp
     simp only [Act.put, sA, sZ, sS]
     repeat
      refine wpL_look rfl rfl ?_; apply Exists.intro; refine ⟨?_, ?_⟩
      focus
       rintro w' ⟨s0, s1, s2⟩; go_simp
       first | done | rfl
      simp only [Act.put, sA, sZ, sS]
     refine wpL_end ?_; obtain ⟨iI1, -, -, -, -⟩ := HCI.out w1 H1.out.1; have z1 := hfd2.out w1 H1.out.1
     go_upto_region 9 with fail
     refine wp_region_quiet_rest (by kernel_rfl) (by kernel_rfl) (WQ.out ?_)
     repeat
      refine WQ_step (fun K hK => ?_); go_simp
      first
       | (refine hK _ ?_; clear hK K)
       | (apply Exists.intro
          refine ⟨fun _ => ?_, hK _ ?_⟩
          focus ((with_reducible first | refine cI (h51 _ (bel _ _)) | refine cJ (h51 _ (bel _ _))))
          clear hK K)
     refine WN fun p => ?_; obtain ⟨a', cap', hv', hnat⟩ := H1.out.2.2; obtain ⟨bn, offn, he, iN0, iN1, hcn⟩ := hnat w1 (Below.refl _ _) m [.string l] (by rw [gM]; show Option.map _ ns[m]? = _; rw [HP.out.2.2.2]; rfl); simp only [Value.slice.injEq] at hv'; obtain ⟨rfl, -, rfl⟩ := hv'; simp only [Option.some.injEq, Addr.mk.injEq] at he; obtain ⟨rfl, rfl, -⟩ := he; have n0 := hcn 0 _ rfl; rw [Nat.mul_one, Nat.add_zero, Nat.zero_add] at n0; have hmL : (m : Int) < L := by omega
     clear hcn hnat
     go_upto_region 11 with fail
     refine wp_region_quiet_rest (by kernel_rfl) (by kernel_rfl) (WQ.out ?_)
     repeat
      refine WQ_step (fun K hK => ?_); go_simp
      first
       | (refine hK _ ?_; clear hK K)
       | (apply Exists.intro
          refine ⟨fun _ => ?_, hK _ ?_⟩
          focus (fail)
          clear hK K)
     refine WN fun p => ?_; go_wp2_with fail; exact bodyPost_ret (v := .tuple #[.int .i64 num, .string l, .int .i64 0]) (by simp [results, Tryz.results45, go_sem]) rfl ⟨rfl, bel _ _⟩
 · rw [if_pos hC]; have hcb : (C != 0) = true := by simpa using hC
   go_enter Tryz.func45, Tryz.ntmps45
   go_upto_region 6 with (go_at_call 82; refine (HP.out.1 _).mono ?_; rintro e w1 ⟨v, rfl, hb1, ho1⟩; have hrw := ho1.row; obtain ⟨gn, cap, hv, hc1, hc2⟩ := ho1.some_ (by rw [lM]; show 0 < ns.length; have := HM.out; omega); rw [lM] at hv hc1; rw [show List.length ((0 : Int), ns).2 = L from HM.out.2.2] at hv hc1; subst hv; have hnat := hrw.at_; have iB1 : Bel w w1 := ⟨(bel w _).trans (hb1.mono (bel w _).size)⟩; have hww : ∀ ww, Below w1.heap.size w1 ww → Calls Tryz.prog 83 #[.agg #[.slice ai S.ins.length ci, .slice ao no co, .slice am nm' cm], .slice (some ⟨gn, 0, none⟩) m cap] ww _ := fun ww hb => HP.out.2.1 ww _ cap (iB1.below.trans (hb.mono iB1.below.size)) (hrw.below hb (Nat.le_refl _)); have q0 : w1.cell? ⟨w.heap.size, 0, none⟩ = some (.slice ai S.ins.length ci) := (hb1.cell (by simp)).trans (by go_simp); have q1 : w1.cell? ⟨w.heap.size, 1, none⟩ = some (.slice ao no co) := (hb1.cell (by simp)).trans (by go_simp); have q2 : w1.cell? ⟨w.heap.size, 2, none⟩ = some (.slice am nm' cm) := (hb1.cell (by simp)).trans (by go_simp); have iL : BlockLt w.heap.size w1 := ⟨by have := hb1.size; simp at this; omega⟩; have hwm : IntKind.i64.wrap (m : Int) = m := I64.wrap ⟨by omega, by have := HM.out; omega⟩; have hmc : m ≤ cap := (by have := HM.out; omega); have H1 := Lib.hid (And.intro iB1.below (And.intro hrw hnat)); clear hb1 hrw hnat ho1)
   refine wp_region_eff [6] true (fun w' => w'.cell? ⟨w.heap.size, 0, none⟩ = some (.slice ai S.ins.length ci) ∧ w'.cell? ⟨w.heap.size, 1, none⟩ = some (.slice ao no co) ∧ w'.cell? ⟨w.heap.size, 2, none⟩ = some (.slice am nm' cm)) (by kernel_rfl) (by kernel_rfl) ?_ ?_
   · (try dsimp only); (repeat' apply And.intro) <;> go_simp
   repeat
    refine wpL_look rfl rfl ?_; apply Exists.intro; refine ⟨?_, ?_⟩
    focus
     rintro w' ⟨s0, s1, s2⟩; go_simp
     first | done | rfl
    simp only [Act.put, sA, sZ, sS]
   refine wpL_act rfl rfl ?_; refine eff_call 83 #[.agg #[.slice ai S.ins.length ci, .slice ao no co, .slice am nm' cm], .slice (some ⟨gn, 0, none⟩) m cap] ?_ ((hww w1.drew (bel w1 _)).mono ?_)
   focus
    go_simp
    first | done | rfl
   rintro e w2 ⟨tv, rfl, hone, hb2⟩; obtain ⟨p2, rfl⟩ := hb2.rest; clear hb2; refine ⟨_, rfl, .inl ?_, ?_⟩
   · (try dsimp only); (repeat' apply And.intro) <;> go_simp
   simp only [Act.put, sA, sZ, sS]
   repeat
    refine wpL_look rfl rfl ?_; apply Exists.intro; refine ⟨?_, ?_⟩
    focus
     rintro w' ⟨s0, s1, s2⟩; go_simp
     first | done | rfl
    simp only [Act.put, sA, sZ, sS]
   refine wpL_end ?_; go_wp2_with fail; exact bodyPost_ret (v := .tuple #[.int .i64 0, .string { data := #[] }, .int .i64 C]) (by simp [results, Tryz.results45, go_sem]) rfl ⟨rfl, bel _ _⟩
def mkK (S : PSt) (K0 : Nat) (x : PIn) (nm : ByteArray) (k : Nat) (m : Int) (dir : Bool) : PSt :=
 let num : Int := 2 + k + 8 * m
 let S2 : PSt := ({ S with made := S.made.set k (m + 1) } : PSt).ents K0 x (insF (fun e => belowR nm e.name) ⟨nm, num⟩ x.ents false [])
 { S2 with ins := insF (fun y => decide (num < y.num)) ⟨num, dir, [], { data := #[] }⟩ S2.ins false [] }
theorem make56g (B b : Nat) (S : PSt) (iv ov mv : Value) (kd fd off nu : Int) (path p2 dt nm : ByteArray) (D : Int) (K0 : Nat) (x : PIn) (k : Nat) (m : Int) (w : World) (hb : Blk w b #[iv, ov, mv] 26) (ho : StOwn B w iv ov mv S) (hB : B ≤ w.heap.size) (hBb : B ≤ b) (hfR : FineR S) (hpar : parentR S path = (D, nm, 0)) (hat0 : atR S D = K0) (hx : S.ins[K0]? = some x)
 (hns : nm.size ≤ 1000000000) (hent : entryR S D nm = 0) (hful : decide (4 ≤ fullF (bucketR nm) { data := #[] } x.ents 0) = false) (hes : ∀ e ∈ x.ents, e.name.size ≤ 1000000000) (hm : S.made[k]? = some m) (hm0 : 0 ≤ m ∧ m < 32) (hk8 : k < 8) :
 Calls Tryz.prog 93 #[.pointer (some ⟨b, 0, none⟩), .agg #[.int .i64 kd, .int .i64 k, .int .i64 fd, .int .i64 off, .int .i64 nu, .string path, .string p2, .string dt]] w fun e w' => e = .returned (resV 0 0 0) ∧ Below B w w' ∧ Spared b w w' ∧ ∃ iv' ov' mv', Blk w' b #[iv', ov', mv'] 26 ∧ StOwn B w' iv' ov' mv' (mkK S K0 x nm k m (kd == 1)) := by
 have hwf := hfR.wf
 have h94 : ∀ ww, Below w.heap.size w ww → Calls Tryz.prog 45 #[.agg #[iv, ov, mv], .string path] ww fun e w' => e = .returned (.tuple #[.int .i64 D, .string nm, .int .i64 0]) ∧ Below ww.heap.size ww w' := fun ww hb => by
  have := parent94g S iv ov mv path ww (ho.read.below hb (Nat.le_refl _)) hfR; rw [hpar] at this; exact this
 have h95 : ∀ ww, Below w.heap.size w ww → Calls Tryz.prog 118 #[.agg #[iv, ov, mv], .int .i64 D, .string nm] ww fun e w' => e = .returned (.int .i64 0) ∧ Below ww.heap.size ww w' := fun ww hb => by
  have := entry95 S iv ov mv D nm ww (ho.read.below hb (Nat.le_refl _)) hwf; rw [hent] at this; exact this
 have h96 : ∀ ww, Below w.heap.size w ww → Calls Tryz.prog 121 #[.agg #[iv, ov, mv], .int .i64 D, .string nm, .string { data := #[] }] ww fun e w' => e = .returned (.bool false) ∧ Below ww.heap.size ww w' := fun ww hb => by
  have := full96 S iv ov mv D nm { data := #[] } K0 x ww (ho.read.below hb (Nat.le_refl _)) hwf hat0 hx hns hes; rw [hful] at this; exact this
 obtain ⟨hxl, -⟩ := gI.1 hx
 obtain ⟨hkl, -⟩ := gI.1 hm
 obtain ⟨bi, cap, rfl⟩ := ho.ins_form (by omega)
 obtain ⟨gm, capm, rfl⟩ := ho.made_form (by omega)
 obtain ⟨oa, on, oc, rfl⟩ := ho.1.form
 have hone := hb.lt
 have hblt : b < w.heap.size := hb.lt.lt
 have s0 := hb.cell 0
 have s1 := hb.cell 1
 have s2 := hb.cell 2
 simp at s0 s1 s2
 obtain ⟨m0, fm, iGm⟩ := ho.made_at hm
 have hkI : (k : Int) < S.made.length := by omega
 have h32 : ¬ 32 ≤ m := by omega
 have h32b : decide (32 ≤ m) = false := decide_eq_false h32
 obtain ⟨num, hnum⟩ : ∃ num : Int, 2 + (k : Int) + 8 * m = num := ⟨_, rfl⟩
 have wa : IntKind.i64.wrap (2 + (k : Int)) = 2 + (k : Int) := I64.wrap ⟨by omega, by omega⟩
 have wb : IntKind.i64.wrap (8 * m) = 8 * m := I64.wrap ⟨by omega, by omega⟩
 have wc1 : IntKind.i64.wrap (2 + (k : Int) + 8 * m) = num := by rw [hnum]; exact I64.wrap ⟨by omega, by omega⟩
 have wc2 : wrap64 (2 + (k : Int) + 8 * m) = num := by simp only [wrap64]; omega
 have wd2 : wrap64 (m + 1) = m + 1 := by simp only [wrap64]; omega
 have wd : IntKind.i64.wrap (m + 1) = m + 1 := I64.wrap ⟨by omega, by omega⟩
 have HN := Lib.hid hnum
 have HH := Lib.hid (And.intro hb (And.intro ho (And.intro hwf (And.intro hx (And.intro hm (And.intro hat0 hm0))))))
 have HM := Lib.hid (And.intro hns hes)
 clear hnum
 clear hb ho hwf hx hm hent hful hes hm0 hat0 hns hfR hpar
 go_enter Tryz.func93, Tryz.ntmps93
 go_upto_region 1 with fail
 refine wp_region_quiet_rest (by kernel_rfl) (by kernel_rfl) (WQ.out ?_)
 repeat
  refine WQ_step (fun K hK => ?_); go_simp
  first
   | (refine hK _ ?_; clear hK K)
   | (apply Exists.intro
      refine ⟨fun _ => ?_, hK _ ?_⟩
      focus ((with_reducible first | refine cI (h94 _ (bel _ _)) | refine cJ (h94 _ (bel _ _))))
      clear hK K)
 refine WN fun p => ?_
 go_wp2_with ((go_at_call 118; with_reducible refine aT (h95 _ (bel _ _)) fun p => ?_))
 refine wp_region_quiet_rest (by kernel_rfl) (by kernel_rfl) (WQ.out ?_)
 repeat
  refine WQ_step (fun K hK => ?_); go_simp
  first
   | (refine hK _ ?_; clear hK K)
   | (apply Exists.intro
      refine ⟨fun _ => ?_, hK _ ?_⟩
      focus ((with_reducible first | refine cI (h96 _ (bel _ _)) | refine cJ (h96 _ (bel _ _))))
      clear hK K)
 refine WN fun p => ?_
 go_wp2_with fail
 refine wp_region_quiet_rest (by kernel_rfl) (by kernel_rfl) (WQ.out ?_)
 repeat
  refine WQ_step (fun K hK => ?_); go_simp
  first
   | (refine hK _ ?_; clear hK K)
   | (apply Exists.intro
      refine ⟨fun _ => ?_, hK _ ?_⟩
      focus (fail)
      clear hK K)
 refine WN fun p => ?_
 go_upto_region 9 with fail
 refine abs_world (F := fun wa => StOwn B wa (.slice (some ⟨bi, 0, none⟩) S.ins.length cap) (.slice oa on oc) (.slice (some ⟨gm, 0, none⟩) S.made.length capm) S ∧ Blk wa b #[.slice (some ⟨bi, 0, none⟩) S.ins.length cap, .slice oa on oc, .slice (some ⟨gm, 0, none⟩) S.made.length capm] 26 ∧ Blk wa w.heap.size #[.int .i64 kd, .int .i64 k, .int .i64 fd, .int .i64 off, .int .i64 nu, .string path, .string p2, .string dt] 28 ∧ Blk wa (w.heap.size + 1) #[.int .i64 0, .int .i64 0, .int .i64 0, .bool false, .string { data := #[] }, .slice none 0 0] 52 ∧ Below w.heap.size w wa) ⟨HH.out.2.1.on (bel w _), blk_on HH.out.1 (bel w _), blk_on (Blk.new w #[.int .i64 kd, .int .i64 k, .int .i64 fd, .int .i64 off, .int .i64 nu, .string path, .string p2, .string dt] 28) (bel _ _), blk_on (Blk.new_i (w.alloc (.cells #[.int .i64 kd, .int .i64 k, .int .i64 fd, .int .i64 off, .int .i64 nu, .string path, .string p2, .string dt] 28)) #[.int .i64 0, .int .i64 0, .int .i64 0, .bool false, .string { data := #[] }, .slice none 0 0] 52 (w.heap.size + 1)) (bel _ _), bel w _⟩ ?_
 clear s0 s1 s2 m0 fm iGm hone
 rintro wa ⟨ho, hb, hbc, hbr, hbw⟩
 obtain ⟨m0, fm, iGm⟩ := ho.made_at HH.out.2.2.2.2.1
 have iB := hb.lt
 have iC := hbc.lt
 have s2 := hb.cell 2
 have q1 := hbc.cell 1
 simp at s2 q1
 obtain ⟨hs1, hBg, cg, hgm⟩ := (ho.on (bel wa wa.drew)).setMade (k := k) hkl (m + 1)
 have hp4 : Spared b wa (wa.drew.setCell ⟨gm, k, none⟩ (.int .i64 (m + 1))) := (Spared.of_below (bel wa wa.drew)).trans (Spared.set hgm (.inr ⟨by decide, by decide, by decide⟩))
 have hK4 : Keep (fun g => g = gm) wa.drew (wa.drew.setCell ⟨gm, k, none⟩ (.int .i64 (m + 1))) := Keep.setCell (S := fun g => g = gm) (p := ⟨gm, k, none⟩) (Keep.refl _ _) (.inl rfl) _
 have hb4 := hK4.blk (blk_on hb (bel wa wa.drew)) (fun e => by
  subst e; have := (blk_on hb (bel wa wa.drew)).ne_ hgm (by decide); exact this rfl)
 have hbw4 : Below B w (wa.drew.setCell ⟨gm, k, none⟩ (.int .i64 (m + 1))) := (hbw.mono hB).trans ((bel wa wa.drew).mono (Nat.le_trans hB hbw.size) |>.trans (hK4.below (Nat.le_trans hB (Nat.le_trans hbw.size (bel wa wa.drew).size)) (fun i hi e => by omega)))
 obtain ⟨w4, hw4⟩ : ∃ w4, wa.drew.setCell ⟨gm, k, none⟩ (.int .i64 (m + 1)) = w4 := ⟨_, rfl⟩
 rw [hw4] at hs1 hp4 hb4 hbw4
 have hbr4 := hp4 _ _ _ hbr (by omega) (.inr (.inr rfl))
 have hbc4 := hp4 _ _ _ hbc (by omega) (.inr (.inl rfl))
 have hpw4 := (Spared.of_below (b := b) hbw).trans hp4
 have iB4 := hb4.lt
 have iC4 := hbc4.lt
 have iR4 := hbr4.lt
 have c40 := hbc4.cell 0
 have c41 := hbc4.cell 1
 simp at c40 c41
 have HC4 := Lib.hid (And.intro hbc4 hbr4)
 have H4 := Lib.hid (And.intro hs1 (And.intro hb4 (And.intro hbr4 (And.intro hbw4 hpw4))))
 have HW4 := Lib.hid hw4
 clear hs1 hp4 hb4 hbw4 hbr4 hbc4 hpw4 hK4 ho hb hbc hbr hbw hgm
 refine wp_region_eff [10] true (fun w' => w'.cell? ⟨b, 2, none⟩ = some (.slice (some ⟨gm, 0, none⟩) S.made.length capm) ∧ w'.cell? ⟨w.heap.size, 1, none⟩ = some (.int .i64 k) ∧ w'.cell? ⟨gm, k, none⟩ = some (.int .i64 m)) (by kernel_rfl) (by kernel_rfl) ?_ ?_
 · (try dsimp only); (repeat' apply And.intro) <;> go_simp
 repeat
  refine wpL_look rfl rfl ?_; apply Exists.intro; refine ⟨?_, ?_⟩
  focus
   rintro w' ⟨s0, s1, s2⟩; go_simp
   first | done | rfl
  simp only [Act.put, sA, sZ, sS]
 refine wpL_skip rfl rfl ?_
 refine ⟨w4, ?_, .inr ⟨rfl, rfl⟩, ?_⟩
 focus
  go_simp
  first | done | exact HW4.out | rfl
 simp only [Act.put, sA, sZ, sS]
 refine wpL_end ?_
 clear s2 q1 iB iC m0 fm iGm hw4
 have hI64m : I64 (m + 1) := by
  have := HH.out.2.2.2.2.2.2; exact ⟨by omega, by omega⟩
 obtain ⟨S2, hS2⟩ : ∃ S2 : PSt, (({ S with made := S.made.set k (m + 1) } : PSt).ents K0 x (insF (fun e => belowR nm e.name) ⟨nm, num⟩ x.ents false [])) = S2 := ⟨_, rfl⟩
 have hl2 : S2.ins.length = S.ins.length := by rw [← hS2]; simp [PSt.ents]
 have h97 : ∀ ww, Below w4.heap.size w4 ww → Calls Tryz.prog 122 #[.pointer (some ⟨b, 0, none⟩), .int .i64 D, .string nm, .int .i64 num] ww fun e w' => e = .returned (.tuple #[]) ∧ (StOwn B w' (.slice (some ⟨bi, 0, none⟩) S.ins.length cap) (.slice oa on oc) (.slice (some ⟨gm, 0, none⟩) S.made.length capm) S2 ∧ Blk w' b #[.slice (some ⟨bi, 0, none⟩) S.ins.length cap, .slice oa on oc, .slice (some ⟨gm, 0, none⟩) S.made.length capm] 26 ∧ Below B w w' ∧ Spared b w4 w') := fun ww hb => by
  obtain ⟨o1, o2, o3, o4, o5⟩ := H4.out; have hB4 : B ≤ ww.heap.size := Nat.le_trans hB (Nat.le_trans o4.size hb.size); have hbk := blk_on o2 hb; refine (put97 B b { S with made := S.made.set k (m + 1) } _ _ _ D num nm K0 x ww hbk (o1.on hb) hB4 (PSt.wf_made HH.out.2.2.1 k hI64m) HM.out.1 HH.out.2.2.2.2.2.1 HH.out.2.2.2.1).mono ?_; rintro e w' ⟨rfl, hb5, hk5, hs5⟩; rw [hS2] at hs5; exact ⟨rfl, hs5, hk5.blk hbk (notInEn hbk (by decide) (by decide)), (o4.trans (hb.mono (Nat.le_trans hB o4.size))).trans hb5, (Spared.of_below hb).trans (Spared.of_in hk5)⟩
 have HS2 := Lib.hid hS2
 clear hS2
 go_wp2_with (go_at_call 122; (with_reducible refine (h97 _ (bel w4 _)).mono ?_); rintro e w5 ⟨rfl, hs5, hb5, hbb5, hp5⟩; have hc5 := hp5 _ _ _ HC4.out.1 (by omega) (.inr (.inl rfl)); have iC5 := hc5.lt; have c50 : w5.cell? ⟨w.heap.size, 0, none⟩ = some (.int .i64 kd) := hc5.cell 0; have hr5 := hp5 _ _ _ HC4.out.2 (by omega) (.inr (.inr rfl)); have HX5 := Lib.hid (And.intro hs5 (And.intro hb5 (And.intro hr5 (And.intro hbb5 (H4.out.2.2.2.2.trans hp5))))); clear hs5 hb5 hbb5 hp5 hc5 hr5)
 refine abs_world (F := fun W => StOwn B W (.slice (some ⟨bi, 0, none⟩) S.ins.length cap) (.slice oa on oc) (.slice (some ⟨gm, 0, none⟩) S.made.length capm) S2 ∧ Blk W b #[.slice (some ⟨bi, 0, none⟩) S.ins.length cap, .slice oa on oc, .slice (some ⟨gm, 0, none⟩) S.made.length capm] 26 ∧ Blk W (w.heap.size + 1) #[.int .i64 0, .int .i64 0, .int .i64 0, .bool false, .string { data := #[] }, .slice none 0 0] 52 ∧ Blk W w5.heap.size #[.int .i64 num, .bool (kd == 1), .slice none 0 0, .string { data := #[] }] 68 ∧ Below B w W ∧ Spared b w W) ⟨HX5.out.1.on (bel w5 _), blk_on HX5.out.2.1 (bel w5 _), blk_on HX5.out.2.2.1 (bel w5 _), Blk.new_i _ _ _ _, HX5.out.2.2.2.1.trans ((bel w5 _).mono (Nat.le_trans hB HX5.out.2.2.2.1.size)), HX5.out.2.2.2.2.trans (Spared.of_below (bel w5 _))⟩ ?_
 clear HX5 iC5 c50 H4 HC4 HW4 iB4 iC4 iR4 c40 c41 h97 h94 h95 h96
 obtain ⟨g5, hg5⟩ : ∃ g5, w5.heap.size = g5 := ⟨_, rfl⟩
 rw [hg5]
 clear hg5
 rintro W ⟨ho, hbk, hrs, hnb, hBW, hSP⟩
 have hBle : B ≤ W.heap.size := Nat.le_trans hB hBW.size
 obtain ⟨u1, u2, is, u3, u4, u5, u6⟩ := ho
 rw [hl2] at u4
 obtain ⟨a, capx, e1, hai⟩ := u3.row.at_
 rw [lM, u4] at e1
 cases e1
 have hst : ∀ w2, Below W.heap.size W w2 → BlockLt b w2 ∧ w2.cell? ⟨b, 0, none⟩ = some (.slice (some ⟨bi, 0, none⟩) S.ins.length cap) ∧ w2.frozen? ⟨b, 0, none⟩ = false ∧ BlockLt g5 w2 ∧ w2.cell? ⟨g5, 0, none⟩ = some (.int .i64 num) ∧ w2.cell? ⟨g5, 1, none⟩ = some (.bool (kd == 1)) ∧ w2.cell? ⟨g5, 2, none⟩ = some (.slice none 0 0) ∧ w2.cell? ⟨g5, 3, none⟩ = some (.string { data := #[] }) := by
  intro w2 h2; have h3 := blk_on hbk h2; have h4 := blk_on hnb h2; exact ⟨h3.lt, h3.cell 0, h3.frozen 0, h4.lt, h4.cell 0, h4.cell 1, h4.cell 2, h4.cell 3⟩
 have hform : ∀ (q : Nat) (r : IRec), is[q]? = some r → ∃ a n c, r.ev = .slice a n c := by
  intro q r hr; obtain ⟨hl, _⟩ := gI.1 hr; exact (u5 q r _ hr (gE (by omega))).2.2.2.form
 obtain ⟨nr, hnr⟩ : ∃ nr : IRec, (⟨num, kd == 1, .slice none 0 0, { data := #[] }, rfl⟩ : IRec) = nr := ⟨_, rfl⟩
 have hnc : nr.cells = [.int .i64 num, .bool (kd == 1), .slice none 0 0, .string { data := #[] }] := by rw [← hnr]; rfl
 obtain ⟨R, hR⟩ : ∃ R, insF (fun r : IRec => decide (num < r.num)) nr is false [] = R := ⟨_, rfl⟩
 have hfin : ∀ (w1 : World) (v : Value), OwnP W.heap.size w1 68 4 v (R.map IRec.cells) → Below W.heap.size W w1 → Blk (w1.setCell ⟨b, 0, none⟩ v) b #[v, .slice oa on oc, .slice (some ⟨gm, 0, none⟩) S.made.length capm] 26 ∧ StOwn B (w1.setCell ⟨b, 0, none⟩ v) v (.slice oa on oc) (.slice (some ⟨gm, 0, none⟩) S.made.length capm) (mkK S K0 x nm k m (kd == 1)) ∧ Blk (w1.setCell ⟨b, 0, none⟩ v) (w.heap.size + 1) #[.int .i64 0, .int .i64 0, .int .i64 0, .bool false, .string { data := #[] }, .slice none 0 0] 52 ∧ Below B w (w1.setCell ⟨b, 0, none⟩ v) ∧ Spared b w (w1.setCell ⟨b, 0, none⟩ v) := by
  intro w1 v h1 h2; have hb1 := blk_on hbk h2; have hr1 := blk_on hrs h2; have hKb : Keep (fun g => g = b) w1 (w1.setCell ⟨b, 0, none⟩ v) := Keep.setCell (S := fun g => g = b) (p := ⟨b, 0, none⟩) (Keep.refl _ _) (.inl rfl) _; have hRi : R = insAt is (is.findIdx fun r => decide (num < r.num)) nr := by rw [← hR, insF_at]
  have hiv : OwnP B w1 68 4 v ((is.map IRec.cells).take (is.findIdx fun r => decide (num < r.num)) ++ [.int .i64 num, .bool (kd == 1), .slice none 0 0, .string { data := #[] }] :: (is.map IRec.cells).drop (is.findIdx fun r => decide (num < r.num))) := by
   have := h1.mono hBle; rw [hRi, insAt_map, hnc] at this; exact this
  have hs5 := setIns2 (S := S2) is u1 u2 (by omega) u5 u6 (Keep.of_below h2 (fun _ => False)) (fun _ h => h.elim) (is.findIdx fun r => decide (num < r.num)) (by rw [hl2, ← u4]; exact List.findIdx_le_length) num (kd == 1) hiv; have hidx : (is.findIdx fun r => decide (num < r.num)) = S2.ins.findIdx fun y => decide (num < y.num) := by
   have e : is.map IRec.num = S2.ins.map PIn.num := by
    apply List.ext_getElem?; intro q; rw [gM, gM]; by_cases hq : q < is.length
    · have hq2 : q < S2.ins.length := by omega
      have := (u5 q is[q] S2.ins[q] (gE hq) (gE hq2)).1; rw [gE hq, gE hq2]; simp [this]
    · rw [List.getElem?_eq_none (by omega), List.getElem?_eq_none (by omega)]; rfl
   have e1 : (is.findIdx fun r => decide (num < r.num)) = (is.map IRec.num).findIdx fun n => decide (num < n) := by rw [List.findIdx_map]; rfl
   have e2 : (S2.ins.findIdx fun y => decide (num < y.num)) = (S2.ins.map PIn.num).findIdx fun n => decide (num < n) := by rw [List.findIdx_map]; rfl
   rw [e1, e2, e]
  have hmk : ({ S2 with ins := insAt S2.ins (is.findIdx fun r => decide (num < r.num)) ⟨num, kd == 1, [], { data := #[] }⟩ } : PSt) = mkK S K0 x nm k m (kd == 1) := by
   unfold mkK; simp only; rw [HN.out, HS2.out, insF_at, hidx]
  rw [hmk] at hs5; refine ⟨hb1.set_ 0 v, hs5.keep hKb (fun g hg => by rw [hg]; exact ⟨_, 26, hb1, by decide, by decide, by decide, by decide⟩), hKb.blk hr1 (by omega), ?_, ?_⟩
  · exact (hBW.trans (h2.mono hBle)).trans (hKb.below (Nat.le_trans hBle h2.size) (fun i hi e => by omega))
  · exact (hSP.trans (Spared.of_below h2)).trans (Spared.set hb1 (.inl rfl))
 have HST := Lib.hid hst
 have HFO := Lib.hid hform
 have HNC := Lib.hid hnc
 have HR := Lib.hid hR
 have HFIN := Lib.hid hfin
 have HA := Lib.hid hai
 have HU := Lib.hid (And.intro u4 (And.intro hl2 hnr))
 have hil9 : S.ins.length ≤ 1000000000 := HH.out.2.2.1.1
 clear hst hform hnc hR hfin hai u1 u2 u3 u4 u5 u6 hbk hrs hnb hl2 hnr
 go_loopw [10, 11, 12] (fun v10 v11 i wr => ∃ (q : Nat) (d : Bool) (zs : List IRec), i = .int .i64 q ∧ v11 = .bool d ∧ q ≤ S.ins.length ∧ zs.length ≤ 2 * q ∧ OwnP W.heap.size wr 68 4 v10 (zs.map IRec.cells) ∧ insF (fun r : IRec => decide (num < r.num)) nr (is.drop q) d zs = R ∧ Below W.heap.size W wr) (fun _ _ i _ => (S.ins.length - intOf i).toNat)
 case atStart => exact ⟨0, false, [], rfl, rfl, by omega, by simp, .inl ⟨rfl, rfl⟩, HR.out, Below.refl _ _⟩
 case round =>
  obtain ⟨q, d, zs, rfl, rfl, hq, hzl, hO, hre, hbw⟩ := hrel; have iB : Bel W wr := ⟨hbw⟩
  obtain ⟨iL, t0, tf, iG5, n0, n1, n2, n3⟩ := HST.out wr hbw; obtain ⟨va, vn, vc, rfl⟩ := hO.form; have HO := Lib.hid hO; clear hO; by_cases hlt : q < S.ins.length
  · have hltq : q < is.length := by have := HU.out.1; omega
    obtain ⟨r, hr⟩ : ∃ r, is[q]? = some r := ⟨_, gE hltq⟩
    rw [insF_drop _ _ _ q r d zs hr] at hre; obtain ⟨ra, rn2, rc, hrev⟩ := HFO.out q r hr; obtain ⟨be, oe, he, iE0, iE, hce⟩ := HA.out wr hbw q r.cells (by rw [gM, hr]; rfl); cases he; have hcz : ∀ w2, Below W.heap.size W w2 → BlockLt bi w2 ∧ w2.cell? ⟨bi, q * 4, none⟩ = some (.int .i64 r.num) ∧ w2.cell? ⟨bi, q * 4 + 1, none⟩ = some (.bool r.dir) ∧ w2.cell? ⟨bi, q * 4 + 2, none⟩ = some r.ev ∧ w2.cell? ⟨bi, q * 4 + 3, none⟩ = some (.string r.data) := by
     intro w2 h2; obtain ⟨be', oe', he, _, i2, hc⟩ := HA.out w2 h2 q r.cells (by rw [gM, hr]; rfl); cases he; have h0 := hc 0 _ rfl; have h1 := hc 1 _ rfl; have h2 := hc 2 _ rfl; have h3 := hc 3 _ rfl; simp only [Nat.zero_add, Nat.add_zero] at h0 h1 h2 h3; exact ⟨i2, h0, h1, h2, h3⟩
    have hltI : (q : Int) < S.ins.length := by omega
    clear hce hr; obtain ⟨rn, rd, re, rs, ro⟩ := r; simp only at hrev; subst hrev; simp only at hcz hre; obtain ⟨-, c0, c1, c2, c3⟩ := hcz wr hbw; have HCZ := Lib.hid hcz; clear hcz; rcases d with _ | _
    · rw [if_neg (by decide)] at hre; by_cases hA : num < rn
      · rw [if_pos (decide_eq_true hA)] at hre; have HRE := Lib.hid hre; clear hre; go_wp2_with (at_builtin; refine app65 rfl (.tmp 112) (.tmp 114) rfl W.heap.size _ (.slice (some ⟨wr.heap.size, 0, none⟩) 1 1) zs [nr] rfl (by go_simp) (HO.out.below (bel wr _)) (by rw [List.map_cons, HNC.out]; exact RowAt.single (Blk.new_i _ _ _ _) 4 1) (by simp; omega) (bel W _).size ?_)
        intro v' w' hg; have hbg := hg.on (HO.out.below (bel wr _)) (bel W _).size; have hb2 := (bel W _).trans hbg; have hO2 : OwnP W.heap.size w' 68 4 v' ((zs ++ [nr]).map IRec.cells) := by have := hg.1; simpa using this
        have i2 : Bel W w' := ⟨hb2⟩
        obtain ⟨iE2, d0, d1, d2, d3⟩ := HCZ.out w' hb2; obtain ⟨iL2, y0, yf, iG6, m0, m1, m2, m3⟩ := HST.out w' hb2; have H2 := Lib.hid hO2; clear hg hbg hO2 hb2 c0 c1 c2 c3 iE iL t0 tf iG5 n0 n1 n2 n3; go_wp2_with (at_builtin; refine app65 rfl (.tmp 116) (.tmp 124) rfl W.heap.size _ _ (zs ++ [nr]) [(⟨rn, rd, .slice ra rn2 rc, rs, ro⟩ : IRec)] rfl (by go_simp) (H2.out.below (bel w' _)) (RowAt.single (Blk.new_i _ _ _ _) 4 1) (by simp; omega) (bel W _).size ?_)
        intro v2 w2 hg; have hbg := hg.on (H2.out.below (bel w' _)) (bel W _).size; have hb3 := (bel W _).trans hbg; have hO3 : OwnP W.heap.size w2 68 4 v2 ((zs ++ [nr] ++ [(⟨rn, rd, .slice ra rn2 rc, rs, ro⟩ : IRec)]).map IRec.cells) := by have := hg.1; simpa using this
        have H3 := Lib.hid (And.intro hO3 hb3); clear hg hbg hO3 hb3; go_wp2_with fail
        go_roundw
        case rel => exact ⟨q + 1, true, _, by go_num, rfl, by omega, by simp; omega, H3.out.1, HRE.out, H3.out.2⟩
        case measure => simp [intOf]; omega
      · rw [if_neg (by rw [decide_eq_false hA]; decide)] at hre; have HRE := Lib.hid hre; clear hre; go_wp2_with (at_builtin; refine app65 rfl (.tmp 116) (.tmp 124) rfl W.heap.size _ _ zs [(⟨rn, rd, .slice ra rn2 rc, rs, ro⟩ : IRec)] rfl (by go_simp) (HO.out.below (bel wr _)) (RowAt.single (Blk.new_i _ _ _ _) 4 1) (by simp; omega) (bel W _).size ?_)
        intro v' w' hg; have hbg := hg.on (HO.out.below (bel wr _)) (bel W _).size; have hb2 := (bel W _).trans hbg; have hO2 : OwnP W.heap.size w' 68 4 v' ((zs ++ [(⟨rn, rd, .slice ra rn2 rc, rs, ro⟩ : IRec)]).map IRec.cells) := by have := hg.1; simpa using this
        have H2 := Lib.hid (And.intro hO2 hb2); clear hg hbg hO2 hb2; go_wp2_with fail
        go_roundw
        case rel => exact ⟨q + 1, false, _, by go_num, rfl, by omega, by simp; omega, H2.out.1, HRE.out, H2.out.2⟩
        case measure => simp [intOf]; omega
    · rw [if_pos rfl] at hre; have HRE := Lib.hid hre; clear hre; go_wp2_with (at_builtin; refine app65 rfl (.tmp 116) (.tmp 124) rfl W.heap.size _ _ zs [(⟨rn, rd, .slice ra rn2 rc, rs, ro⟩ : IRec)] rfl (by go_simp) (HO.out.below (bel wr _)) (RowAt.single (Blk.new_i _ _ _ _) 4 1) (by simp; omega) (bel W _).size ?_)
      intro v' w' hg; have hbg := hg.on (HO.out.below (bel wr _)) (bel W _).size; have hb2 := (bel W _).trans hbg; have hO2 : OwnP W.heap.size w' 68 4 v' ((zs ++ [(⟨rn, rd, .slice ra rn2 rc, rs, ro⟩ : IRec)]).map IRec.cells) := by have := hg.1; simpa using this
      have H2 := Lib.hid (And.intro hO2 hb2); clear hg hbg hO2 hb2; go_wp2_with fail
      go_roundw
      case rel => exact ⟨q + 1, true, _, by go_num, rfl, by omega, by simp; omega, H2.out.1, HRE.out, H2.out.2⟩
      case measure => simp [intOf]; omega
  · rw [insF_end _ _ _ q d zs (by have := HU.out.1; omega)] at hre; have hltI : ¬ (q : Int) < S.ins.length := by omega
    rcases d with _ | _
    · rw [if_neg (by decide)] at hre; have HRE := Lib.hid hre; clear hre; go_wp2_with (at_builtin; refine app65 rfl (.tmp 128) (.tmp 130) rfl W.heap.size _ (.slice (some ⟨wr.heap.size, 0, none⟩) 1 1) zs [nr] rfl (by go_simp) (HO.out.below (bel wr _)) (by rw [List.map_cons, HNC.out]; exact RowAt.single (Blk.new_i _ _ _ _) 4 1) (by simp; omega) (bel W _).size ?_)
      intro v' w' hg; have hbg := hg.on (HO.out.below (bel wr _)) (bel W _).size; have hb2 := (bel W _).trans hbg; have hO2 : OwnP W.heap.size w' 68 4 v' ((zs ++ [nr]).map IRec.cells) := by have := hg.1; simpa using this
      rw [HRE.out] at hO2; have i2 : Bel W w' := ⟨hb2⟩
      obtain ⟨iL2, y0, yf, iG6, m0, m1, m2, m3⟩ := HST.out w' hb2; have hf := HFIN.out w' v' hO2 hb2; obtain ⟨wa, wn, wc, rfl⟩ := hO2.form; have HF := Lib.hid hf; clear hg hbg hO2 hb2 hf t0 tf iL iG5 n0 n1 n2 n3 m0 m1 m2 m3 iG6
      go_upto_region 24 with fail
      refine abs_world (F := fun wz => Blk wz b #[.slice wa wn wc, .slice oa on oc, .slice (some ⟨gm, 0, none⟩) S.made.length capm] 26 ∧ StOwn B wz (.slice wa wn wc) (.slice oa on oc) (.slice (some ⟨gm, 0, none⟩) S.made.length capm) (mkK S K0 x nm k m (kd == 1)) ∧ Blk wz (w.heap.size + 1) #[.int .i64 0, .int .i64 0, .int .i64 0, .bool false, .string { data := #[] }, .slice none 0 0] 52 ∧ Below B w wz ∧ Spared b w wz) HF.out ?_; rintro wz ⟨f1, f2, f3, f4, f5⟩; have l3 := f3.lt; have g0 := f3.cell 0; have g1 := f3.cell 1; have g2 := f3.cell 2; have g3 := f3.cell 3; have g4 := f3.cell 4; have g5' := f3.cell 5; have fz0 := f3.frozen 0; have fz1 := f3.frozen 1; have fz2 := f3.frozen 2; have fz3 := f3.frozen 3; have fz4 := f3.frozen 4; have fz5 := f3.frozen 5; simp at g0 g1 g2 g3 g4 g5'; have HZ := Lib.hid (And.intro f1 (And.intro f2 (And.intro f3 (And.intro f4 f5)))); have hr55 : ∀ ww, Calls Tryz.prog 92 #[.int .i64 0] ww fun e w' => e = .returned (.agg #[.int .i64 0, .int .i64 0, .int .i64 0, .bool false, .string { data := #[] }, .slice none 0 0]) ∧ Below ww.heap.size ww w' := fun ww => fail55 0 ww
      clear f1 f2 f3 f4 f5; go_wp2_with ((go_at_call 92; with_reducible refine aT (hr55 _) fun p => ?_))
      exact bodyPost_ret (v := resV 0 0 0) (by unfold results; simp only [Tryz.results93, resV]; go_simp) rfl ⟨rfl, fin46 (r := w.heap.size + 1) keep46 (by omega) hblt hB HZ.out.2.2.1 HZ.out.1 HZ.out.2.1 HZ.out.2.2.2.1 HZ.out.2.2.2.2⟩
    · rw [if_pos rfl] at hre; subst hre; have hf := HFIN.out wr _ HO.out hbw; have HF := Lib.hid hf; clear hf n0 n1 n2 n3 iG5
      go_upto_region 24 with fail
      refine abs_world (F := fun wz => Blk wz b #[.slice va vn vc, .slice oa on oc, .slice (some ⟨gm, 0, none⟩) S.made.length capm] 26 ∧ StOwn B wz (.slice va vn vc) (.slice oa on oc) (.slice (some ⟨gm, 0, none⟩) S.made.length capm) (mkK S K0 x nm k m (kd == 1)) ∧ Blk wz (w.heap.size + 1) #[.int .i64 0, .int .i64 0, .int .i64 0, .bool false, .string { data := #[] }, .slice none 0 0] 52 ∧ Below B w wz ∧ Spared b w wz) HF.out ?_; rintro wz ⟨f1, f2, f3, f4, f5⟩; have l3 := f3.lt; have g0 := f3.cell 0; have g1 := f3.cell 1; have g2 := f3.cell 2; have g3 := f3.cell 3; have g4 := f3.cell 4; have g5' := f3.cell 5; have fz0 := f3.frozen 0; have fz1 := f3.frozen 1; have fz2 := f3.frozen 2; have fz3 := f3.frozen 3; have fz4 := f3.frozen 4; have fz5 := f3.frozen 5; simp at g0 g1 g2 g3 g4 g5'; have HZ := Lib.hid (And.intro f1 (And.intro f2 (And.intro f3 (And.intro f4 f5)))); have hr55 : ∀ ww, Calls Tryz.prog 92 #[.int .i64 0] ww fun e w' => e = .returned (.agg #[.int .i64 0, .int .i64 0, .int .i64 0, .bool false, .string { data := #[] }, .slice none 0 0]) ∧ Below ww.heap.size ww w' := fun ww => fail55 0 ww
      clear f1 f2 f3 f4 f5; go_wp2_with ((go_at_call 92; with_reducible refine aT (hr55 _) fun p => ?_))
      exact bodyPost_ret (v := resV 0 0 0) (by unfold results; simp only [Tryz.results93, resV]; go_simp) rfl ⟨rfl, fin46 (r := w.heap.size + 1) keep46 (by omega) hblt hB HZ.out.2.2.1 HZ.out.1 HZ.out.2.1 HZ.out.2.2.2.1 HZ.out.2.2.2.2⟩
theorem opened57g (B b : Nat) (S : PSt) (iv ov mv : Value) (kd core f0 off nu : Int) (path p2 dt : ByteArray) (num : Int) (K : Nat) (x : PIn) (J : Int) (w : World) (hb : Blk w b #[iv, ov, mv] 26) (ho : StOwn B w iv ov mv S) (hB : B ≤ w.heap.size) (hBb : B ≤ b) (hfR : FineR S) (hfind : findR S path = (num, 0))
 (hat : atR S num = K) (hx : S.ins[K]? = some x) (hd : x.dir = false) (hJ0 : 0 ≤ J) (hJ3 : J ≤ 3) (hJf : fdR S core J = 0) (hJl : ∀ i : Int, 0 ≤ i → i < J → fdR S core i ≠ 0) :
 Calls Tryz.prog 94 #[.pointer (some ⟨b, 0, none⟩), .agg #[.int .i64 kd, .int .i64 core, .int .i64 f0, .int .i64 off, .int .i64 nu, .string path, .string p2, .string dt], .int .i64 (-1)] w fun e w' => e = .returned (.tuple #[resV 0 J 0, .bool true]) ∧ Below B w w' ∧ Spared b w w' ∧ ∃ iv' ov' mv', Blk w' b #[iv', ov', mv'] 26 ∧ StOwn B w' iv' ov' mv' { S with op := insF (aheadD core J) ⟨core, J, num⟩ S.op false [] } := by
 have hwf := hfR.wf
 have h98 : ∀ ww, Below w.heap.size w ww → Calls Tryz.prog 46 #[.agg #[iv, ov, mv], .string path] ww fun e w' => e = .returned (.tuple #[.int .i64 num, .int .i64 0]) ∧ Below ww.heap.size ww w' := fun ww hb => by
  have := find98g S iv ov mv path ww (ho.read.below hb (Nat.le_refl _)) hfR; rw [hfind] at this; exact this
 have h51 : ∀ ww, Below w.heap.size w ww → Calls Tryz.prog 85 #[.agg #[iv, ov, mv], .int .i64 num] ww fun e w' => e = .returned (.int .i64 (K : Int)) ∧ Below ww.heap.size ww w' := fun ww hb => by
  have := at51 S iv ov mv num ww (ho.read.below hb (Nat.le_refl _)) hwf.1; rw [hat] at this; exact this
 have h99 : ∀ i ww, Below w.heap.size w ww → Calls Tryz.prog 43 #[.agg #[iv, ov, mv], .int .i64 core, .int .i64 i] ww fun e w' => e = .returned (.int .i64 (fdR S core i)) ∧ Below ww.heap.size ww w' := fun i ww hb => fd99 S iv ov mv core i ww (ho.read.below hb (Nat.le_refl _)) hwf.2.1
 obtain ⟨hxl, -⟩ := gI.1 hx
 obtain ⟨bi, cap, rfl⟩ := ho.ins_form (by omega)
 obtain ⟨ma, mn, mc, rfl⟩ := ho.2.1.form
 obtain ⟨oa, on, oc, rfl⟩ := ho.1.form
 obtain ⟨a, cap', e1, hai⟩ := ho.read.ins_at2
 cases e1
 obtain ⟨bi', oi, ev, he, iI0, hoi, her, hci⟩ := hai K x hx
 cases he
 obtain ⟨iI, -, x1, -, -⟩ := hci w (Below.refl _ _)
 rw [hd] at x1
 simp only [Nat.zero_add] at x1
 have hKI : (K : Int) < S.ins.length := by omega
 have iL := hb.lt
 have hblt : b < w.heap.size := hb.lt.lt
 have s0 := hb.cell 0
 have s1 := hb.cell 1
 have s2 := hb.cell 2
 simp at s0 s1 s2
 have hol := hwf.2.1
 have HH := Lib.hid (And.intro hb (And.intro ho (And.intro hwf trivial)))
 clear hb ho hwf hx hd hat hai her hci hoi hfR hfind
 go_enter Tryz.func94, Tryz.ntmps94
 go_upto_region 1 with fail
 refine wp_region_quiet_rest (by kernel_rfl) (by kernel_rfl) (WQ.out ?_)
 repeat
  refine WQ_step (fun K hK => ?_); go_simp
  first
   | (refine hK _ ?_; clear hK K)
   | (apply Exists.intro
      refine ⟨fun _ => ?_, hK _ ?_⟩
      focus ((with_reducible first | refine cI (h98 _ (bel _ _)) | refine cJ (h98 _ (bel _ _))))
      clear hK K)
 refine WN fun p => ?_
 go_wp2_with fail
 refine wp_region_quiet_rest (by kernel_rfl) (by kernel_rfl) (WQ.out ?_)
 repeat
  refine WQ_step (fun K hK => ?_); go_simp
  first
   | (refine hK _ ?_; clear hK K)
   | (apply Exists.intro
      refine ⟨fun _ => ?_, hK _ ?_⟩
      focus ((with_reducible first | refine cI (h51 _ (bel _ _)) | refine cJ (h51 _ (bel _ _))))
      clear hK K)
 refine WN fun p => ?_
 go_wp2_with fail
 refine abs_world (F := fun wa => StOwn B wa (.slice (some ⟨bi, 0, none⟩) S.ins.length cap) (.slice oa on oc) (.slice ma mn mc) S ∧ Blk wa b #[.slice (some ⟨bi, 0, none⟩) S.ins.length cap, .slice oa on oc, .slice ma mn mc] 26 ∧ Blk wa w.heap.size #[.int .i64 kd, .int .i64 core, .int .i64 f0, .int .i64 off, .int .i64 nu, .string path, .string p2, .string dt] 28 ∧ Blk wa (w.heap.size + 1) #[.int .i64 0, .int .i64 0, .int .i64 0, .bool false, .string { data := #[] }, .slice none 0 0] 52 ∧ Below w.heap.size w wa) ⟨HH.out.2.1.on (bel w _), blk_on HH.out.1 (bel w _), blk_on (Blk.new w #[.int .i64 kd, .int .i64 core, .int .i64 f0, .int .i64 off, .int .i64 nu, .string path, .string p2, .string dt] 28) (bel _ _), blk_on (Blk.new_i (w.alloc (.cells #[.int .i64 kd, .int .i64 core, .int .i64 f0, .int .i64 off, .int .i64 nu, .string path, .string p2, .string dt] 28)) #[.int .i64 0, .int .i64 0, .int .i64 0, .bool false, .string { data := #[] }, .slice none 0 0] 52 (w.heap.size + 1)) (bel _ _), bel w _⟩ ?_
 clear s0 s1 s2 x1 iI iL
 rintro wa ⟨ho, hb, hbc, hbr, hbw⟩
 have HW := Lib.hid (And.intro ho (And.intro hb (And.intro hbc (And.intro hbr hbw))))
 clear ho hb hbc hbr hbw
 go_loopw [10, 11] (fun v10 v11 wr => ∃ i j : Int, v11 = .int .i64 i ∧ v10 = .int .i64 j ∧ -1 ≤ i ∧ i ≤ 3 ∧ ((J ≤ i ∧ (j = -1 ∨ i < j)) ∨ (i < J ∧ j = J)) ∧ Below wa.heap.size wa wr) (fun _ i _ => (intOf i + 1).toNat)
 case atStart => exact ⟨3, -1, rfl, rfl, by omega, by omega, .inl ⟨hJ3, .inl rfl⟩, Below.refl _ _⟩
 case round =>
  obtain ⟨i, j, rfl, rfl, hi1, hi3, hj, hbw⟩ := hrel; have hbW : Below w.heap.size w wr := HW.out.2.2.2.2.trans (hbw.mono HW.out.2.2.2.2.size); have iB : Bel w wr := ⟨hbW⟩
  have hb := blk_on HW.out.2.1 hbw; have hc := blk_on HW.out.2.2.1 hbw; have iL := hb.lt; have iC := hc.lt; have s0 := hb.cell 0; have s1 := hb.cell 1; have s2 := hb.cell 2; have q1 := hc.cell 1; simp at s0 s1 s2 q1; clear hb hc; by_cases h0 : 0 ≤ i
  · have h99i := fun ww hb => h99 i ww hb
    have wi : IntKind.i64.wrap (i - 1) = i - 1 := I64.wrap ⟨by omega, by omega⟩; have hstep : (fdR S core i = 0 → ((J ≤ i - 1 ∧ (i = -1 ∨ i - 1 < i)) ∨ (i - 1 < J ∧ i = J))) ∧ (fdR S core i ≠ 0 → ((J ≤ i - 1 ∧ (j = -1 ∨ i - 1 < j)) ∨ (i - 1 < J ∧ j = J))) := by
     refine ⟨fun h0' => ?_, fun h0' => ?_⟩
     · by_cases hlt : i < J
       · exact absurd h0' (hJl i h0 hlt)
       · by_cases he : i = J
         · exact .inr ⟨by omega, he⟩
         · exact .inl ⟨by omega, .inr (by omega)⟩
     · have hne : i ≠ J := fun e => h0' (by rw [e]; exact hJf)
       rcases hj with ⟨h1, h2⟩ | ⟨h1, h2⟩
       · exact .inl ⟨by omega, by omega⟩
       · exact .inr ⟨by omega, h2⟩
    have HST := Lib.hid hstep; clear hj h99 hstep hJf hJl hJ0 hJ3; generalize fdR S core i = fi at h99i HST; by_cases hfi : fi = 0
    · subst hfi; have hr := HST.out.1 rfl; have HR := Lib.hid hr; clear hr HST
      go_upto_region 10 with fail
      refine wp_region_quiet_rest (by kernel_rfl) (by kernel_rfl) (WQ.out ?_)
      repeat
       refine WQ_step (fun K hK => ?_); go_simp
       first
        | (refine hK _ ?_; clear hK K)
        | (apply Exists.intro
           refine ⟨fun _ => ?_, hK _ ?_⟩
           focus ((with_reducible first | refine cI (h99i _ (bel _ _)) | refine cJ (h99i _ (bel _ _))))
           clear hK K)
      refine WN fun p => ?_; go_wp2_with fail
      go_roundw
      case rel => exact ⟨i - 1, i, by go_num, rfl, by omega, by omega, HR.out, bel wr _ |> fun h => hbw.trans (h.mono hbw.size)⟩
      case measure => simp [intOf]; omega
    · have hfb : (fi == 0) = false := by simpa using hfi
      have hr := HST.out.2 hfi; have HR := Lib.hid hr; clear hr HST
      go_upto_region 10 with fail
      refine wp_region_quiet_rest (by kernel_rfl) (by kernel_rfl) (WQ.out ?_)
      repeat
       refine WQ_step (fun K hK => ?_); go_simp
       first
        | (refine hK _ ?_; clear hK K)
        | (apply Exists.intro
           refine ⟨fun _ => ?_, hK _ ?_⟩
           focus ((with_reducible first | refine cI (h99i _ (bel _ _)) | refine cJ (h99i _ (bel _ _))))
           clear hK K)
      refine WN fun p => ?_; go_wp2_with fail
      go_roundw
      case rel => exact ⟨i - 1, j, by go_num, rfl, by omega, by omega, HR.out, bel wr _ |> fun h => hbw.trans (h.mono hbw.size)⟩
      case measure => simp [intOf]; omega
  · obtain rfl : i = -1 := by omega
    obtain rfl : J = j := by rcases hj with ⟨h1, h2⟩ | ⟨h1, h2⟩ <;> omega
    have h990 := fun ww hb => h99 J ww hb
    rw [hJf] at h990; have hj0 : ¬ J < 0 := by omega
    have hj4 : ¬ 4 ≤ J := by omega
    have hj4b : decide (4 ≤ J) = false := decide_eq_false hj4; clear hj h99 hJl hJf; go_wp2_with fail; refine wp_region_quiet_rest (by kernel_rfl) (by kernel_rfl) (WQ.out ?_)
    repeat
     refine WQ_step (fun K hK => ?_); go_simp
     first
      | (refine hK _ ?_; clear hK K)
      | (apply Exists.intro
         refine ⟨fun _ => ?_, hK _ ?_⟩
         focus ((with_reducible first | refine cI (h990 _ (bel _ _)) | refine cJ (h990 _ (bel _ _))))
         clear hK K)
    refine WN fun p => ?_
    go_upto_region 18 with fail
    refine abs_world (F := fun wz => StOwn B wz (.slice (some ⟨bi, 0, none⟩) S.ins.length cap) (.slice oa on oc) (.slice ma mn mc) S ∧ Blk wz b #[.slice (some ⟨bi, 0, none⟩) S.ins.length cap, .slice oa on oc, .slice ma mn mc] 26 ∧ Blk wz w.heap.size #[.int .i64 kd, .int .i64 core, .int .i64 f0, .int .i64 off, .int .i64 nu, .string path, .string p2, .string dt] 28 ∧ Blk wz (w.heap.size + 1) #[.int .i64 0, .int .i64 0, .int .i64 0, .bool false, .string { data := #[] }, .slice none 0 0] 52 ∧ Below w.heap.size w wz) ⟨(HW.out.1.on hbw).on (bel wr _), blk_on (blk_on HW.out.2.1 hbw) (bel wr _), blk_on (blk_on HW.out.2.2.1 hbw) (bel wr _), blk_on (blk_on HW.out.2.2.2.1 hbw) (bel wr _), bel w _⟩ ?_; clear s0 s1 s2 q1 iL iC iB hbW hbw HW; rintro wz ⟨ho, hb, hc, hr, hbw⟩; have hBz : B ≤ wz.heap.size := Nat.le_trans hB hbw.size; have iC := hc.lt; have q1 := hc.cell 1; simp at q1; have h100 : Calls Tryz.prog 123 #[.pointer (some ⟨b, 0, none⟩), .int .i64 core, .int .i64 J, .int .i64 num] wz fun e w' => e = .returned (.tuple #[]) ∧ Below B wz w' ∧ Keep (fun g => g = b) wz w' ∧ ∃ ov', Blk w' b #[.slice (some ⟨bi, 0, none⟩) S.ins.length cap, ov', .slice ma mn mc] 26 ∧ StOwn B w' (.slice (some ⟨bi, 0, none⟩) S.ins.length cap) ov' (.slice ma mn mc) { S with op := insF (aheadD core J) ⟨core, J, num⟩ S.op false [] } := grab100 B b S _ _ _ core J num wz hb ho hBz hBb hol
    have HZ := Lib.hid (And.intro hc (And.intro hr hbw)); clear ho hb hc hr hbw
    go_upto_region 19 with (go_at_call 123; (with_reducible refine h100.mono ?_); rintro e w5 ⟨rfl, hb5, hk5, ov5, hb55, hs5⟩; have HX5 := Lib.hid (And.intro hb5 (And.intro hk5 (And.intro hb55 hs5))); clear hb5 hk5 hb55 hs5)
    have f3 := HX5.out.2.1.blk HZ.out.2.1 (by omega); have l3 := f3.lt; have g0 := f3.cell 0; have g1 := f3.cell 1; have g2 := f3.cell 2; have g3 := f3.cell 3; have g4 := f3.cell 4; have g5' := f3.cell 5; have fz0 := f3.frozen 0; have fz1 := f3.frozen 1; have fz2 := f3.frozen 2; have fz3 := f3.frozen 3; have fz4 := f3.frozen 4; have fz5 := f3.frozen 5; simp at g0 g1 g2 g3 g4 g5'; have HF3 := Lib.hid f3; clear f3 q1 iC; go_wp2_with fail; exact bodyPost_ret (v := .tuple #[resV 0 J 0, .bool true]) (by unfold results; simp only [Tryz.results94, resV]; go_simp) rfl ⟨rfl, fin46 (r := w.heap.size + 1) keep46n (by omega) hblt hB HF3.out HX5.out.2.2.1 HX5.out.2.2.2 ((HZ.out.2.2.mono hB).trans HX5.out.1) ((Spared.of_below HZ.out.2.2).trans (fun g c t hb hn _ => HX5.out.2.1.blk hb hn))⟩
end Go.Proofs.YtmkapobnfigedaaGreatDoor
namespace Go
section
variable {P : Program} {l : List Oper} {Q : Exit → Act → World → Prop}
theorem wp_region_inv {id : Nat} (R : (Nat → Prop) → (Nat → Value) → World → Prop) {a0 : Act} {w : World} (hm : P.follows .mixedOrders = true) (hB : (Region.invB l && l.all fun o => o.guard == none) = true) (hsz : ((dstsL l).all fun d => decide (d < a0.tmps.size)) = true)
 (h0 : ∀ σ, R (fun j => l.length ≤ j) σ w.drew)
 (hstep : EachOp (fun i o => ∀ (D : Nat → Prop) (σ : Nat → Value) (w : World) (a : Act), ¬ D i → (∀ k, o.waits.contains k = true → D k) → R D σ w → (∀ j q d, l[j]? = some q → q.dst = some d → a.eval (.tmp d) = σ j) → (∀ d, (dstsL l).contains d = false → a.eval (.tmp d) = a0.eval (.tmp d)) →
  o.eff P a w fun v w' => R (fun j => j = i ∨ D j) (updV σ i v) w') 0 l)
 (hend : ∀ σ w, R (fun _ => True) σ w → Q .normal (putsL σ 0 l a0) w) : (Code.region id l.toArray true).wp P Q a0 w := by
 simp only [Bool.and_eq_true, List.all_eq_true, beq_iff_eq] at hB
 refine wp_region_invW R hm hB.1 hsz h0 (EachOp.imp (fun j o ho hp => ?_) hstep) hend
 intro D σ w a h1 h2 h3 h4 h5 _
 have hw : Region.wanted o (yielded l.toArray a.tmps) = true := by
  unfold Region.wanted; rw [hB.2 o (mG ho)]
 exact ⟨fun _ => Oper.wpW (hp D σ w a h1 h2 h3 h4 h5), fun e => by rw [hw] at e; cases e⟩
end
end Go
namespace Go.Proofs.YtmkapobnfigedaaGreatDoor
open Go.RowKit
section
variable {N A T : Nat} {V : Nat → Value} {z y : Array Value} {t : TypeId} {w0 w w' : World} {D : Nat → Prop} {σ : Nat → Value}
end
end Go.Proofs.YtmkapobnfigedaaGreatDoor
