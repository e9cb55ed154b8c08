/- Part of the proof of a law of chapter 15. Conditions: none. -/
import Derived.Test.YtmkapobnfigedaaGreatDoorDp08
set_option linter.unusedVariables false
set_option linter.unusedSimpArgs false
set_option maxRecDepth 100000
set_option maxHeartbeats 8000000
namespace Go.Proofs.YtmkapobnfigedaaGreatDoor
open Go.RowKit
def inBucket (s but : ByteArray) (e : PEnt) : Bool := !(e.name.toList == but.toList) && (bucketM e.name == bucketM s)
def cntB (s but : ByteArray) : List PEnt → Nat
 | [] => 0
 | e :: r => if inBucket s but e = true then cntB s but r + 1 else cntB s but r
theorem cntB_drop {s but : ByteArray} {es : List PEnt} {q : Nat} {e : PEnt} (h : es[q]? = some e) : cntB s but (es.drop q) = if inBucket s but e = true then cntB s but (es.drop (q + 1)) + 1 else cntB s but (es.drop (q + 1)) := by rw [drop_at h]; rfl
theorem cntB_le (s but : ByteArray) : ∀ es : List PEnt, cntB s but es ≤ es.length
 | [] => by simp [cntB]
 | e :: r => by
   have := cntB_le s but r; unfold cntB
   split <;> simp only [List.length_cons] <;> omega
def fullM (es : List PEnt) (s but : ByteArray) : Bool := decide (4 ≤ cntB s but es)
theorem full116 (bx ox : Nat) (es : List PEnt) (ev : Value) (s but : ByteArray) (w : World) (ib : BlockLt bx w) (hc : w.cell? ⟨bx, ox + 2, none⟩ = some ev) (he : RowAt w 2 ev (es.map PEnt.cells)) (hlen : es.length ≤ 1000000000) :
 Calls Tryz.prog 173 #[.pointer (some ⟨bx, ox, none⟩), .string s, .string but] w fun e w' => e = .returned (.bool (fullM es s but)) ∧ Below w.heap.size w w' := by
 have hbk : ∀ ww (n : ByteArray), Calls Tryz.prog 133 #[.string n] ww _ := fun ww n => bucket137 n ww
 obtain ⟨ae, ce, rfl, hat⟩ := he.at_
 rw [lM] at hc
 have HE := Lib.hid hat
 clear hat he
 have hcl := cntB_le s but es
 unfold fullM
 obtain ⟨N, hN⟩ : ∃ N, cntB s but es = N := ⟨_, rfl⟩
 rw [hN] at hcl ⊢
 have HN := Lib.hid hN
 clear hN
 go_enter Tryz.func173, Tryz.ntmps173
 go_wp2_with fail
 go_loopw [7, 15] (fun vn vi wr => ∃ (q n : Nat), vi = .int .i64 q ∧ vn = .int .i64 n ∧ q ≤ es.length ∧ n + cntB s but (es.drop q) = N ∧ Below w.heap.size w wr) (fun _ vi _ => (es.length - intOf vi).toNat)
 case atStart => exact ⟨0, 0, rfl, rfl, by omega, by simpa using HN.out, bel _ _⟩
 case round =>
  obtain ⟨q, n, rfl, rfl, hq, hre, hb⟩ := hrel; have iB : Bel w wr := ⟨hb⟩
  by_cases hlt : q < es.length
  · obtain ⟨e, hz⟩ : ∃ e, es[q]? = some e := ⟨_, gE hlt⟩
    obtain ⟨be, oe, rfl, iE0, iE, hce⟩ := HE.out wr hb q e.cells (by rw [gM, hz]; rfl); have e0 := hce 0 _ rfl; have e1 := hce 1 _ rfl; rw [Nat.add_zero] at e0; rw [cntB_drop hz] at hre; unfold inBucket at hre; have k1 := hbk; have ew : wrap64 ((n : Int) + 1) = (n : Int) + 1 := by simp only [wrap64]; omega
    generalize hb1 : (e.name.toList == but.toList) = b1 at hre; generalize hg1 : bucketM e.name = g1 at hre; generalize hg2 : bucketM s = g2 at hre; have hk1 : ∀ ww, Calls Tryz.prog 133 #[.string e.name] ww fun e w' => e = .returned (.int .i64 g1) ∧ Below ww.heap.size ww w' := fun ww => by rw [← hg1]; exact bucket137 e.name ww
    have hk2 : ∀ ww, Calls Tryz.prog 133 #[.string s] ww fun e w' => e = .returned (.int .i64 g2) ∧ Below ww.heap.size ww w' := fun ww => by rw [← hg2]; exact bucket137 s ww
    clear hz hce hbk k1 hg1 hg2; rcases b1 with _ | _
    · simp only [Bool.not_false, Bool.true_and] at hre; generalize hg : (g1 == g2) = gg at hre; rcases gg with _ | _
      · simp only [Bool.false_eq_true, if_false] at hre; have HR := Lib.hid hre; clear hre; go_wp2_with (first | (go_at_call 133; refine aT (hk1 _) fun p => ?_) | (go_at_call 133; refine aT (hk2 _) fun p => ?_))
        go_roundw
        case rel => exact ⟨q + 1, n, by go_num, rfl, by omega, HR.out, bel _ _⟩
        case measure => simp [intOf]; omega
      · simp only [if_true] at hre; have HR := Lib.hid hre; clear hre; go_wp2_with (first | (go_at_call 133; refine aT (hk1 _) fun p => ?_) | (go_at_call 133; refine aT (hk2 _) fun p => ?_))
        go_roundw
        case rel => exact ⟨q + 1, n + 1, by go_num, by go_num, by omega, by have := HR.out; omega, bel _ _⟩
        case measure => simp [intOf]; omega
    · simp only [Bool.not_true, Bool.false_and, Bool.false_eq_true, if_false] at hre; have HR := Lib.hid hre; clear hre; go_wp2_with (first | (go_at_call 133; refine aT (hk1 _) fun p => ?_) | (go_at_call 133; refine aT (hk2 _) fun p => ?_))
      go_roundw
      case rel => exact ⟨q + 1, n, by go_num, rfl, by omega, HR.out, bel _ _⟩
      case measure => simp [intOf]; omega
  · rw [List.drop_of_length_le (by omega)] at hre; have hnN : n = N := by simpa [cntB] using hre
    subst hnN; clear hre; go_wp2_with fail; exact bodyPost_ret (v := .bool (decide (4 ≤ n))) (by simp [results, Tryz.results173, go_sem]; omega) rfl ⟨rfl, bel _ _⟩
theorem RowAt.take {w : World} {k n cap : Nat} {a : Option Addr} {rows : List (List Value)} (h : RowAt w k (.slice a n cap) rows) (m : Nat) (hm : m ≤ rows.length) : RowAt w k (.slice a m cap) (rows.take m) := by
 obtain ⟨a', cap', e, hl, hr⟩ := h
 simp only [Value.slice.injEq] at e
 obtain ⟨rfl, -, rfl⟩ := e
 have htl : (rows.take m).length = m := by rw [List.length_take]; omega
 refine ⟨a, cap, by rw [htl], by omega, fun h0 => ?_⟩
 obtain ⟨b, off, e, hb, hc⟩ := hr (by omega)
 refine ⟨b, off, e, hb, fun q cs hq t u hu => hc q cs ?_ t u hu⟩
 rw [List.getElem?_take] at hq
 split at hq
 · exact hq
 · cases hq
theorem parse150c (s : ByteArray) (w : World) (hp : (parseM s).1 = 0) : Calls Tryz.prog 198 #[.string s] w fun e w' => ∃ v, e = .returned v ∧ Below w.heap.size w w' ∧ OwnP 0 w' 9 1 v ((parseM s).2.map fun n => [.string n]) := by
 have hpp := parse136 s w
 generalize parseM s = F at hpp hp ⊢
 obtain ⟨c, ns⟩ := F
 obtain rfl : c = 0 := hp
 have hc : ∀ ww, Calls Tryz.prog 190 #[.int .i64 0] ww _ := fun ww => code167 0 ww
 go_enter Tryz.func198, Tryz.ntmps198
 go_wp2_with (first | (go_at_call 153; refine hpp.mono ?_; rintro e w1 ⟨v, rfl, hb, hown, hbl⟩; have hone := own_one' hown; have iB : Bel w w1 := ⟨hb⟩; have HO := Lib.hid (And.intro hown hb); clear hown hb hbl) | (go_at_call 190; refine aT (hc _) fun p => ?_) | (go_at_call 172; refine aT (throw_no _ _) fun p => ?_))
 go_ret
 refine ⟨_, rfl, bel _ _, ?_⟩
 have := (OwnP.of_own (rows := ns.map fun n => [.string n]) (by rw [lM, flat_one]; exact HO.out.1) (by decide) (by intro cs h; obtain ⟨x, _, rfl⟩ := List.mem_map.1 h; rfl))
 exact this.keep (Keep.of_below (bel w1 _) (fun _ => False)) (fun _ _ h => h)
theorem OwnP.cap {B : Nat} {w : World} {e : TypeId} {k : Nat} {v : Value} {rows : List (List Value)} (h : OwnP B w e k v rows) : ∃ a cap, v = .slice a rows.length cap ∧ rows.length ≤ cap ∧ cap ≤ maxLen := by
 rcases h with ⟨rfl, rfl⟩ | ⟨g, cap, cur, rfl, _, _, h1, h2, _⟩
 · exact ⟨_, _, rfl, by simp, by unfold maxLen; omega⟩
 · exact ⟨_, _, rfl, h1, h2⟩
theorem OwnP.some_ {B : Nat} {w : World} {e : TypeId} {k : Nat} {v : Value} {rows : List (List Value)} (h : OwnP B w e k v rows) (h0 : 0 < rows.length) : ∃ g cap, v = .slice (some ⟨g, 0, none⟩) rows.length cap ∧ rows.length ≤ cap ∧ cap ≤ maxLen := by
 rcases h with ⟨rfl, rfl⟩ | ⟨g, cap, cur, rfl, _, _, h1, h2, _⟩
 · simp at h0
 · exact ⟨_, _, rfl, h1, h2⟩
def parentM (S : PSt) (ns : List ByteArray) : Except Int (Nat × ByteArray) :=
 match ns.getLast? with
 | none => .error 9
 | some l => if (walkM S 0 ns.dropLast).2 ≠ 0 then .error (walkM S 0 ns.dropLast).2 else match S.ins[(walkM S 0 ns.dropLast).1]? with
   | some x => if x.dir = true then .ok ((walkM S 0 ns.dropLast).1, l) else .error 7
   | none => .error 7
def ParOut (w : World) (b : Nat) (S : PSt) (R : Except Int (Nat × ByteArray)) (e : Ending) : Prop :=
 match R with
 | .ok (K, l) => ∃ bi off cap, w.cell? ⟨b, 0, none⟩ = some (.slice (some ⟨bi, off, none⟩) S.ins.length cap) ∧ e = .returned (.tuple #[.pointer (some ⟨bi, off + K * 4, none⟩), .string l])
 | .error c => e = thrown c
theorem parent113 (d b : Nat) (S : PSt) (c : PCall) (s : ByteArray) (w : World) (h : DR w d b S c) (hf : Fine S) (hp : (parseM s).1 = 0) (hpl : (parseM s).2.length ≤ 1000000000) :
 Calls Tryz.prog 170 #[.pointer (some ⟨d, 0, none⟩), .string s] w fun e w' => Below w.heap.size w w' ∧ ParOut w b S (parentM S (parseM s).2) e := by
 have hpar : ∀ ww, Calls Tryz.prog 198 #[.string s] ww fun e w' => ∃ v, e = .returned v ∧ Below ww.heap.size ww w' ∧ OwnP 0 w' 9 1 v ((parseM s).2.map fun n => [.string n]) := fun ww => parse150c s ww hp
 generalize (parseM s).2 = ns at hpar hpl ⊢
 have hwk : ∀ ww v, Below w.heap.size w ww → RowAt ww 1 v (ns.dropLast.map fun n => [.string n]) → Calls Tryz.prog 191 #[.pointer (some ⟨b, 0, none⟩), v] ww _ := fun ww v hb hv => walk151 b S ns.dropLast v ww (h.sp.below hb (Nat.le_refl _)) hf.wf hf.pos hf.find hv (by rw [List.length_dropLast]; omega)
 have hlt := walkM_lt hf ns.dropLast 0 hf.pos
 have hd0 := h.d0
 have iD : BlockLt d w := ⟨h.lt⟩
 obtain ⟨hl, iv, ov, mv, c0, c1, c2, hr⟩ := h.sp
 have iL : BlockLt b w := ⟨hl⟩
 obtain ⟨ai, capi, rfl, hati⟩ := hr.ins_at2
 unfold parentM
 rcases hgl : ns.getLast? with _ | l
 · have hns : ns = [] := List.getLast?_eq_none_iff.1 hgl; subst hns; clear hwk h hr hati hlt hgl
   go_enter Tryz.func170, Tryz.ntmps170
   go_wp2_with (first | (go_at_call 198; refine (hpar _).mono ?_; rintro e w1 ⟨v, rfl, hb1, hv1⟩; obtain ⟨a, cap, rfl, -⟩ := hv1.cap) | (go_at_call 172; refine aE (throw_yes _ _) fun p => ?_))
   exact ⟨rfl, hb1.trans ((bel w1 _).mono hb1.size), rfl⟩
 · have hne : ns ≠ [] := fun e => by rw [e] at hgl; simp at hgl
   have hlp : 0 < ns.length := List.length_pos_iff.2 hne; have hll : ns[ns.length - 1]? = some l := by rw [← hgl, List.getLast?_eq_getElem?]
   generalize walkM S 0 ns.dropLast = W at hwk hlt ⊢; obtain ⟨K, C⟩ := W; simp only at hwk hlt ⊢; obtain ⟨m, hm⟩ : ∃ m, ns.length = m + 1 := ⟨ns.length - 1, by omega⟩
   have hdl : ns.dropLast = ns.take m := by rw [List.dropLast_eq_take, hm]; rfl
   obtain ⟨x, hx⟩ : ∃ x, S.ins[K]? = some x := ⟨_, gE hlt⟩
   obtain ⟨bi, offi, ev, rfl, iG, ho1, hev, hcl⟩ := hati K x hx; rw [hm] at hll; have hll : ns[m]? = some l := hll; have hw : ∀ ww a cap, Below w.heap.size w ww → RowAt ww 1 (.slice a (m + 1) cap) (ns.map fun n => [.string n]) → Calls Tryz.prog 191 #[.pointer (some ⟨b, 0, none⟩), .slice a m cap] ww fun e w' => e = .returned (.tuple #[.int .i64 K, .int .i64 C]) ∧ Below ww.heap.size ww w' := fun ww a cap hb hv => hwk ww _ hb (by rw [hdl, List.map_take]; exact hv.take m (by rw [lM]; omega))
   have HP := Lib.hid (And.intro hpar (And.intro hw (And.intro hcl (And.intro hx hll)))); have hKI : (K : Int) < S.ins.length := by omega
   have HM := Lib.hid (And.intro hm hpl); clear hpar hwk hw hcl hx hll h hr hati c1 c2 hgl hdl hev; have hm0 : ((m : Int) + 1 == 0) = false := by simp; omega
   have hm1 : ¬ ((m : Int) + 1 = 0) := by omega
   by_cases hC : C = 0
   · subst hC; rw [if_neg (by simp), HP.out.2.2.2.1]; simp only; have hfd : ∀ wr, Below w.heap.size w wr → wr.cell? ⟨bi, offi + K * 4 + 1, none⟩ = some (.bool x.dir) := fun wr hb => (HP.out.2.2.1 wr hb).2.2.1
     generalize hdir : x.dir = dd at hfd; have hfd2 := Lib.hid hfd; clear hfd hdir; rcases dd with _ | _
     · simp only [Bool.false_eq_true, if_false]
       go_enter Tryz.func170, Tryz.ntmps170
       go_wp2_with (first | (go_at_call 198; refine (HP.out.1 _).mono ?_; rintro e w1 ⟨v, rfl, hb1, ho1⟩; have hrw := ho1.row; obtain ⟨gn, cap, hv, hc1, hc2⟩ := ho1.some_ (by rw [lM, HM.out.1]; omega); rw [lM, HM.out.1] at hv hc1; subst hv; have hnat := hrw.at_; have hww : ∀ ww, Below w1.heap.size w1 ww → Calls Tryz.prog 191 #[.pointer (some ⟨b, 0, none⟩), .slice (some ⟨gn, 0, none⟩) m cap] ww _ := fun ww hb => HP.out.2.1 ww _ cap (hb1.trans (hb.mono hb1.size)) (hrw.below hb (Nat.le_refl _)); have iB1 : Bel w w1 := ⟨hb1⟩; have iD1 : BlockLt d w1 := ⟨by have := hb1.size; have := iD.lt; omega⟩; have iL1 : BlockLt b w1 := ⟨by have := hb1.size; have := iL.lt; omega⟩; have x0 : w1.cell? ⟨d, 0, none⟩ = some (.pointer (some ⟨b, 0, none⟩)) := (hb1.cell (p := ⟨d, 0, none⟩) iD.lt).trans hd0; have z0 : w1.cell? ⟨b, 0, none⟩ = some (.slice (some ⟨bi, offi, none⟩) S.ins.length capi) := (hb1.cell (p := ⟨b, 0, none⟩) iL.lt).trans c0; obtain ⟨iG1, y0, -, y2, y3⟩ := HP.out.2.2.1 w1 hb1; have hmI : ((m : Int) + 1 - 1) = m := (by omega); have hwm : IntKind.i64.wrap (m : Int) = m := I64.wrap ⟨by omega, by have := HM.out; omega⟩; have hmc : m ≤ cap := (by omega); have H1 := Lib.hid (And.intro hb1 (And.intro hrw hnat)); clear hb1 hrw hnat ho1) | (go_at_call 172; with_reducible refine aT (throw_no _ _) fun p => ?_))
       refine wp_region_quiet_rest (by kernel_rfl) (by kernel_rfl) ?_
       repeat
        first
         | go_big_quiet_skip
         | (go_big_quiet_want; go_big_quiet_op; first | go_big_quiet_on | (apply Exists.intro; refine ⟨fun _ => ?_, ?_⟩; (focus ((first | refine cI (hww _ (bel _ _)) | refine cJ (hww _ (bel _ _))))); go_big_quiet_on))
       refine QN fun p => ?_; have y1f := hfd2.out w1 H1.out.1; go_wp2_with (first | (go_at_call 172; with_reducible refine aT (throw_no _ _) fun p => ?_) | (go_at_call 172; with_reducible refine aE (throw_yes _ _) fun p => ?_))
       exact ⟨rfl, bel w _, rfl⟩
     · simp only [if_true]; have hmI2 : (m : Int) < (m : Int) + 1 := by omega
       go_enter Tryz.func170, Tryz.ntmps170
       go_wp2_with (first | (go_at_call 198; refine (HP.out.1 _).mono ?_; rintro e w1 ⟨v, rfl, hb1, ho1⟩; have hrw := ho1.row; obtain ⟨gn, cap, hv, hc1, hc2⟩ := ho1.some_ (by rw [lM, HM.out.1]; omega); rw [lM, HM.out.1] at hv hc1; subst hv; have hnat := hrw.at_; have hww : ∀ ww, Below w1.heap.size w1 ww → Calls Tryz.prog 191 #[.pointer (some ⟨b, 0, none⟩), .slice (some ⟨gn, 0, none⟩) m cap] ww _ := fun ww hb => HP.out.2.1 ww _ cap (hb1.trans (hb.mono hb1.size)) (hrw.below hb (Nat.le_refl _)); have iB1 : Bel w w1 := ⟨hb1⟩; have iD1 : BlockLt d w1 := ⟨by have := hb1.size; have := iD.lt; omega⟩; have iL1 : BlockLt b w1 := ⟨by have := hb1.size; have := iL.lt; omega⟩; have x0 : w1.cell? ⟨d, 0, none⟩ = some (.pointer (some ⟨b, 0, none⟩)) := (hb1.cell (p := ⟨d, 0, none⟩) iD.lt).trans hd0; have z0 : w1.cell? ⟨b, 0, none⟩ = some (.slice (some ⟨bi, offi, none⟩) S.ins.length capi) := (hb1.cell (p := ⟨b, 0, none⟩) iL.lt).trans c0; obtain ⟨iG1, y0, -, y2, y3⟩ := HP.out.2.2.1 w1 hb1; have hmI : ((m : Int) + 1 - 1) = m := (by omega); have hwm : IntKind.i64.wrap (m : Int) = m := I64.wrap ⟨by omega, by have := HM.out; omega⟩; have hmc : m ≤ cap := (by omega); have H1 := Lib.hid (And.intro hb1 (And.intro hrw hnat)); clear hb1 hrw hnat ho1) | (go_at_call 172; with_reducible refine aT (throw_no _ _) fun p => ?_))
       refine wp_region_quiet_rest (by kernel_rfl) (by kernel_rfl) ?_
       repeat
        first
         | go_big_quiet_skip
         | (go_big_quiet_want; go_big_quiet_op; first | go_big_quiet_on | (apply Exists.intro; refine ⟨fun _ => ?_, ?_⟩; (focus ((first | refine cI (hww _ (bel _ _)) | refine cJ (hww _ (bel _ _))))); go_big_quiet_on))
       refine QN fun p => ?_; have y1f := hfd2.out w1 H1.out.1; go_wp2_with (go_at_call 172; with_reducible refine aT (throw_no _ _) fun p => ?_)
       obtain ⟨a', cap', hv', hnat⟩ := H1.out.2.2; obtain ⟨bn, offn, he, iN0, iN1, hcn⟩ := hnat w1 (Below.refl _ _) m [.string l] (by rw [gM, HP.out.2.2.2.2]; rfl); simp only [Value.slice.injEq] at hv'; obtain ⟨rfl, -, rfl⟩ := hv'; simp only [Option.some.injEq, Addr.mk.injEq] at he; obtain ⟨rfl, rfl, -⟩ := he; have n0 := hcn 0 _ rfl; rw [Nat.mul_one, Nat.add_zero, Nat.zero_add] at n0; clear hcn hnat; refine wp_region_quiet_rest (by kernel_rfl) (by kernel_rfl) ?_
       repeat
        first
         | go_big_quiet_skip
         | (go_big_quiet_want; go_big_quiet_op; first | go_big_quiet_on | (apply Exists.intro; refine ⟨fun _ => ?_, ?_⟩; (focus (fail)); go_big_quiet_on))
       refine QN fun p => ?_; go_wp2_with fail; exact bodyPost_ret (v := .tuple #[.pointer (some ⟨bi, offi + K * 4, none⟩), .string l]) (by simp [results, Tryz.results170, go_sem]) rfl ⟨bel w _, bi, offi, capi, c0, rfl⟩
   · rw [if_pos (by simpa using hC)]; have hcb : (C != 0) = true := by simpa using hC
     go_enter Tryz.func170, Tryz.ntmps170
     go_wp2_with (first | (go_at_call 198; refine (HP.out.1 _).mono ?_; rintro e w1 ⟨v, rfl, hb1, ho1⟩; have hrw := ho1.row; obtain ⟨gn, cap, hv, hc1, hc2⟩ := ho1.some_ (by rw [lM, HM.out.1]; omega); rw [lM, HM.out.1] at hv hc1; subst hv; have hnat := hrw.at_; have hww : ∀ ww, Below w1.heap.size w1 ww → Calls Tryz.prog 191 #[.pointer (some ⟨b, 0, none⟩), .slice (some ⟨gn, 0, none⟩) m cap] ww _ := fun ww hb => HP.out.2.1 ww _ cap (hb1.trans (hb.mono hb1.size)) (hrw.below hb (Nat.le_refl _)); have iB1 : Bel w w1 := ⟨hb1⟩; have iD1 : BlockLt d w1 := ⟨by have := hb1.size; have := iD.lt; omega⟩; have iL1 : BlockLt b w1 := ⟨by have := hb1.size; have := iL.lt; omega⟩; have x0 : w1.cell? ⟨d, 0, none⟩ = some (.pointer (some ⟨b, 0, none⟩)) := (hb1.cell (p := ⟨d, 0, none⟩) iD.lt).trans hd0; have z0 : w1.cell? ⟨b, 0, none⟩ = some (.slice (some ⟨bi, offi, none⟩) S.ins.length capi) := (hb1.cell (p := ⟨b, 0, none⟩) iL.lt).trans c0; obtain ⟨iG1, y0, -, y2, y3⟩ := HP.out.2.2.1 w1 hb1; have hmI : ((m : Int) + 1 - 1) = m := (by omega); have hwm : IntKind.i64.wrap (m : Int) = m := I64.wrap ⟨by omega, by have := HM.out; omega⟩; have hmc : m ≤ cap := (by omega); have H1 := Lib.hid (And.intro hb1 (And.intro hrw hnat)); clear hb1 hrw hnat ho1) | (go_at_call 172; with_reducible refine aT (throw_no _ _) fun p => ?_))
     refine wp_region_quiet_rest (by kernel_rfl) (by kernel_rfl) ?_
     repeat
      first
       | go_big_quiet_skip
       | (go_big_quiet_want; go_big_quiet_op; first | go_big_quiet_on | (apply Exists.intro; refine ⟨fun _ => ?_, ?_⟩; (focus ((first | refine cI (hww _ (bel _ _)) | refine cJ (hww _ (bel _ _))))); go_big_quiet_on))
     refine QN fun p => ?_; go_wp2_with (go_at_call 172; with_reducible refine aE (throw_yes _ _) fun p => ?_)
     exact ⟨rfl, bel w _, rfl⟩
def thruAt (S : PSt) (ns : List ByteArray) (num : Int) (q : Nat) : Bool := match S.ins[(walkM S 0 (ns.take q)).1]? with
 | some x => x.num == num
 | none => false
def thruM (S : PSt) (ns : List ByteArray) (num : Int) : Bool := (List.range ns.length).any (thruAt S ns num)
theorem any_drop' {α : Type} {F : α → Bool} {zs : List α} {q : Nat} {z : α} (h : zs[q]? = some z) : (zs.drop q).any F = (F z || (zs.drop (q + 1)).any F) := by rw [drop_at h]; rfl
theorem RowAt.pre {w : World} {k n cap : Nat} {a : Option Addr} {rows : List (List Value)} (h : RowAt w k (.slice a n cap) rows) (q : Nat) (hq : q ≤ rows.length) : RowAt w k (.slice a q cap) (rows.take q) := by
 obtain ⟨a', cap', he, hm, hr⟩ := h
 simp only [Value.slice.injEq] at he
 obtain ⟨rfl, rfl, rfl⟩ := he
 have hl : (rows.take q).length = q := by rw [List.length_take]; omega
 refine ⟨a, cap, by rw [hl], by omega, fun h0 => ?_⟩
 obtain ⟨b, off, e2, hlt, hc⟩ := hr (by omega)
 refine ⟨b, off, e2, hlt, fun p cs hp => ?_⟩
 rw [List.getElem?_take] at hp
 split at hp
 · exact hc p cs hp
 · cases hp
theorem through131 (d b : Nat) (S : PSt) (c : PCall) (s : ByteArray) (num : Int) (w : World) (h : DR w d b S c) (hf : Fine S) (hp : (parseM s).1 = 0) (hpl : (parseM s).2.length ≤ 1000000000) :
 Calls Tryz.prog 188 #[.pointer (some ⟨d, 0, none⟩), .string s, .int .i64 num] w fun e w' => e = .returned (.bool (thruM S (parseM s).2 num)) ∧ Below w.heap.size w w' := by
 have hpar : ∀ ww, Calls Tryz.prog 198 #[.string s] ww fun e w' => ∃ v, e = .returned v ∧ Below ww.heap.size ww w' ∧ OwnP 0 w' 9 1 v ((parseM s).2.map fun n => [.string n]) := fun ww => parse150c s ww hp
 generalize (parseM s).2 = ns at hpar hpl ⊢
 have hwk : ∀ ww v q, Below w.heap.size w ww → RowAt ww 1 v ((ns.take q).map fun n => [.string n]) → Calls Tryz.prog 191 #[.pointer (some ⟨b, 0, none⟩), v] ww _ := fun ww v q hb hv => walk151 b S (ns.take q) v ww (h.sp.below hb (Nat.le_refl _)) hf.wf hf.pos hf.find hv (by rw [List.length_take]; omega)
 have hlt := fun q => walkM_lt hf (ns.take q) 0 hf.pos
 have d0 := h.d0
 have iD : BlockLt d w := ⟨h.lt⟩
 obtain ⟨hl, iv, ov, mv, c0, c1, c2, hr⟩ := h.sp
 have iB : BlockLt b w := ⟨hl⟩
 obtain ⟨ai, capi, rfl, hati⟩ := hr.ins_at2
 have HI := Lib.hid hati
 clear h hf hp hr hati c1 c2
 unfold thruM
 obtain ⟨R, hR⟩ : ∃ R, (List.range ns.length).any (thruAt S ns num) = R := ⟨_, rfl⟩
 rw [hR]
 have HR := Lib.hid hR
 clear hR
 go_enter Tryz.func188, Tryz.ntmps188
 go_upto_region 2 with (go_at_call 198; refine (hpar _).mono ?_; rintro e w1 ⟨nv, rfl, hb1, hnm⟩; have hrow := hnm.row; obtain ⟨an, cn, rfl, hcn⟩ := hnm.cap; rw [lM] at hrow hcn; have HN := Lib.hid (And.intro hrow hb1); clear hb1 hnm hrow)
 go_wp2_with fail
 go_loopw [15] (fun i wr => ∃ (q : Nat), i = .int .i64 q ∧ q ≤ ns.length ∧ ((List.range ns.length).drop q).any (thruAt S ns num) = R ∧ Below w1.heap.size w1 wr) (fun i _ => (ns.length - intOf i).toNat)
 case atStart => exact ⟨0, rfl, by omega, HR.out, bel _ _⟩
 case round =>
  obtain ⟨q, rfl, hq, hre, hb⟩ := hrel; have hbw : Below w.heap.size w wr := HN.out.2.trans (hb.mono HN.out.2.size); have iBw : Bel w wr := ⟨hbw⟩
  have r0 : wr.cell? ⟨d, 0, none⟩ = some (.pointer (some ⟨b, 0, none⟩)) := (hbw.cell (p := ⟨d, 0, none⟩) iD.lt).trans d0; have s0 : wr.cell? ⟨b, 0, none⟩ = some (.slice ai S.ins.length capi) := (hbw.cell (p := ⟨b, 0, none⟩) iB.lt).trans c0; have jD : BlockLt d wr := ⟨by have := hbw.size; have := iD.lt; omega⟩
  have jB : BlockLt b wr := ⟨by have := hbw.size; have := iB.lt; omega⟩
  by_cases hltq : q < ns.length
  · have hz : (List.range ns.length)[q]? = some q := by rw [List.getElem?_range hltq]
    rw [any_drop' hz] at hre; have hpre : RowAt wr 1 (.slice an q cn) ((ns.take q).map fun n => [.string n]) := by
     have := (HN.out.1.below hb (Nat.le_refl _)).pre q (by rw [lM]; omega); rw [← List.map_take] at this; exact this
    have hw1 : ∀ ww, Below wr.heap.size wr ww → Calls Tryz.prog 191 #[.pointer (some ⟨b, 0, none⟩), .slice an q cn] ww _ := fun ww hb' => hwk ww _ q (hbw.trans (hb'.mono hbw.size)) (hpre.below hb' (Nat.le_refl _))
    have hltw := hlt q; have hta : thruAt S ns num q = (match S.ins[(walkM S 0 (ns.take q)).1]? with | some x => x.num == num | none => false) := rfl; rw [hta] at hre; obtain ⟨⟨K, C⟩, hKC⟩ : ∃ KC, walkM S 0 (ns.take q) = KC := ⟨_, rfl⟩
    rw [hKC] at hw1 hltw hre; simp only at hw1 hltw hre; obtain ⟨x, hx⟩ : ∃ x, S.ins[K]? = some x := ⟨_, gE hltw⟩
    rw [hx] at hre; simp only at hre; obtain ⟨bi, off, ev, rfl, iG0, ho1, hev, hcl⟩ := HI.out K x hx; obtain ⟨iG, y0, y1, y2, y3⟩ := hcl wr hbw; have hKI : (K : Int) < S.ins.length := by omega
    have hqc : (q : Int) ≤ ns.length := by omega
    have hqcn : (q : Int) ≤ cn := by omega
    have hqcn2 : q ≤ cn := by omega
    clear hpre hwk hcl hev hta hKC hx hz; have iBr : Bel wr wr := inferInstance; obtain ⟨xn, xd, xe, xdat⟩ := x; simp only at y0 hre; generalize hb1 : (xn == num) = b1 at hre; rcases b1 with _ | _
    · simp only [Bool.false_or] at hre; have HR2 := Lib.hid hre; clear hre
      go_upto_region 5 with fail
      refine wp_region_quiet_rest (by kernel_rfl) (by kernel_rfl) (WQ.out ?_)
      repeat
       refine WQ_step (fun K hK => ?_); go_simp
       first
        | (refine hK _ ?_; clear hK K)
        | (apply Exists.intro
           refine ⟨fun _ => ?_, hK _ ?_⟩
           focus (first | refine cI (hw1 _ (bel wr _)) | refine cJ (hw1 _ (bel wr _)))
           clear hK K)
      refine WN fun p => ?_; go_wp2_with fail
      go_roundw
      case rel => exact ⟨q + 1, by go_num, by omega, HR2.out, hb.trans ((bel wr _).mono hb.size)⟩
      case measure => simp [intOf]; omega
    · simp only [Bool.true_or] at hre; subst hre
      go_upto_region 5 with fail
      refine wp_region_quiet_rest (by kernel_rfl) (by kernel_rfl) (WQ.out ?_)
      repeat
       refine WQ_step (fun K hK => ?_); go_simp
       first
        | (refine hK _ ?_; clear hK K)
        | (apply Exists.intro
           refine ⟨fun _ => ?_, hK _ ?_⟩
           focus (first | refine cI (hw1 _ (bel wr _)) | refine cJ (hw1 _ (bel wr _)))
           clear hK K)
      refine WN fun p => ?_; go_wp2_with fail; exact bodyPost_ret (v := .bool true) (by simp [results, Tryz.results188, go_sem]) rfl ⟨rfl, bel w _⟩
  · rw [List.drop_of_length_le (by rw [List.length_range]; omega)] at hre; have hre : false = R := hre; subst hre; go_wp2_with fail; exact bodyPost_ret (v := .bool false) (by simp [results, Tryz.results188, go_sem]) rfl ⟨rfl, hbw⟩
end Go.Proofs.YtmkapobnfigedaaGreatDoor
