/- Part of the proof that the named pairs of calls commute. Conditions: none. -/
import Derived.Test.YtjkenolgkkknaaaGreatDoorPp37
import Derived.Test.YtjkenolgkkknaaaGreatDoorPp32
import Derived.Test.YtjkenolgkkknaaaGreatDoorPp30
set_option linter.unusedVariables false
set_option linter.unusedSimpArgs false
set_option maxRecDepth 100000
set_option maxHeartbeats 8000000
namespace Go.Proofs.YtjkenolgkkknaaaGreatDoor
open Go.RowKit
def doC (S : PSt) (c : PCall) : PSt × PRes := if c.kind = 13 then doM S c (statM S c PRes.zero) else doB S c
def okC (S : PSt) (c : PCall) : Bool := if c.kind = 13 then goodB S && (linkedB S && okP c.path) else okB S c
theorem did_c {S : PSt} {c : PCall} (h : okC S c = true) : Did S c (doC S c).1 (doC S c).2 := by
 unfold okC at h
 unfold doC
 by_cases hk : c.kind = 13
 · rw [if_pos hk] at h ⊢; simp only [Bool.and_eq_true] at h; exact did_stat (good_wf h.1).1 hk (okP_ h.2.2).1 (okP_ h.2.2).2 rfl
 · rw [if_neg hk] at h ⊢; exact did_b h
def cL (S : PSt) (c : PCall) : List (Int × Int) := if c.kind = 13 then (vA S c).L else vL S c
def cT (S : PSt) (c : PCall) : List (Int × Int) := if c.kind = 13 then [] else vT S c
def cM (S : PSt) (c : PCall) : List Int := if c.kind = 13 then (vA S c).M else vM S c
def cBy (S : PSt) (c : PCall) : Int := if c.kind = 13 then statBy S (vA S c).num else 0
def cO (S : PSt) (c : PCall) : Int := if c.kind = 13 then 0 else vO S c
theorem pos_of_linked {S : PSt} (h : linkedB S = true) : 0 < S.ins.length := by
 unfold linkedB at h
 simp only [Bool.and_eq_true, decide_eq_true_eq] at h
 rcases e : S.ins with _ | ⟨a, r⟩
 · rw [e] at h; have := h.1; simp [idxM, idxFrom] at this
 · simp
theorem good_c {S : PSt} {c : PCall} (h : okC S c = true) : goodB S = true := by
 unfold okC at h
 split at h
 · simp only [Bool.and_eq_true] at h; exact h.1
 · exact (okB_ h).1
theorem view_c {S : PSt} {c : PCall} (h : okC S c = true) (hl1 : (vA S c).L.length.ble 1000 = true) (hm1 : (vA S c).M.length.ble 1000 = true) :
 HasView S c ((doC S c).2.code == 0) (cL S c) (cT S c) (cM S c) (cBy S c) (cO S c) := by
 have D := did_c h
 unfold okC at h
 unfold doC at D ⊢
 unfold cL cT cM cBy cO
 by_cases hk : c.kind = 13
 · rw [if_pos hk] at h D ⊢; rw [if_pos hk, if_pos hk, if_pos hk, if_pos hk, if_pos hk]; simp only [Bool.and_eq_true] at h; exact view_stat (good_wf h.1).1 h.2.1 (pos_of_linked h.2.1) hk (okP_ h.2.2).1 (okP_ h.2.2).2 D
 · rw [if_neg hk] at h D ⊢; rw [if_neg hk, if_neg hk, if_neg hk, if_neg hk, if_neg hk]; exact view_b h hl1 hm1
def eqIn (x y : PIn) : Bool := decide (x.num = y.num) && (x.dir == y.dir && ((x.ents.map fun e => (e.name.data.toList, e.num)) == (y.ents.map fun e => (e.name.data.toList, e.num)) && x.data.data.toList == y.data.data.toList))
def eqS (S T : PSt) : Bool := S.ins.length == T.ins.length && (((S.ins.zip T.ins).all fun p => eqIn p.1 p.2) && ((S.op.map fun d => (d.core, d.fd, d.num)) == (T.op.map fun d => (d.core, d.fd, d.num)) && S.made == T.made))
theorem eqIn_ {x y : PIn} (h : eqIn x y = true) : x = y := by
 unfold eqIn at h
 simp only [Bool.and_eq_true, decide_eq_true_eq, beq_iff_eq] at h
 obtain ⟨h1, h2, h3, h4⟩ := h
 obtain ⟨a, b, c, d⟩ := x
 obtain ⟨a', b', c', d'⟩ := y
 simp only at h1 h2 h3 h4
 subst h1 h2
 obtain rfl := bytes_inj h4
 have : c = c' := by
  have inj : ∀ (l l' : List PEnt), (l.map fun e => (e.name.data.toList, e.num)) = (l'.map fun e => (e.name.data.toList, e.num)) → l = l' := by
   intro l
   induction l with
   | nil => intro l' h; cases l' with
     | nil => rfl
     | cons => simp at h
   | cons x l ih => intro l' h; cases l' with
     | nil => simp at h
     | cons y l' =>
       simp only [List.map_cons, List.cons.injEq, Prod.mk.injEq] at h; obtain ⟨⟨e1, e2⟩, e3⟩ := h; obtain ⟨n, m⟩ := x; obtain ⟨n', m'⟩ := y; simp only at e1 e2; rw [bytes_inj e1, e2, ih _ e3]
  exact inj _ _ h3
 rw [this]
theorem eqS_ {S T : PSt} (h : eqS S T = true) : S = T := by
 unfold eqS at h
 simp only [Bool.and_eq_true, beq_iff_eq, List.all_eq_true] at h
 obtain ⟨h1, h2, h3, h4⟩ := h
 obtain ⟨i, o, m⟩ := S
 obtain ⟨i', o', m'⟩ := T
 simp only at h1 h2 h3 h4
 subst h4
 have e1 : i = i' := by
  apply List.ext_getElem h1; intro k hk hk'; exact eqIn_ (h2 (i[k], i'[k]) (by
   rw [List.mem_iff_getElem]; exact ⟨k, by simp; omega, by simp⟩))
 have e2 : o = o' := by
  have inj : ∀ (l l' : List PDesc), (l.map fun d => (d.core, d.fd, d.num)) = (l'.map fun d => (d.core, d.fd, d.num)) → l = l' := by
   intro l
   induction l with
   | nil => intro l' h; cases l' with
     | nil => rfl
     | cons => simp at h
   | cons x l ih => intro l' h; cases l' with
     | nil => simp at h
     | cons y l' =>
       simp only [List.map_cons, List.cons.injEq, Prod.mk.injEq] at h; obtain ⟨⟨e1, e2, e3⟩, e4⟩ := h; obtain ⟨a, b, c⟩ := x; obtain ⟨a', b', c'⟩ := y; simp only at e1 e2 e3; rw [e1, e2, e3, ih _ e4]
  exact inj _ _ h3
 rw [e1, e2]
def kd (i : Nat) : Int := match i with | 0 => 0 | 1 => 1 | 2 => 8 | _ => 13
def nearM (a b : Int) (n m : Nat) : Bool := !((decide (a ≠ 13) && (decide (b = 8) && decide (bucketR (nmn n) = bucketR ⟨#[120]⟩))) || (decide (b ≠ 13) && (decide (a = 8) && decide (bucketR (nmn m) = bucketR ⟨#[120]⟩))))
def wantA (W n m : Nat) : Bool := (decide (W / 4 = 3) && decide (W % 4 = 3)) || (decide (bucketR (nmn n) ≠ bucketR (nmn m)) && nearM (kd (W / 4)) (kd (W % 4)) n m)
def doD (S : PSt) (c : PCall) : PSt × PRes := if c.kind = 2 then doM S c (openDo S c PRes.zero) else if c.kind = 12 then doM S c (listM S c PRes.zero) else if c.kind = 4 then doM S c (readM S c PRes.zero) else if c.kind = 5 then doM S c (writeM S c PRes.zero) else if c.kind = 7 then doM S c (sizeM S c PRes.zero) else if c.kind = 3 then doM S c (closeM S c PRes.zero) else doC S c
def closeB (S : PSt) (c : PCall) : Bool := match fileX S c with
 | none => false
 | some y => !y.2.dir && (decide (findN S.nums y.2.num = y.1) && decide (linksM S y.2.num ≠ 0))
def okD (S : PSt) (c : PCall) : Bool := if c.kind = 2 then goodB S && (linkedB S && (okP c.path && S.op.length.ble 1000)) else if c.kind = 12 then goodB S && (linkedB S && okP c.path) else if c.kind = 4 then goodB S else if c.kind = 5 then goodB S && decide (0 ≤ c.off ∧ c.off + c.data.size ≤ 256) else if c.kind = 7 then goodB S else if c.kind = 3 then goodB S && closeB S c else okC S c
theorem did_d {S : PSt} {c : PCall} (h : okD S c = true) : Did S c (doD S c).1 (doD S c).2 := by
 unfold okD at h
 unfold doD
 by_cases k2 : c.kind = 2
 · rw [if_pos k2] at h ⊢; simp only [Bool.and_eq_true] at h; obtain ⟨h1, h2, h3, h4⟩ := h; exact did_open h1 k2 (by have := Nat.le_of_ble_eq_true h4; omega) (okP_ h3).1 (okP_ h3).2 rfl
 rw [if_neg k2] at h ⊢
 by_cases k12 : c.kind = 12
 · rw [if_pos k12] at h ⊢; simp only [Bool.and_eq_true] at h; exact did_list h.1 k12 (okP_ h.2.2).1 (okP_ h.2.2).2 rfl
 rw [if_neg k12] at h ⊢
 by_cases k4 : c.kind = 4
 · rw [if_pos k4] at h ⊢; exact did_read h k4 rfl
 rw [if_neg k4] at h ⊢
 by_cases k5 : c.kind = 5
 · rw [if_pos k5] at h ⊢; simp only [Bool.and_eq_true, decide_eq_true_eq] at h; exact did_write h.1 k5 h.2.1 h.2.2 rfl
 rw [if_neg k5] at h ⊢
 by_cases k7 : c.kind = 7
 · rw [if_pos k7] at h ⊢; exact did_size h k7 rfl
 rw [if_neg k7] at h ⊢
 by_cases k3 : c.kind = 3
 · rw [if_pos k3] at h ⊢; simp only [Bool.and_eq_true] at h; obtain ⟨h1, h2⟩ := h; unfold closeB at h2; rcases hX : fileX S c with _ | ⟨K, x⟩
   · rw [hX] at h2; cases h2
   · rw [hX] at h2; simp only [Bool.and_eq_true, Bool.not_eq_true', decide_eq_true_eq] at h2; exact did_close h1 k3 K x hX h2.1 h2.2.1 h2.2.2 rfl
 rw [if_neg k3] at h ⊢
 exact did_c h
theorem good_d {S : PSt} {c : PCall} (h : okD S c = true) : goodB S = true := by
 unfold okD at h
 repeat
  split at h
  · first | exact h | (simp only [Bool.and_eq_true] at h; exact h.1)
 exact good_c h
def fdN (S : PSt) (c : PCall) : Int := match S.op[(idxM (isFd c) S.op).toNat]? with
 | some y => y.num
 | none => 0
def isF (c : PCall) : Bool := decide (3 ≤ c.kind ∧ c.kind ≤ 7)
def dL (S : PSt) (c : PCall) : List (Int × Int) := if isF c = true then [] else if c.kind = 2 then (vA S c).L else if c.kind = 12 then (vA S c).L ++ allB S (vA S c).num else cL S c
def dT (S : PSt) (c : PCall) : List (Int × Int) := if isF c = true then [] else if c.kind = 2 then [] else if c.kind = 12 then [] else cT S c
def dM (S : PSt) (c : PCall) : List Int := if isF c = true then [fdN S c] else if c.kind = 2 then (vA S c).M else if c.kind = 12 then (vA S c).M else cM S c
def dB (S : PSt) (c : PCall) : Int := if isF c = true then (if c.kind = 3 then 0 else fdN S c) else if c.kind = 2 then 0 else if c.kind = 12 then 0 else cBy S c
def dO (S : PSt) (c : PCall) : Int := if isF c = true then 0 else if c.kind = 2 then 0 else if c.kind = 12 then 0 else cO S c
def vOk (S : PSt) (c : PCall) : Bool := if isF c = true then decide (0 ≤ idxM (isFd c) S.op) && (doD S c).2.code == 0 else (vA S c).L.length.ble 1000 && (vA S c).M.length.ble 1000
theorem view_d {S : PSt} {c : PCall} (h : okD S c = true) (hv : vOk S c = true) : HasView S c ((doD S c).2.code == 0) (dL S c) (dT S c) (dM S c) (dB S c) (dO S c) := by
 have D := did_d h
 have hg := good_d h
 unfold vOk at hv
 unfold dL dT dM dB dO
 by_cases hF : isF c = true
 · rw [if_pos hF] at hv; rw [if_pos hF, if_pos hF, if_pos hF, if_pos hF, if_pos hF]; simp only [Bool.and_eq_true, decide_eq_true_eq, beq_iff_eq] at hv; unfold isF at hF; simp only [decide_eq_true_eq] at hF; have hib := idxM_bounds (isFd c) S.op; obtain ⟨I, hI⟩ : ∃ I : Nat, idxM (isFd c) S.op = I := ⟨(idxM (isFd c) S.op).toNat, by omega⟩
   have hIl : I < S.op.length := by omega
   have hy : S.op[I]? = some S.op[I] := gE hIl; have hn : fdN S c = S.op[I].num := by
    unfold fdN; rw [hI, Int.toNat_natCast, hy]
   rw [hn, hv.2]; intro ww p hsp; have := of23b p S _ c _ S.op[I] I ww hsp (good_wf hg).1 D hF.1 hF.2 hv.2 hI hy; exact this
 · rw [if_neg hF] at hv; rw [if_neg hF, if_neg hF, if_neg hF, if_neg hF, if_neg hF]; simp only [Bool.and_eq_true] at hv; unfold isF at hF; simp only [decide_eq_true_eq] at hF; unfold okD at h; by_cases k2 : c.kind = 2
   · rw [if_pos k2] at h; rw [if_pos k2, if_pos k2, if_pos k2, if_pos k2, if_pos k2]; simp only [Bool.and_eq_true] at h; obtain ⟨h1, h2, h3, h4⟩ := h; intro ww p hsp; have := of23 p S _ c _ _ _ _ 0 0 0 ww hsp (good_wf hg).1 D (by omega) (fun wx k fine hn hl => paths_open k p S c fine wx hn hl (good_wf hg).1 h2 k2 (okP_ h3).1 (okP_ h3).2); rw [cutI_zero, cutL_nil] at this; exact this
   rw [if_neg k2] at h; rw [if_neg k2, if_neg k2, if_neg k2, if_neg k2, if_neg k2]; by_cases k12 : c.kind = 12
   · rw [if_pos k12] at h; rw [if_pos k12, if_pos k12, if_pos k12, if_pos k12, if_pos k12]; simp only [Bool.and_eq_true] at h; obtain ⟨h1, h2, h3⟩ := h; intro ww p hsp; have := of23 p S _ c _ _ _ _ 0 0 0 ww hsp (good_wf hg).1 D (by omega) (fun wx k fine hn hl => paths_list k p S c fine wx hn hl (good_wf hg).1 h2 (pos_of_linked h2) k12 (okP_ h3).1 (okP_ h3).2); rw [cutI_zero, cutL_nil] at this; exact this
   rw [if_neg k12, if_neg (by omega), if_neg (by omega), if_neg (by omega), if_neg (by omega)] at h; rw [if_neg k12, if_neg k12, if_neg k12, if_neg k12, if_neg k12]; have e : doD S c = doC S c := by
    unfold doD; rw [if_neg k2, if_neg k12, if_neg (by omega), if_neg (by omega), if_neg (by omega), if_neg (by omega)]
   rw [e]; exact view_c h hv.1 hv.2
def endC (S : PSt) : Bool := goodB S && (mayM S && (wlkOk S 4 1 && (shLen S 4).ble 1000000))
def chkU (S : PSt) (x y : PCall) : Bool := askedM S x y && (okD S x && (okD S y && (okD (doD S x).1 y && (okD (doD S y).1 x && ((doD S x).2.names.length.ble 1000 && ((doD (doD S x).1 y).2.names.length.ble 1000 && (eqS (doD (doD S y).1 x).1 (doD (doD S x).1 y).1 && (endC (doD (doD S x).1 y).1 && (sameM (doD S x).2 (doD (doD S y).1 x).2 && sameM (doD (doD S x).1 y).2 (doD S y).2)))))))))
theorem chkU_cm {S : PSt} {x y : PCall} (h : chkU S x y = true) (iv ov mv : Value) (w : World) (hr : StRead w iv ov mv S) (hp : Laid w.heap.size Pow10 w) :
 Calls Tryz.prog 9 #[.agg #[iv, ov, mv], x.val, y.val] w fun e w' => e = .returned (.bool true) ∧ Below w.heap.size w w' := by
 unfold chkU endC at h
 simp only [Bool.and_eq_true] at h
 obtain ⟨h1, h2, h3, h4, h5, h6, h7, h8, ⟨h9, h10, h11, h12⟩, h13, h14⟩ := h
 have D4 := did_d h5
 rw [eqS_ h8] at D4
 have hl : (shapeT (doD (doD S x).1 y).1 4).length ≤ 1000000000000 := by
  have := Nat.le_of_ble_eq_true h12; have := shape_le (good_wf h9).1 h11; omega
 have := commute_one iv ov mv 4 w hr (good_d h2) h1 (did_d h2) (did_d h4) (did_d h3) D4 (lenB h6) (lenB h7) h9 h10 h11 hl hp
 rw [h13, h14] at this
 exact this
def lvC (S : PSt) (x : PCall) : Bool := (dL S x).length.ble 1000 && (dT S x).length.ble 1000
def chkV2 (S : PSt) (x y : PCall) (want : Bool) : Bool := askedM S x y && (okD S x && (okD S y && (vOk S x && (vOk S y && (lvC S x && (lvC S y && (decide (x.kind < 14) && (decide (y.kind < 14) && (decide (dB S x = 0 ∨ dB S x ≠ dB S y) && ((!(meetsM (dT S x) (dL S y) (dT S y) || meetsM (dT S y) (dL S x) (dT S x))) == want))))))))))
theorem chkV2_ap {S : PSt} {x y : PCall} {want : Bool} (h : chkV2 S x y want = true) (iv ov mv : Value) (w : World) (hr : StRead w iv ov mv S) :
 Calls Tryz.prog 10 #[.agg #[iv, ov, mv], x.val, y.val] w fun e w' => e = .returned (.bool want) ∧ Below w.heap.size w w' := by
 unfold chkV2 lvC at h
 simp only [Bool.and_eq_true, decide_eq_true_eq, beq_iff_eq] at h
 obtain ⟨h1, h2, h3, h4, h5, ⟨a1, a2⟩, ⟨b1, b2⟩, hx, hy, hby, h8⟩ := h
 have := apart_yes iv ov mv S x y _ _ _ _ _ _ _ _ _ _ _ _ w hr (good_wf (good_d h2)).1 h1 (by omega) (by omega) (view_d h2 h4) (view_d h3 h5) hby (.inr (by omega)) (.inr (by omega)) (lenB a1) (lenB b1) (lenB a2) (lenB b2)
 rw [h8] at this
 exact this
def sideB (S : PSt) (x y : PCall) : Bool := if x.kind = 5 then (doD S x).2.code == 0 && (decide (0 < x.data.size) && (decide (0 ≤ idxM (isNum (dB S x)) S.ins) && (decide (0 ≤ y.off ∧ y.off ≤ 1000 ∧ 0 ≤ y.num ∧ 0 ≤ x.num ∧ bytesN y ≤ 1000) && (match S.ins[(idxM (isNum (dB S x)) S.ins).toNat]? with | some z => decide (0 ≤ x.off ∧ x.off + x.data.size ≤ z.data.size ∧ z.data.size ≤ 1000) | none => false)))) else decide (x.kind ≠ 6)
theorem side_ok {S : PSt} {x y : PCall} (hlen : S.ins.length ≤ 1000000000) (h : sideB S x y = true) {L1 T1 L2 T2 : List (Int × Int)} {M1 M2 : List Int} {o1 o2 b2 : Int} {f2 : Bool} (ww : World) (k1 k2 p : Nat) (v1 : VwAt ww k1 p x ((doD S x).2.code == 0) L1 T1 M1 (dB S x) o1 0) (v2 : VwAt ww k2 p y f2 L2 T2 M2 b2 o2 0) (hs : SP ww p S) :
 Calls Tryz.prog 25 #[.pointer (some ⟨k1, 0, none⟩), .pointer (some ⟨k2, 0, none⟩)] ww fun e w' => e = .returned (.bool (besM x y f2)) ∧ Below ww.heap.size ww w' := by
 obtain ⟨lv, tv, mv, c1⟩ := v1.c
 obtain ⟨lv2, tv2, mv2, c2⟩ := v2.c
 unfold sideB at h
 by_cases hk : x.kind = 5
 · rw [if_pos hk] at h; simp only [Bool.and_eq_true, decide_eq_true_eq] at h; obtain ⟨h1, h2, h3, ⟨h4, h5, h6, h7, h8⟩, h9⟩ := h; rw [h1] at c1; obtain ⟨K, hK⟩ : ∃ K : Nat, idxM (isNum (dB S x)) S.ins = K := ⟨(idxM (isNum (dB S x)) S.ins).toNat, by omega⟩
   rw [hK, Int.toNat_natCast] at h9; rcases hz : S.ins[K]? with _ | z
   · rw [hz] at h9; cases h9
   · rw [hz] at h9; simp only [decide_eq_true_eq] at h9; exact beside_write c1 c2 hs hlen hk h2 hK hz h9.1 h9.2.1 h9.2.2 h4 h5 h7 h6 h8
 · rw [if_neg hk] at h; simp only [decide_eq_true_eq] at h; have e : besM x y f2 = true := by unfold besM; rw [if_neg hk]
   rw [e]; exact beside_no c1 hk h
def chkB (S : PSt) (x y : PCall) (want : Bool) : Bool := askedM S x y && (okD S x && (okD S y && (vOk S x && (vOk S y && (lvC S x && (lvC S y && (decide (x.kind < 14) && (decide (y.kind < 14) && (decide (dB S x ≠ 0 ∧ dB S x = dB S y) && (sideB S x y && (sideB S y x && ((!(meetsM (dT S x) (dL S y) (dT S y) || meetsM (dT S y) (dL S x) (dT S x)) && (besM x y ((doD S y).2.code == 0) && besM y x ((doD S x).2.code == 0))) == want))))))))))))
theorem chkB_ap {S : PSt} {x y : PCall} {want : Bool} (h : chkB S x y want = true) (iv ov mv : Value) (w : World) (hr : StRead w iv ov mv S) :
 Calls Tryz.prog 10 #[.agg #[iv, ov, mv], x.val, y.val] w fun e w' => e = .returned (.bool want) ∧ Below w.heap.size w w' := by
 unfold chkB lvC at h
 simp only [Bool.and_eq_true, decide_eq_true_eq, beq_iff_eq] at h
 obtain ⟨h1, h2, h3, h4, h5, ⟨a1, a2⟩, ⟨b1, b2⟩, hx, hy, ⟨hby, hbe⟩, s1, s2, h8⟩ := h
 have hl := (good_wf (good_d h2)).1.1
 have := apart_bytes iv ov mv S x y _ _ _ _ _ _ _ _ _ _ _ _ w hr (good_wf (good_d h2)).1 h1 (by omega) (by omega) (view_d h2 h4) (view_d h3 h5) hby hbe _ _ (fun ww k1 k2 p v1 v2 hs => side_ok hl s1 ww k1 k2 p v1 v2 hs) (fun ww k1 k2 p v1 v2 hs => side_ok hl s2 ww k2 k1 p v2 v1 hs) (.inr (by omega)) (.inr (by omega)) (lenB a1) (lenB b1) (lenB a2) (lenB b2)
 rw [h8] at this
 exact this
def chkW (S : PSt) (x y : PCall) (want : Bool) : Bool := chkV2 S x y want || chkB S x y want
theorem chkW_ap {S : PSt} {x y : PCall} {want : Bool} (h : chkW S x y want = true) (iv ov mv : Value) (w : World) (hr : StRead w iv ov mv S) :
 Calls Tryz.prog 10 #[.agg #[iv, ov, mv], x.val, y.val] w fun e w' => e = .returned (.bool want) ∧ Below w.heap.size w w' := by
 unfold chkW at h
 rw [Bool.or_eq_true] at h
 exact h.elim (fun h => chkV2_ap h iv ov mv w hr) (fun h => chkB_ap h iv ov mv w hr)
def pD (c : UInt8) (p : ByteArray) : ByteArray := ⟨#[47, c]⟩ ++ p
def hexS : ByteArray := ⟨#[48, 49, 50, 51, 52, 53, 54, 55, 56, 57, 97, 98, 99, 100, 101, 102]⟩
def hexR : ByteArray := ⟨#[102, 101, 100, 99, 98, 97, 57, 56, 55, 54, 53, 52, 51, 50, 49, 48]⟩
def cRead (v : Int) (p : Int) : PCall := ⟨4, v, 0, p, 16, ⟨#[]⟩, ⟨#[]⟩, ⟨#[]⟩⟩
def cWrite (v : Int) (p : Int) (d : ByteArray) : PCall := ⟨5, v, 0, p, 0, ⟨#[]⟩, ⟨#[]⟩, d⟩
def cPath (k v : Int) (p : ByteArray) : PCall := ⟨k, v, 0, 0, 0, p, ⟨#[]⟩, ⟨#[]⟩⟩
def offP (n : Nat) : Int := ((16 * (n % 12) : Nat) : Int)
def pairX (W n : Nat) : PCall := if W < 16 then namedM (kd (W / 4)) 0 (pth n) else if W < 32 then namedM (kd (W / 4 % 4)) 0 (pD 100 (pth n)) else match W with
 | 32 => cRead 0 (offP n)
 | 33 => cWrite 0 (offP n) hexS
 | 34 => cWrite 0 (offP n) hexS
 | 35 => cWrite 0 (offP n) hexS
 | 36 => cWrite 0 (offP n) hexS
 | 37 => cPath 2 0 ⟨#[47, 120]⟩
 | 38 => cPath 3 0 ⟨#[]⟩
 | _ => cPath 12 0 ⟨#[47, 100]⟩
def pairY (W m : Nat) : PCall := if W < 16 then namedM (kd (W % 4)) 1 (pth m) else if W < 32 then namedM (kd (W % 4)) 1 (pD 101 (pth m)) else match W with
 | 32 => cRead 1 (offP m)
 | 33 => cWrite 1 (offP m) hexR
 | 34 => cRead 1 (offP m)
 | 35 => cPath 7 1 ⟨#[]⟩
 | 36 => cPath 2 1 ⟨#[47, 120]⟩
 | 37 => cPath 2 1 ⟨#[47, 120]⟩
 | 38 => cPath 3 1 ⟨#[]⟩
 | _ => cPath 0 1 (pD 101 (pth m))
def pairWant (W n m : Nat) : Bool := if W < 16 then wantA W n m else true
def pairOk (W n m : Nat) : Bool := if W < 32 then !(n == m) else if W = 33 ∨ W = 34 then !(n % 12 == m % 12) else true
def rowP (W n : Nat) : Bool := (List.range 16).all fun m => !(pairOk W n m) || (chkU s6 (pairX W n) (pairY W m) && chkW s6 (pairX W n) (pairY W m) (pairWant W n m))
end Go.Proofs.YtjkenolgkkknaaaGreatDoor
