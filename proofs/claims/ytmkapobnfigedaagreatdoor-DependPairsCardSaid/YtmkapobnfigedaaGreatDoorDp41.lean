/- Part of the proof of a law of chapter 15. Conditions: none. -/
import Derived.Test.YtmkapobnfigedaaGreatDoorDp39
import Derived.Test.YtmkapobnfigedaaGreatDoorDp40
set_option linter.unusedVariables false
set_option linter.unusedSimpArgs false
set_option maxRecDepth 100000
set_option maxHeartbeats 8000000
namespace Go.Proofs.YtmkapobnfigedaaGreatDoor
open Go.RowKit
def rowM : PSt → List PCall → List (List PKey)
 | _, [] => []
 | S, c :: r => keysM S c :: rowM (doX S c).1 r
def stM : PSt → List PCall → PSt
 | S, [] => S
 | S, c :: r => stM (doX S c).1 r
theorem rowM_len : ∀ (cs : List PCall) (S : PSt), (rowM S cs).length = cs.length
 | [], _ => rfl
 | c :: r, S => by unfold rowM; rw [List.length_cons, rowM_len r, List.length_cons]
theorem stM_wf : ∀ (cs : List PCall) (S : PSt), S.wf → (stM S cs).wf
 | [], _, h => h
 | c :: r, S, h => stM_wf r _ (doX_wf h)
theorem stM_snoc : ∀ (cs : List PCall) (S : PSt) (c : PCall), stM S (cs ++ [c]) = (doX (stM S cs) c).1
 | [], _, _ => rfl
 | d :: r, S, c => stM_snoc r _ c
theorem rowM_snoc : ∀ (cs : List PCall) (S : PSt) (c : PCall), rowM S (cs ++ [c]) = rowM S cs ++ [keysM (stM S cs) c]
 | [], _, _ => rfl
 | d :: r, S, c => by
   show keysM S d :: rowM _ (r ++ [c]) = _; rw [rowM_snoc r]; rfl
def StHere (w wr : World) (iv ov mv : Value) (S : PSt) : Prop := (StRead w iv ov mv S ∧ Below w.heap.size w wr) ∨ StOwn w.heap.size wr iv ov mv S
theorem StHere.read {w wr : World} {iv ov mv : Value} {S : PSt} (h : StHere w wr iv ov mv S) : StRead wr iv ov mv S := by
 rcases h with ⟨h, hb⟩ | h
 · exact h.below hb (Nat.le_refl _)
 · exact h.read
theorem StHere.keep {w wr w' : World} {iv ov mv : Value} {S : PSt} {X : Nat → Prop} (h : StHere w wr iv ov mv S) (hk : Keep X wr w') (hw : w.heap.size ≤ wr.heap.size) (h1 : ∀ g, X g → w.heap.size ≤ g) (hX : ∀ g, X g → ∃ c t, Blk wr g c t ∧ t ≠ 95 ∧ t ≠ 3 ∧ t ≠ 68 ∧ t ≠ 97) : StHere w w' iv ov mv S := by
 rcases h with ⟨h, hb⟩ | h
 · exact .inl ⟨h, hb.trans (hk.below hw (fun i hi hg => by have := h1 i hg; omega))⟩
 · exact .inr (StOwn.keep h hk hX)
structure KRows (B : Nat) (w : World) (vo : Value) (kss : List (List PKey)) (kvs : List Value) : Prop where
 out : OwnP B w 29 1 vo (kvs.map fun kv => [kv])
 len : kvs.length = kss.length
 keys : ∀ (i : Nat) (kv : Value) (ks : List PKey), kvs[i]? = some kv → kss[i]? = some ks → OwnP B w 61 2 kv (ks.map PKey.cells)
theorem KRows.keep {B : Nat} {w w' : World} {vo : Value} {kss : List (List PKey)} {kvs : List Value} {X : Nat → Prop} (h : KRows B w vo kss kvs) (hk : Keep X w w') (hX : ∀ g, X g → ∃ c t, Blk w g c t ∧ t ≠ 29 ∧ t ≠ 61) : KRows B w' vo kss kvs := by
 obtain ⟨h1, h2, h3⟩ := h
 refine ⟨OwnP.keep h1 hk (fun g hg hx => ?_), h2, fun i kv ks hi hj => OwnP.keep (h3 i kv ks hi hj) hk (fun g hg hx => ?_)⟩
 · obtain ⟨c, t, hb, n1, n2⟩ := hX g hx; exact h1.ne_blk hb n1.symm hg rfl
 · obtain ⟨c, t, hb, n1, n2⟩ := hX g hx; exact (h3 i kv ks hi hj).ne_blk hb n2.symm hg rfl
theorem OwnP.blk {B : Nat} {w : World} {e : TypeId} {k : Nat} {v : Value} {rows : List (List Value)} (h : OwnP B w e k v rows) {g : Nat} (hg : v.ownBlock = some g) : ∃ c, Blk w g c e := by
 rcases h with ⟨rfl, _⟩ | ⟨g', cap, cur, rfl, _, hb, _⟩
 · simp [Value.ownBlock] at hg
 · simp [Value.ownBlock] at hg; subst hg; exact ⟨_, hb⟩
theorem KRows.more {B : Nat} {w w1 w2 : World} {vo v' kv : Value} {kss : List (List PKey)} {kvs : List Value} {ks : List PKey} (h : KRows B w vo kss kvs) (hn : OwnP B w 61 2 kv (ks.map PKey.cells)) (hb : Below w.heap.size w w1) (hG : Grew B 29 1 w1 vo ((kvs ++ [kv]).map fun kv => [kv]) v' w2) : KRows B w2 v' (kss ++ [ks]) (kvs ++ [kv]) := by
 obtain ⟨g1, g2, -⟩ := hG
 obtain ⟨h1, h2, h3⟩ := h
 have key : ∀ (kv : Value) (ks : List PKey), OwnP B w 61 2 kv (ks.map PKey.cells) → OwnP B w2 61 2 kv (ks.map PKey.cells) := fun kv ks ho => by
  refine OwnP.keep (OwnP.keep ho (Keep.of_below hb (fun _ => False)) (fun _ _ h => h)) g2 (fun g hg hx => ?_); obtain ⟨c, hc⟩ := h1.blk hx; exact ho.ne_blk hc (by decide) hg rfl
 refine ⟨g1, by rw [lP, lP, h2]; rfl, fun i kv' ks' hi hj => ?_⟩
 by_cases hl : i < kvs.length
 · rw [List.getElem?_append_left hl] at hi; rw [List.getElem?_append_left (by omega)] at hj; exact key kv' ks' (h3 i kv' ks' hi hj)
 · rw [List.getElem?_append_right (by omega)] at hi; rw [List.getElem?_append_right (by omega)] at hj; rcases hz : i - kvs.length with _ | z
   · rw [hz] at hi; rw [← h2, hz] at hj; cases hi; cases hj; exact key _ _ hn
   · rw [hz] at hi; simp at hi
theorem info29 : (Tryz.prog.info? 29).map (fun i => (i.zero, i.size, i.bytes)) = some (some (.slice none 0 0), 1, 24) := by kernel_rfl
theorem app29 {w : World} {ops : Array Oper} {rest : List Oper} {o : Oper} {a : Act} {Q : Exit → Act → World → Prop} (hgd : o.guard = none) (s y : Operand)
 (hop : o.op = .call { callee := .builtin .append, args := #[s, y], argTypes := #[85, 85] }) (B : Nat) (v x kv : Value) (kvs : List Value) (hs : a.eval s = v) (hy : a.eval y = x) (ho : OwnP B w 29 1 v (kvs.map fun kv => [kv])) (hx : RowAt w 1 x [[kv]]) (h1 : kv.oneCell' = true) (hl : kvs.length ≤ 1000000000000) (hB : B ≤ w.heap.size)
 (h : ∀ v' w', Grew B 29 1 w v ((kvs ++ [kv]).map fun kv => [kv]) v' w' → wpList Tryz.prog ops Q rest (a.put o.dst v') w') :
 wpList Tryz.prog ops Q (o :: rest) a w := by
 obtain ⟨i, hi, hz, h2, h3⟩ := info_parts info29
 refine wpList_append_P w hgd s y 85 hop B 29 1 24 i _ Tryz.underlying85 hi hz h2 h3 rfl (by decide) v x (kvs.map fun kv => [kv]) [[kv]] hs hy (by
  intro cs hc; obtain ⟨r, _, rfl⟩ := List.mem_map.1 hc; rfl) (by intro cs hc; simp only [List.mem_singleton] at hc; subst hc; rfl) (by intro cs hc u hu; simp only [List.mem_singleton] at hc; subst hc; simp only [List.mem_singleton] at hu; subst hu; exact h1) ho hx ?_ ?_ hB ?_
 · rw [lM, List.length_singleton]; unfold maxLen; omega
 · rw [lM, List.length_singleton]; omega
 · intro v' w' hg; exact h v' w' (by rw [List.map_append]; exact hg)
theorem row54 (iv ov mv : Value) (S : PSt) (cs : List PCall) (vc : Value) (w : World) (h : StRead w iv ov mv S) (hwf : S.wf) (hc : RowAt w 8 vc (cs.map PCall.cells)) (hcd : ∀ c ∈ cs, c.data.size ≤ 1000000000000000000) (hcl : cs.length ≤ 1000000000) :
 Calls Tryz.prog 54 #[.agg #[iv, ov, mv], vc] w fun e w' => Below w.heap.size w w' ∧ ∃ vo kvs, e = .returned vo ∧ KRows w.heap.size w' vo (rowM S cs) kvs := by
 have o1 := h.1.one
 have o2 := h.2.1.one
 have o3 : iv.oneCell' = true := by obtain ⟨_, _, _, h3, _⟩ := h; exact h3.one
 obtain ⟨ac, cc, rfl, hatc⟩ := hc.at_
 rw [lM]
 have HS := Lib.hid (And.intro h hatc)
 clear h hatc hc
 go_enter Tryz.func54, Tryz.ntmps54
 go_upto_region 2 with fail
 refine abs_world (F := fun wA => Below w.heap.size w wA ∧ (∃ iv ov mv, Blk wA w.heap.size #[iv, ov, mv] 26 ∧ StHere w wA iv ov mv S) ∧ KRows w.heap.size wA (.slice none 0 0) [] []) ⟨bel w _, ⟨iv, ov, mv, Blk.new _ _ _, .inl ⟨HS.out.1, bel w _⟩⟩, ⟨.inl ⟨rfl, rfl⟩, rfl, fun i kv ks h => by simp at h⟩⟩ ?_
 intro wA HA0
 have HA := Lib.hid HA0
 clear HA0
 go_wp2_with fail
 go_loopw [5, 11] (fun vo vi wr => ∃ (q : Nat) (kvs : List Value) (vx : Value), vi = .int .i64 q ∧ vx = vo ∧ q ≤ cs.length ∧ Below w.heap.size w wr ∧ (∃ iv ov mv, Blk wr w.heap.size #[iv, ov, mv] 26 ∧ StHere w wr iv ov mv (stM S (cs.take q))) ∧ KRows w.heap.size wr vx (rowM S (cs.take q)) kvs) (fun _ vi _ => (cs.length - intOf vi).toNat)
 case atStart => exact ⟨0, [], _, rfl, rfl, by omega, HA.out.1, HA.out.2.1, HA.out.2.2⟩
 case round =>
  obtain ⟨q, kvs, vx, rfl, rfl, hq, hbr, ⟨iv2, ov2, mv2, hbk, hst⟩, hkr⟩ := hrel; by_cases hlt : q < cs.length
  · obtain ⟨c, hc⟩ : ∃ c, cs[q]? = some c := ⟨_, gE hlt⟩
    obtain ⟨bc, offc, rfl, iC0, iC, hcc⟩ := HS.out.2 wr hbr q c.cells (by rw [gM, hc]; rfl); have c0 := hcc 0 _ rfl; have c1 := hcc 1 _ rfl; have c2 := hcc 2 _ rfl; have c3 := hcc 3 _ rfl; have c4 := hcc 4 _ rfl; have c5 := hcc 5 _ rfl; have c6 := hcc 6 _ rfl; have c7 := hcc 7 _ rfl; rw [Nat.add_zero] at c0; have hwfq := stM_wf (cs.take q) S hwf; have hkeys := fun (ww : World) (hb : Below wr.heap.size wr ww) => keys40 iv2 ov2 mv2 (stM S (cs.take q)) c ww (hst.read.below hb (Nat.le_refl _)) hwfq (doX_wf hwfq) (hcd c (mG hc))
    have htk : cs.take (q + 1) = cs.take q ++ [c] := by
     rw [List.take_succ_eq_append_getElem hlt]
     congr 2
     rw [gE hlt] at hc; exact Option.some.inj hc
    have hs2 : (doX (stM S (cs.take q)) c).1 = stM S (cs.take (q + 1)) := by rw [htk, stM_snoc]
    have hr2 : rowM S (cs.take (q + 1)) = rowM S (cs.take q) ++ [keysM (stM S (cs.take q)) c] := by rw [htk, rowM_snoc]
    rw [hs2] at hkeys; have hq1 := hst.read.1.one; have hq2 := hst.read.2.1.one; have hq3 : iv2.oneCell' = true := by obtain ⟨_, _, _, h3, _⟩ := hst.read; exact h3.one
    have ib := hbk.lt; have k0 : wr.cell? ⟨w.heap.size, 0, none⟩ = some iv2 := hbk.cell 0; have k1 : wr.cell? ⟨w.heap.size, 1, none⟩ = some ov2 := hbk.cell 1; have k2 : wr.cell? ⟨w.heap.size, 2, none⟩ = some mv2 := hbk.cell 2; have hbx : ∀ w1, Below (wr.alloc (.cells #[.int .i64 c.kind, .int .i64 c.core, .int .i64 c.fd, .int .i64 c.off, .int .i64 c.num, .string c.path, .string c.path2, .string c.data] 28)).heap.size (wr.alloc (.cells #[.int .i64 c.kind, .int .i64 c.core, .int .i64 c.fd, .int .i64 c.off, .int .i64 c.num, .string c.path, .string c.path2, .string c.data] 28)) w1 → Blk w1 w.heap.size #[iv2, ov2, mv2] 26 := fun w1 hb => (hbk.alloc _).below hb (by have := ib.lt; simp; omega)
    have hwx : ∀ w1, Below (wr.alloc (.cells #[.int .i64 c.kind, .int .i64 c.core, .int .i64 c.fd, .int .i64 c.off, .int .i64 c.num, .string c.path, .string c.path2, .string c.data] 28)).heap.size (wr.alloc (.cells #[.int .i64 c.kind, .int .i64 c.core, .int .i64 c.fd, .int .i64 c.off, .int .i64 c.num, .string c.path, .string c.path2, .string c.data] 28)) w1 → Below wr.heap.size wr w1 := fun w1 hb => (bel wr _).trans (hb.mono (by simp))
    have hge : ∀ w1, Below (wr.alloc (.cells #[.int .i64 c.kind, .int .i64 c.core, .int .i64 c.fd, .int .i64 c.off, .int .i64 c.num, .string c.path, .string c.path2, .string c.data] 28)).heap.size (wr.alloc (.cells #[.int .i64 c.kind, .int .i64 c.core, .int .i64 c.fd, .int .i64 c.off, .int .i64 c.num, .string c.path, .string c.path2, .string c.data] 28)) w1 → w.heap.size ≤ (wr.alloc (.cells #[.int .i64 c.kind, .int .i64 c.core, .int .i64 c.fd, .int .i64 c.off, .int .i64 c.num, .string c.path, .string c.path2, .string c.data] 28)).heap.size := fun w1 _ => by have := ib.lt; simp; omega
    have HR := Lib.hid (And.intro hbr (And.intro hkr (And.intro hr2 hbk))); clear hbr hst hkr hr2 hs2 htk hcc hc hbk hwfq; unfold PCall.val at hkeys
    go_upto_region 7 with (go_at_call 40; refine (hkeys _ (bel _ _)).mono ?_; rintro e w1 ⟨hb1, kv, iv3, ov3, mv3, rfl, hok, hso⟩; have hwr1 := hwx w1 hb1; have hby := hbx w1 hb1; have hgw := hge w1 hb1; have x0 : w1.cell? ⟨w.heap.size, 0, none⟩ = some iv2 := hby.cell 0; have x1 : w1.cell? ⟨w.heap.size, 1, none⟩ = some ov2 := hby.cell 1; have x2 : w1.cell? ⟨w.heap.size, 2, none⟩ = some mv2 := hby.cell 2; have fx0 := hby.frozen 0; have fx1 := hby.frozen 1; have fx2 := hby.frozen 2; have ix := hby.lt; obtain ⟨a11, a12, a13, a14, a15, a16, a17, a18, a19, rfl, rfl, rfl⟩ := hso.forms; clear hb1)
    have hokM := OwnP.mono hok hgw; have hsoM := StOwn.mono hso hgw; clear hok hso; have hkp : ∀ (u0 u1 u2 : Value), Keep (fun g => g = w.heap.size) wr (((w1.setCell ⟨w.heap.size, 0, none⟩ u0).setCell ⟨w.heap.size, 1, none⟩ u1).setCell ⟨w.heap.size, 2, none⟩ u2) := fun u0 u1 u2 => (((Keep.of_below hwr1 (fun g => g = w.heap.size)).setCell (p := ⟨w.heap.size, 0, none⟩) (.inl rfl) _).setCell (p := ⟨w.heap.size, 1, none⟩) (.inl rfl) _).setCell (p := ⟨w.heap.size, 2, none⟩) (.inl rfl) _
    have hkq : ∀ (u0 u1 u2 : Value), Keep (fun g => g = w.heap.size) w1 (((w1.setCell ⟨w.heap.size, 0, none⟩ u0).setCell ⟨w.heap.size, 1, none⟩ u1).setCell ⟨w.heap.size, 2, none⟩ u2) := fun u0 u1 u2 => (((Keep.refl (fun g => g = w.heap.size) w1).setCell (p := ⟨w.heap.size, 0, none⟩) (.inl rfl) _).setCell (p := ⟨w.heap.size, 1, none⟩) (.inl rfl) _).setCell (p := ⟨w.heap.size, 2, none⟩) (.inl rfl) _
    refine abs_world (F := fun wB => Below w.heap.size w wB ∧ (∃ iv ov mv, Blk wB w.heap.size #[iv, ov, mv] 26 ∧ StHere w wB iv ov mv (stM S (cs.take (q + 1)))) ∧ KRows w.heap.size wB vx (rowM S (cs.take q)) kvs ∧ OwnP w.heap.size wB 61 2 kv ((keysM (stM S (cs.take q)) c).map PKey.cells)) ⟨?_, ?_, ?_, ?_⟩ ?_
    · exact HR.out.1.trans ((hkp _ _ _).below HR.out.1.size (fun i hi hg => by omega))
    · exact ⟨_, _, _, ((hby.set_ 0 _).set_ 1 _).set_ 2 _, .inr (StOwn.keep hsoM (hkq _ _ _) (fun g hg => by rw [hg]; exact ⟨_, 26, hby, by decide, by decide, by decide, by decide⟩))⟩
    · exact HR.out.2.1.keep (hkp _ _ _) (fun g hg => by rw [hg]; exact ⟨_, 26, HR.out.2.2.2, by decide, by decide⟩)
    · exact OwnP.keep hokM (hkq _ _ _) (fun g hg hx => by
       rw [hx] at hg; exact hokM.ne_blk hby (by decide) hg rfl)
    clear hokM hsoM hkp hkq hby hwr1 x0 x1 x2 fx0 fx1 fx2 ix k0 k1 k2; rintro wB ⟨hbB, hstB, hkB, hokB⟩; have hBs := hbB.size; obtain ⟨ak, nk, ck, rfl⟩ : ∃ a n c, kv = .slice a n c := by obtain ⟨a, c, h, -⟩ := hokB.row; exact ⟨a, _, c, h⟩
    have hkv1 := hokB.one; have HB := Lib.hid (And.intro hbB (And.intro hstB (And.intro hkB hokB))); have hkl := HB.out.2.2.1.len; rw [rowM_len, List.length_take] at hkl; have C1 : OwnP w.heap.size (wB.alloc (.cells #[.slice ak nk ck] 29)) 29 1 vx (kvs.map fun kv => [kv]) := OwnP.keep HB.out.2.2.1.out (Keep.of_below (bel wB _) (fun _ => False)) (fun _ _ h => h); have C2 : RowAt (wB.alloc (.cells #[.slice ak nk ck] 29)) 1 (.slice (some ⟨wB.heap.size, 0, none⟩) 1 1) [[.slice ak nk ck]] := OwnP.row (B := 0) (e := 29) (.inr ⟨wB.heap.size, 1, #[.slice ak nk ck], rfl, Nat.zero_le _, Blk.new _ _ _, Nat.le_refl _, by decide, rfl, fun q' cs' hq' t u hu => by
     rcases q' with _ | q'
     · simp only [List.getElem?_cons_zero, Option.some.injEq] at hq'; subst hq'; rcases t with _ | t
       · exact hu
       · simp at hu
     · simp at hq'⟩)
    have C5 : w.heap.size ≤ (wB.alloc (.cells #[.slice ak nk ck] 29)).heap.size := by simp; omega
    have C4 : kvs.length ≤ 1000000000000 := by omega
    have CC := Lib.hid (And.intro C1 (And.intro C2 (And.intro C5 C4))); clear C1 C2 C5 C4 hbB hstB hkB hokB hkl; go_wp2_with (at_builtin; refine app29 rfl _ _ rfl w.heap.size vx (.slice (some ⟨wB.heap.size, 0, none⟩) 1 1) (.slice ak nk ck) kvs rfl rfl CC.out.1 CC.out.2.1 hkv1 CC.out.2.2.2 CC.out.2.2.1 ?_)
    intro v' w2 hG; rw [show (List.map (fun kv => [kv]) kvs ++ [[Value.slice ak nk ck]]) = (kvs ++ [Value.slice ak nk ck]).map (fun kv => [kv]) by rw [List.map_append]; rfl] at hG; have hG2 := HB.out.2.2.1.more HB.out.2.2.2 (bel wB (wB.alloc (.cells #[.slice ak nk ck] 29))) hG; rw [← HR.out.2.2.1] at hG2; have hkG : Keep (fun g => vx.ownBlock = some g) wB w2 := (Keep.of_below (bel wB (wB.alloc (.cells #[.slice ak nk ck] 29))) _).trans hG.2.1 (fun i hi hg => hg); have hxb : ∀ g, vx.ownBlock = some g → w.heap.size ≤ g ∧ ∃ c, Blk wB g c 29 := fun g hg => ⟨HB.out.2.2.1.out.ge hg, HB.out.2.2.1.out.blk hg⟩
    have hbF : Below w.heap.size w w2 := HB.out.1.trans (hkG.below hBs (fun i hi hg => by have := (hxb i hg).1; omega)); have hstF : ∃ iv ov mv, Blk w2 w.heap.size #[iv, ov, mv] 26 ∧ StHere w w2 iv ov mv (stM S (cs.take (q + 1))) := by
     obtain ⟨iv, ov, mv, h1, h2⟩ := HB.out.2.1; exact ⟨iv, ov, mv, hkG.blk h1 (fun hg => by
      obtain ⟨_, c, hc⟩ := hxb _ hg; exact hc.ne_ h1 (by decide) rfl), h2.keep hkG hBs (fun g hg => (hxb g hg).1) (fun g hg => by
      obtain ⟨_, c, hc⟩ := hxb g hg; exact ⟨c, 29, hc, by decide, by decide, by decide, by decide⟩)⟩
    have HF := Lib.hid (And.intro hbF (And.intro hstF hG2)); clear hG hG2 hkG hxb hbF hstF; go_wp2_with fail
    go_roundw
    case rel => exact ⟨q + 1, _, v', by go_num, rfl, by omega, HF.out.1, HF.out.2.1, HF.out.2.2⟩
    case measure => simp [intOf]; omega
  · have e : cs.take q = cs := List.take_of_length_le (by omega); rw [e] at hkr; have HK := Lib.hid (And.intro hbr hkr); clear hbr hst hbk hkr e; go_wp2_with fail; go_ret; exact ⟨HK.out.1.trans ((bel wr _).mono HK.out.1.size), vx, kvs, rfl, HK.out.2.keep (Keep.of_below (bel wr _) (fun _ => False)) (fun _ h => h.elim)⟩
end Go.Proofs.YtmkapobnfigedaaGreatDoor
